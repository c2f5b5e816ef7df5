/- The walk of journal.may. The walk of journal.Balance; plain facts of Post. The walk of journal.Post: plain answer, and up to the balances. -/
import Derived.Test.YtecbnhmnhcpcmaaGreatDoorPkJournalPlays19
/-! The walk of journal.may. -/
namespace Go.Proofs.YtecbnhmnhcpcmaaGreatDoor
open Go.RowKit Go.WideMaps Go.Maps
set_option linter.unusedVariables false
set_option linter.unusedSimpArgs false
set_option maxRecDepth 100000
def keyP (p : Pt) : Lit := .string p.a.data.toList
abbrev yesD : DM := .lit (.bool true)
/-- are all accounts different? -/
def apartB (L : List Pt) : Bool := decide (((L.map keyP).foldl addKey []).length = L.length)
/-- may parts be posted, but for their sums? -/
noncomputable def mayJ (L : List Pt) : Bool := L.all (fun p => accB p.a) && (decide (2 ≤ L.length) && apartB L)
theorem key_ba (s : ByteArray) (hs : s.size ≤ 1000000) : keyOf Tryz.prog 9 (.string s) = some (.string s.data.toList) :=
  keyOf_string_mk (P := Tryz.prog) (k := 9) Tryz.underlying9 (by unfold maxLen; omega)
theorem bool_elem (b : Bool) : plainElem (H := Unit) Tryz.prog 4 (.bool b) = some (.lit (.bool b), []) := plainElem_bool Tryz.underlying4 b
set_option maxHeartbeats 4000000 in
theorem may_any (lv : Value) (L : List Pt) (w : World) (hE : EnvA w) (hl : RowsIn w lv 2 (L.map Pt.cells)) (hn : L.length ≤ 1000) (hs : ∀ p ∈ L, p.a.size ≤ 100000) : Calls Tryz.prog 31 #[lv] w fun e w' => e = .returned (.bool (mayJ L)) ∧ Below w.heap.size w w' := by
  have HE := Lib.hid hE
  have HL := Lib.hid hl
  have HS := Lib.hid hs
  obtain ⟨a, c, rfl⟩ := pt_form hl
  have hmm := @run_makeMap Tryz.prog
  have O0 := Lib.hid (World.ownsMap_made (H := Unit) w Tryz.prog 9 (plainElem Tryz.prog 4))
  have B0 := Lib.hid (below_alloc w (.map #[] 0))
  clear hl hE hs
  go_enter Tryz.func31, Tryz.ntmps31
  go_wp2_with fail
  generalize w.alloc (.map #[] 0) = W0 at *
  go_loopw [12] (fun iv wr => ∃ k : Nat, k ≤ L.length ∧ iv = .int .i64 k ∧ Hid ((L.take k).all (fun p => accB p.a) = true) ∧ Hid (wr.ownsMap Tryz.prog 9 (plainElem Tryz.prog 4) w.heap.size k (setOf yesD ((L.take k).map keyP))) ∧ Hid (Below w.heap.size w wr)) (fun iv _ => L.length - (intOf iv).toNat)
  case atStart => exact ⟨0, by omega, rfl, rfl, O0.out, B0.out⟩
  case round =>
    obtain ⟨k, hk, rfl, HA, OR, BR⟩ := hrel
    by_cases hlt : k < L.length
    · obtain ⟨g, o, rfl, y0, y1⟩ := pt_cells (HL.out.below BR.out) k hlt
      have hz : (k : Int) < L.length := by omega
      have h1 := HS.out L[k] (List.getElem_mem hlt)
      have HT : Hid ((L.take (k + 1)).all (fun p => accB p.a) = accB L[k].a) := by
        show _ = _
        rw [List.take_succ_eq_append_getElem hlt, List.all_append, HA.out]
        simp
      have HK : Hid ((L.take (k + 1)).map keyP = (L.take k).map keyP ++ [keyP L[k]]) := by
        show _ = _
        rw [List.take_succ_eq_append_getElem hlt, List.map_append]
        rfl
      have HF : Hid (accB L[k].a = false → mayJ L = false) := fun h => by
        unfold mayJ
        rw [List.all_eq_false.2 ⟨L[k], List.getElem_mem hlt, by rw [h]; decide⟩]
        rfl
      generalize L[k] = p at *
      obtain ⟨s, n⟩ := p
      dsimp only at y0 y1 h1 HT HF
      have ba := below_alloc wr (.cells #[.string s, .int .i64 n] 41)
      have P1 := Lib.hid (heap_alloc_new wr (.cells #[.string s, .int .i64 n] 41))
      have BV := Lib.hid (onward ba BR.out)
      have OV := Lib.hid (OR.out.alloc (.cells #[.string s, .int .i64 n] 41))
      have PX := Lib.hid (aparseB s _ (HE.out.below (onward ba BR.out)) h1)
      clear ba BR OR
      go_wp2_with fail
      generalize wr.alloc (.cells #[.string s, .int .i64 n] 41) = V at *
      refine PX.out.mono ?_
      rintro e w2 ⟨x, nv, rfl, hb⟩
      have B2 := Lib.hid (onward hb BV.out)
      have O2 := Lib.hid (OV.out.kept (row := none) ⟨hb.os, hb.tape, hb.output, hb.size, fun k hk _ => hb.block k hk⟩ (by simp))
      obtain ⟨q0, q1⟩ := part_cells2 (stays_block hb P1.out)
      clear hb PX OV P1
      cases hB : accB s
      · have HF2 := Lib.hid (HF.out hB)
        clear hB HF HT HK
        go_wp2_with fail
        go_ret
        exact ⟨by rw [HF2.out]; rfl, B2.out⟩
      · have HT2 : Hid ((L.take (k + 1)).all (fun p => accB p.a) = true) := by show _ = _; rw [HT.out, hB]
        clear hB HF HT
        go_wp2_with (at_mapUpdate; refine wpList_mapUpdate_in _ rfl (.tmp 25) (.tmp 27) (.const (.bool true)) 67 rfl 9 4 keyStr Tryz.underlying67 (plainElem Tryz.prog 4) w.heap.size k _ rfl O2.out (by unfold maxLen; omega) (.string s) (.bool true) (.string s.data.toList) rfl rfl (key_ba s (by omega)) yesD [] (bool_elem true) ?_)
        intro w3 ho ht
        have O3 : Hid (w3.ownsMap Tryz.prog 9 (plainElem Tryz.prog 4) w.heap.size (k + 1) (setOf yesD ((L.take (k + 1)).map keyP))) := by
          show World.ownsMap _ _ _ _ _ _ _
          rw [HK.out, setOf_snoc]
          first
          | exact ho
          | (rw [List.map_take]; exact ho)
        have B3 : Hid (Below w.heap.size w w3) := B2.out.grown ht.grown B2.out.size (fun k hk => by injection hk with hk; omega)
        clear ho ht O2 HK
        go_wp2_with fail
        go_roundw
        case rel => exact ⟨k + 1, by omega, by go_num, HT2.out, O3.out, B3.out⟩
        case measure => simp [intOf]; omega
    · obtain rfl : k = L.length := by omega
      have OR2 := OR.out
      have HA2 := HA.out
      rw [List.take_length] at OR2 HA2
      have LN := OR2.len Tryz.underlying67 3
      rw [size_setOf yesD _ (fun x hx => by obtain ⟨p, -, rfl⟩ := List.mem_map.1 hx; trivial)] at LN
      have HV : Hid (mayJ L = (decide (2 ≤ L.length) && decide (((L.map keyP).foldl addKey []).length = L.length))) := by
        show _ = _
        unfold mayJ apartB
        rw [HA2]
        rfl
      generalize ((L.map keyP).foldl addKey []).length = cn at *
      clear OR OR2 HA HA2 hlt
      by_cases h2 : 2 ≤ L.length
      · have d1 : decide ((2 : Int) ≤ (L.length : Int)) = true := decide_eq_true (by omega)
        by_cases he : cn = L.length
        · have d2 : (((cn : Nat) : Int) == ((L.length : Nat) : Int)) = true := by rw [he, beq_self_eq_true]
          have HR : Hid (mayJ L = true) := by (show _ = _); rw [HV.out, decide_eq_true h2, decide_eq_true he]; rfl
          clear HV he
          go_wp2_with fail
          go_ret
          exact ⟨by rw [HR.out]; rfl, BR.out⟩
        · have d2 : (((cn : Nat) : Int) == ((L.length : Nat) : Int)) = false := by rw [beq_eq_false_iff_ne]; omega
          have HR : Hid (mayJ L = false) := by (show _ = _); rw [HV.out, decide_eq_true h2, decide_eq_false he]; rfl
          clear HV
          go_wp2_with fail
          go_ret
          exact ⟨by rw [HR.out]; rfl, BR.out⟩
      · have d1 : decide ((2 : Int) ≤ (L.length : Int)) = false := decide_eq_false (by omega)
        have HR : Hid (mayJ L = false) := by (show _ = _); rw [HV.out, decide_eq_false h2]; rfl
        clear HV
        go_wp2_with fail
        go_ret
        exact ⟨by rw [HR.out]; rfl, BR.out⟩
end Go.Proofs.YtecbnhmnhcpcmaaGreatDoor
/-! The walk of journal.Balance; plain facts of Post. -/
namespace Go.Proofs.YtecbnhmnhcpcmaaGreatDoor
open Go.RowKit Go.WideMaps Go.Maps
set_option linter.unusedVariables false
set_option linter.unusedSimpArgs false
set_option maxRecDepth 100000
def balK (s : ByteArray) : Bs := 98 :: s.data.toList
/-- what Balance answers -/
noncomputable def balV (D : DM) (s : ByteArray) : Int × Int := if accB s = true then (wrap64 (numAt D (balK s)).1, (numAt D (balK s)).2) else (0, 1)
theorem balK_len (s : ByteArray) (hs : s.size ≤ 100000) : (balK s).length ≤ 1000000 := by
  unfold balK
  rw [List.length_cons, Array.length_toList]
  have : s.data.size = s.size := rfl
  omega
set_option maxHeartbeats 2000000 in
theorem bal_any {p b1 b2 n : Nat} {room : Int} {D D2 : DM} (s : ByteArray) (w : World) (hE : EnvA w) (hM : MemS w p b1 b2 room n D D2) (hs : s.size ≤ 100000) : Calls Tryz.prog 13 #[memI p, .string s] w fun e w' => e = .returned (.tuple #[.int .i64 (balV D s).1, .int .i64 (balV D s).2]) ∧ Below w.heap.size w w' := by
  have HM := Lib.hid hM
  have PX := Lib.hid (aparseB s w hE hs)
  clear hM hE
  go_enter Tryz.func13, Tryz.ntmps13
  go_wp2_with fail
  refine PX.out.mono ?_
  rintro e w1 ⟨x, nv, rfl, hb⟩
  have B1 := Lib.hid hb
  clear hb PX
  cases hB : accB s
  · have HV : Hid (balV D s = (0, 1)) := if_neg (by rw [hB]; decide)
    clear hB
    go_wp2_with fail
    go_ret2
    exact ⟨by rw [HV.out]; rfl, B1.out⟩
  · have HV : Hid (balV D s = (wrap64 (numAt D (balK s)).1, (numAt D (balK s)).2)) := if_pos hB
    clear hB
    go_wp2_with fail
    refine (jkey_any s w1 (by omega)).mono ?_
    rintro e w2 ⟨v2, rfl, hK, hb⟩
    have B2 := Lib.hid (onward hb B1.out)
    have NX := Lib.hid (kvnum_any w2 (HM.out.below (onward hb B1.out)) v2 (balK s) hK (balK_len s hs))
    clear hK hb
    go_wp2_with fail
    refine NX.out.mono ?_
    rintro e w3 ⟨rfl, hb⟩
    have B3 := Lib.hid (onward hb B2.out)
    clear hb NX
    go_wp2_with fail
    go_ret2
    exact ⟨by rw [HV.out]; rfl, B3.out⟩
/-! different accounts -/
theorem addKey_len : ∀ (xs acc : List Lit), (xs.foldl addKey acc).length ≤ acc.length + xs.length
  | [], acc => by simp
  | x :: r, acc => by
    rw [List.foldl_cons]
    have h1 := addKey_len r (addKey acc x)
    have h2 : (addKey acc x).length ≤ acc.length + 1 := by unfold addKey; split <;> simp
    rw [List.length_cons]
    omega
theorem addKey_nodup : ∀ (xs acc : List Lit), (xs.foldl addKey acc).length = acc.length + xs.length → (∀ x ∈ xs, WideAt.IsKeyLit x) → xs.Pairwise (fun a b => a ≠ b) ∧ ∀ x ∈ xs, ∀ y ∈ acc, y ≠ x
  | [], acc, _, _ => ⟨List.Pairwise.nil, fun x hx => by cases hx⟩
  | x :: r, acc, h, hk => by
    rw [List.foldl_cons, List.length_cons] at h
    have h1 := addKey_len r (addKey acc x)
    have hx := hk x (by simp)
    have hn : ¬ acc.any (fun y => y.sameKey x) = true := fun ha => by
      have : addKey acc x = acc := if_pos ha
      rw [this] at h1 h
      omega
    have e : addKey acc x = acc ++ [x] := if_neg hn
    rw [e] at h
    have h3 := addKey_nodup r (acc ++ [x]) (by rw [h]; simp; omega) (fun y hy => hk y (by simp [hy]))
    have hna : ∀ y ∈ acc, y ≠ x := fun y hy he => by
      subst he
      exact hn (List.any_eq_true.2 ⟨y, hy, WideAt.sameKey_self hx⟩)
    refine ⟨List.Pairwise.cons (fun y hy he => ?_) h3.1, fun z hz => ?_⟩
    · subst he
      exact h3.2 x hy x (by simp) rfl
    · rcases List.mem_cons.1 hz with rfl | hz
      · exact hna
      · exact fun y hy => h3.2 z hz y (by simp [hy])
theorem apart_pw {L : List Pt} (h : apartB L = true) : (L.map keyP).Pairwise (fun a b => a ≠ b) := by
  unfold apartB at h
  have h1 := of_decide_eq_true h
  exact (addKey_nodup (L.map keyP) [] (by rw [h1]; simp) (fun x hx => by obtain ⟨p, -, rfl⟩ := List.mem_map.1 hx; trivial)).1
/-- a map of what each part says -/
def putAll (f : Pt → DM) (L : List Pt) : DM := L.foldl (fun m q => m.put (keyP q) (f q)) (.map [])
theorem putAll_snoc (f : Pt → DM) (L : List Pt) (p : Pt) : putAll f (L ++ [p]) = (putAll f L).put (keyP p) (f p) := by unfold putAll; rw [List.foldl_append]; rfl
theorem fold_is (f : Pt → DM) : ∀ (L : List Pt) (M : DM), IsMap M → IsMap (L.foldl (fun m q => m.put (keyP q) (f q)) M)
  | [], M, h => h
  | x :: r, M, h => fold_is f r _ (h.put _ _)
theorem fold_miss (f : Pt → DM) (k : Lit) (z : DM) : ∀ (L : List Pt) (M : DM), (∀ q ∈ L, k ≠ keyP q) → (L.foldl (fun m q => m.put (keyP q) (f q)) M).atKey k z = M.atKey k z
  | [], M, _ => rfl
  | x :: r, M, h => by
    rw [List.foldl_cons, fold_miss f k z r _ (fun q hq => h q (by simp [hq])), atKey_put_other (h x (by simp))]
theorem fold_hit (f : Pt → DM) (z : DM) : ∀ (L : List Pt) (M : DM), IsMap M → (L.map keyP).Pairwise (fun a b => a ≠ b) → ∀ p ∈ L, (L.foldl (fun m q => m.put (keyP q) (f q)) M).atKey (keyP p) z = f p
  | x :: r, M, hM, hp, p, hm => by
    rw [List.map_cons, List.pairwise_cons] at hp
    rw [List.foldl_cons]
    rcases List.mem_cons.1 hm with rfl | hm
    · rw [fold_miss f _ z r _ (fun q hq => hp.1 _ (List.mem_map_of_mem hq)), atKey_put_same hM (by trivial)]
    · exact fold_hit f z r _ (hM.put _ _) hp.2 p hm
theorem putAll_hit (f : Pt → DM) (z : DM) (L : List Pt) (h : apartB L = true) (p : Pt) (hp : p ∈ L) : (putAll f L).atKey (keyP p) z = f p := fold_hit f z L _ isMap_empty (apart_pw h) p hp
end Go.Proofs.YtecbnhmnhcpcmaaGreatDoor
/-! The walk of journal.Post: plain answer, and up to the balances. -/
namespace Go.Proofs.YtecbnhmnhcpcmaaGreatDoor
open Go.RowKit Go.WideMaps Go.Maps
set_option linter.unusedVariables false
set_option linter.unusedSimpArgs false
set_option maxRecDepth 100000
/-- a store of the journal: numbers are eight bytes -/
def WFJ (D : DM) : Prop := ∀ k b, (k.head? = some 98 ∨ k = [113]) → gt D k = some b → b.length = 8
theorem WFJ.num {D : DM} (h : WFJ D) {k : Bs} (hk : k.head? = some 98 ∨ k = [113]) : (numAt D k).2 = 0 ∧ 0 ≤ (numAt D k).1 ∧ (numAt D k).1 < 18446744073709551616 := by
  unfold numAt
  cases hg : gt D k with
  | none => simp
  | some b =>
    have h8 := h k b hk hg
    simp only
    rw [if_pos h8]
    have := unbig_lt b
    rw [h8] at this
    refine ⟨rfl, ?_, ?_⟩
    · show (0 : Int) ≤ ((unbig b : Nat) : Int)
      omega
    · show ((unbig b : Nat) : Int) < 18446744073709551616
      omega
noncomputable def nbV (D : DM) (p : Pt) : Int × Int := sumE [(balV D p.a).1, p.n]
noncomputable def overB (D : DM) (p : Pt) : Bool := decide ((nbV D p).2 ≠ 0 ∨ (nbV D p).1 < -4611686018427387904 ∨ 4611686018427387904 < (nbV D p).1)
def lastN (D : DM) : Nat := (numAt D [113]).1.toNat
def setAll (room : Int) : DM → List (Bs × Nat) → Int × DM
  | D, [] => (0, D)
  | D, (k, x) :: r => if setE room D k x ≠ 0 then (setE room D k x, setD room D k x) else setAll room (setD room D k x) r
noncomputable def postF (room : Int) (D : DM) (time : Int) (ten : Nat) (L : List Pt) : Int × Int × DM :=
  if ¬ (postsB 1 time L = true ∧ mayJ L = true) then (0, 1, D)
  else if ¬ (evenB allP L = true ∧ evenB unitP L = true) then (0, 32, D)
  else if L.any (overB D) = true then (0, 30, D)
  else if putE room D (106 :: big8 (lastN D + 1)) (postL (lastN D + 1) time ten L) ≠ 0 then (0, putE room D (106 :: big8 (lastN D + 1)) (postL (lastN D + 1) time ten L), D)
  else if (setAll room (pt D (106 :: big8 (lastN D + 1)) (postL (lastN D + 1) time ten L)) (L.map fun p => (balK p.a, toU (nbV D p).1))).1 ≠ 0 then (0, setAll room (pt D (106 :: big8 (lastN D + 1)) (postL (lastN D + 1) time ten L)) (L.map fun p => (balK p.a, toU (nbV D p).1)))
  else ((lastN D + 1 : Nat), setE room (setAll room (pt D (106 :: big8 (lastN D + 1)) (postL (lastN D + 1) time ten L)) (L.map fun p => (balK p.a, toU (nbV D p).1))).2 [113] (lastN D + 1), setD room (setAll room (pt D (106 :: big8 (lastN D + 1)) (postL (lastN D + 1) time ten L)) (L.map fun p => (balK p.a, toU (nbV D p).1))).2 [113] (lastN D + 1))
def PostEnd (p b1 b2 n : Nat) (room : Int) (D2 : DM) (r : Int × Int × DM) (w : World) (e : Ending) (w' : World) : Prop := e = .returned (.tuple #[.int .u64 r.1, .int .i64 r.2.1]) ∧ MemS w' p b1 b2 room n r.2.2 D2 ∧ Turned b1 w w'
theorem PostEnd.same {p b1 b2 n m : Nat} {room : Int} {D D2 : DM} {r : Int × Int × DM} {x : Int} {w w' : World} {e : Ending} (hr : r = (0, x, D)) (hM : MemS w p b1 b2 room n D D2) (hb : Below w.heap.size w w') (hm : n ≤ m) (he : e = .returned (.tuple #[.int .u64 0, .int .i64 x])) : PostEnd p b1 b2 m room D2 r w e w' := by
  subst hr
  exact ⟨he, (hM.below hb).mono hm, .of_below hb hM.now.isM⟩
theorem PostEnd.mk {p b1 b2 n : Nat} {room : Int} {D D2 : DM} {r : Int × Int × DM} {x y : Int} {w w' : World} {e : Ending} (hr : r = (x, y, D)) (hM : MemS w' p b1 b2 room n D D2) (ht : Turned b1 w w') (he : e = .returned (.tuple #[.int .u64 x, .int .i64 y])) : PostEnd p b1 b2 n room D2 r w e w' := by
  subst hr
  exact ⟨he, hM, ht⟩
theorem pt_rows (L : List Pt) : ∀ r ∈ L.map Pt.cells, r.length = 2 := fun r hr => by
  obtain ⟨p, -, rfl⟩ := List.mem_map.1 hr
  rfl
theorem zeroI64 (w : World) : (zeroValue 2).run Tryz.prog w = .ok (.int .i64 0) w := by kernel_rfl
/-- a balance, looked up in whatever world holds the map -/
theorem bal_look {w : World} {m n : Nat} {D : DM} {L : List Pt} {q : Pt} (ho : w.ownsMap Tryz.prog 9 (plainElem Tryz.prog 2) m n (putAll (fun p => .lit (.int .i64 (nbV D p).1)) L)) (hA : apartB L = true) (hq : q ∈ L) (hs : q.a.size ≤ 100) :
    ∀ W : World, W.heap[m]? = w.heap[m]? → (Instr.lookup 86 (.map (some m)) (.string q.a) false).run Tryz.prog W = .ok (.int .i64 (nbV D q).1) W := fun W hW => by
  have ho2 : W.ownsMap Tryz.prog 9 (plainElem Tryz.prog 2) m n (putAll (fun p => .lit (.int .i64 (nbV D p).1)) L) := by
    obtain ⟨es, c, h1, h2⟩ := ho
    exact ⟨es, c, hW.trans h1, h2⟩
  obtain ⟨c, hrun, hat, -⟩ := ho2.lookup_int keyStr Tryz.underlying86 Tryz.underlying2 (zeroI64 _) (key_ba q.a (by omega))
  have h3 := putAll_hit (fun p => (.lit (.int .i64 (nbV D p).1) : DM)) (.lit (.int .i64 0)) L hA q hq
  unfold keyP at h3
  rw [hat] at h3
  injection h3 with h3
  injection h3 with _ h3
  rw [← h3]
  exact hrun
theorem Turned.rows {b : Nat} {w w' : World} {v : Value} {size : Nat} {rows : List (List Value)} (h : Turned b w w') (hr : RowsIn w v size rows) (hz : ∀ r ∈ rows, r.length = size) : RowsIn w' v size rows := by
  obtain ⟨a, c, h1, h2, h3, h4⟩ := hr
  refine ⟨a, c, h1, h2, h3, fun i hi => ?_⟩
  obtain ⟨g, o, h5, h6, h7⟩ := h4 i hi
  refine ⟨g, o, h5, Nat.lt_of_lt_of_le h6 h.grown.size, fun j hj => ?_⟩
  have hl : (rows.getD i []).length = size := by
    rw [List.getD_eq_getElem?_getD, List.getElem?_eq_getElem hi]
    exact hz _ (List.getElem_mem hi)
  have hs := h7 j hj
  rw [List.getElem?_eq_getElem (by omega)] at hs ⊢
  exact h.cell hs
theorem Turned.set {b q j : Nat} {w w1 : World} (h : Turned b w w1) (hq : w.heap.size ≤ q) (u : Value) : Turned b w (w1.setCell ⟨q, j, none⟩ u) := by
  have k := Kept.setCell (S := fun k => k = q) w1 ⟨q, j, none⟩ u rfl
  refine ⟨⟨k.os.trans h.grown.os, k.tape.trans h.grown.tape, k.output.trans h.grown.output, Nat.le_trans h.grown.size k.size, fun i hi hne => ?_⟩, h.isM⟩
  rw [k.block i (Nat.lt_of_lt_of_le hi h.grown.size) (by omega)]
  exact h.grown.block i hi hne
end Go.Proofs.YtecbnhmnhcpcmaaGreatDoor
