/- The walk of the law JournalEven. (Printed by gen_jsh.py.) -/
import Derived.Test.YtecbnhmnhcpcmaaGreatDoorPkJournalEven38
import Derived.Test.YtecbnhmnhcpcmaaGreatDoorPkJournalEven45
/-! The walk of the law JournalEven. (Printed by gen_jsh.py.) -/
namespace Go.Proofs.YtecbnhmnhcpcmaaGreatDoor
open Go.RowKit Go.WideMaps Go.Maps
set_option linter.unusedVariables false
set_option linter.unusedSimpArgs false
set_option maxRecDepth 100000
/-- all accounts of postings, as a map's keys -/
def keysA (A : List Ac) : List Lit := A.flatMap fun a => a.ps.map keyP
theorem keysA_snoc {A : List Ac} {i : Nat} {a : Ac} (h : A[i]? = some a) : keysA (A.take (i + 1)) = keysA (A.take i) ++ a.ps.map keyP := by
  unfold keysA
  rw [List.take_add_one, h, List.flatMap_append]
  simp
theorem keysA_lit {A : List Ac} : ∀ x ∈ keysA A, WideAt.IsKeyLit x := fun x hx => by
  obtain ⟨a, -, hx⟩ := List.mem_flatMap.1 hx
  obtain ⟨q, -, rfl⟩ := List.mem_map.1 hx
  trivial
theorem keysA_has {A : List Ac} {x : Bs} : has (setOf yesD (keysA A)) (.string x) = true ↔ ∃ a ∈ A, ∃ q ∈ a.ps, q.a = ⟨x.toArray⟩ := by
  rw [has_setOf yesD _ _ keysA_lit, List.any_eq_true]
  constructor
  · rintro ⟨y, hy, hs⟩
    obtain ⟨a, ha, hx⟩ := List.mem_flatMap.1 hy
    obtain ⟨q, hq, rfl⟩ := List.mem_map.1 hx
    refine ⟨a, ha, q, hq, ba_data ?_⟩
    simpa [keyP, Lit.sameKey] using hs
  · rintro ⟨a, ha, q, hq, e⟩
    refine ⟨keyP q, List.mem_flatMap.2 ⟨a, ha, List.mem_map_of_mem hq⟩, ?_⟩
    unfold keyP
    rw [e]
    simp [Lit.sameKey]
theorem plainElem_bool_inv {v : Value} {y : DM × List MemPlace} (h : plainElem Tryz.prog 4 v = some y) : ∃ b, v = .bool b := by
  unfold plainElem at h
  rw [Tryz.underlying4] at h
  cases v <;> simp at h
  exact ⟨_, rfl⟩
/-- what a map of bools holds, wrapped: else the walk parts on it -/
structure BoX where
  (b : Bool)
def BoX.val (x : BoX) : Value := .bool x.b
theorem ranges_below {w w' : World} {P : Program} {k : TypeId} {R : Value → Option (DM × List MemPlace)} {b r n cnt : Nat} {D : DM} {left : Lit → Bool} (h : w.ranges P k R b r n D left cnt) (hb : Below w.heap.size w w') : w'.ranges P k R b r n D left cnt :=
  h.kept (row := none) ⟨hb.os, hb.tape, hb.output, hb.size, fun k hk _ => hb.block k hk⟩ (by simp) (by simp)
/-- a name as a string -/
def baS (x : Bs) : ByteArray := ⟨x.toArray⟩
noncomputable def balX (D : DM) (x : Bs) : Int := bal D (baS x)
noncomputable def unX (x : Bs) : Bool := unitsB x
set_option maxHeartbeats 2000000 in
theorem even_law (lv : Value) (L : List Ac) (w : World) (hE : EnvA w) (hl : RowsIn w lv 3 (L.map Ac.cells)) (ho : ∀ a ∈ L, a.ok w) : Calls Tryz.prog 6 #[lv] w fun e w' => e = .returned (.bool true) ∧ Below w.heap.size w w' := by
  have HE := Lib.hid hE
  have HL := Lib.hid hl
  have HO := Lib.hid ho
  obtain ⟨a, c, rfl⟩ := ac_form hl
  clear hl hE ho
  go_enter Tryz.func6, Tryz.ntmps6
  go_wp2_with fail
  refine (great_any _ L w HL.out HO.out).mono ?_
  rintro e w1' ⟨b, rfl, hb, rfl⟩
  cases b with
  | true =>
    clear hb
    go_wp2_with fail
    go_ret
    exact ⟨rfl, Below.refl _ _⟩
  | false =>
  obtain ⟨h60, hsm⟩ := hb rfl
  have HS := Lib.hid hsm
  have H60 := Lib.hid h60
  clear hb hsm h60
  go_wp2_with fail
  refine (made_any _ L w HE.out HL.out HO.out H60.out HS.out).mono ?_
  rintro e w3 ⟨p, b1, b2, dv, rfl, hm, hdv, hb3, hp, hb1, hb2⟩
  have B3 := Lib.hid hb3
  have M3 := Lib.hid hm
  obtain ⟨c', hc', hj⟩ := made_jn L (.map []) 0 jn_empty (by have := H60.out; omega)
  have HJ := Lib.hid hj
  have HBN := Lib.hid (made_bnd L (.map []) 0 jn_empty bnd_empty (fun a ha q hq => (HO.out a ha).2.2.2 q hq) (by have := H60.out; omega))
  have HG : Hid (∀ a ∈ (madeD (.map []) L).2, a ∈ L ∧ Good a) := made_good L (.map []) 0 jn_empty (by have := H60.out; omega)
  have HBL : Hid (∀ s, bal (madeD (.map []) L).1 s = bal (.map []) s + amts (madeD (.map []) L).2 s) := fun s => bal_made s L (.map []) 0 jn_empty (by have := H60.out; omega)
  have HKB : Hid (∀ N : List ByteArray, (∀ a ∈ (madeD (.map []) L).2, ∀ q ∈ a.ps, q.a ∈ N) → KB (madeD (.map []) L).1 N) := fun N hN => kb_made N L (.map []) 0 jn_empty (by have := H60.out; omega) (kb_empty N) hN
  have HAL : Hid ((madeD (.map []) L).2.length ≤ 60) := by
    have : ∀ (l : List Ac) (D : DM), (madeD D l).2.length ≤ l.length := by
      intro l
      induction l with
      | nil => intro D; exact Nat.le_refl _
      | cons x r ih =>
        intro D
        unfold madeD
        split
        · rw [List.length_cons, List.length_cons]; exact Nat.succ_le_succ (ih _)
        · rw [List.length_cons]; exact Nat.le_succ_of_le (ih _)
    exact Nat.le_trans (this L _) H60.out
  have R3 : Hid (RowsIn w3 dv 3 ((madeD (.map []) L).2.map Ac.cells)) := jrows_own (fun r hr => by obtain ⟨x, -, rfl⟩ := List.mem_map.1 hr; rfl) (by rw [List.length_map]; exact hdv)
  clear hm hb3 hp hb1 hb2 hc' hj hdv
  generalize (madeD (.map []) L).1 = D at *
  generalize (madeD (.map []) L).2 = A at *
  obtain ⟨da, dc, rfl⟩ := ac_form R3.out
  have hmm := @run_makeMap Tryz.prog
  obtain ⟨w4, hw4⟩ : ∃ W, W = w3.alloc (.map #[] 0) := ⟨_, rfl⟩
  have O4 : Hid (w4.ownsMap Tryz.prog 9 (plainElem Tryz.prog 4) w3.heap.size 0 (setOf yesD (keysA []))) := by rw [hw4]; exact World.ownsMap_made (H := Unit) w3 Tryz.prog 9 (plainElem Tryz.prog 4)
  have B4 : Hid (Below w3.heap.size w3 w4) := by rw [hw4]; exact below_alloc _ _
  go_wp2_with fail
  rw [← hw4]
  clear hw4 hmm
  go_loopw [6] (fun iv wr => ∃ (i n : Nat), i ≤ A.length ∧ n ≤ 40 * i ∧ iv = .int .i64 i ∧ Hid (wr.ownsMap Tryz.prog 9 (plainElem Tryz.prog 4) w3.heap.size n (setOf yesD (keysA (A.take i)))) ∧ Hid (Below w3.heap.size w3 wr)) (fun iv _ => A.length - (intOf iv).toNat)
  case atStart => exact ⟨0, 0, by omega, by omega, rfl, O4.out, B4.out⟩
  case round =>
    obtain ⟨i, n, hi, hn, rfl, OR, BR⟩ := hrel
    by_cases hlt : i < A.length
    · obtain ⟨g, o, rfl, y0, -, y2⟩ := ac_cells R3.out i hlt
      have hz : (i : Int) < (A.length : Int) := by omega
      obtain ⟨hin, hgood⟩ := HG.out A[i] (List.getElem_mem hlt)
      obtain ⟨r1, -, r4, r5⟩ := HO.out A[i] hin
      obtain ⟨s1, s2⟩ := HS.out A[i] hin
      have HKS := Lib.hid (keysA_snoc (A := A) (i := i) (a := A[i]) (List.getElem?_eq_getElem hlt))
      have HAI := HAL.out
      generalize A[i] = q at *
      obtain ⟨t, ten, pv, ps⟩ := q
      dsimp only at y0 y2 r1 r4 r5 s1 s2
      obtain ⟨pa, pc, rfl⟩ := pt_form r1
      have KX : Hid (∀ W, Below w3.heap.size w3 W → W.cell? ⟨g, o + i * 3, none⟩ = some (.int .i64 t) ∧ W.cell? ⟨g, o + i * 3 + 2, none⟩ = some (.slice pa ps.length pc)) := by
        have q0 := y0; have q2 := y2
        exact fun W hb => ⟨stays hb q0, stays hb q2⟩
      have HRP : Hid (∀ W, Below w3.heap.size w3 W → RowsIn W (.slice pa ps.length pc) 2 (ps.map Pt.cells)) := fun W hb => r1.below (onward hb B3.out)
      have MX : Hid (∀ W, Below w3.heap.size w3 W → Calls Tryz.prog 23 #[.int .i64 t, .slice pa ps.length pc] W fun e w' => e = .returned (.bool true) ∧ Below W.heap.size W w') := fun W hb => by
        have h := rmay_any t _ ps W (HRP.out W hb) s1 s2
        have e : mayR17 t ps = true := by unfold mayR17; rw [hgood.posts, hgood.may]; rfl
        rw [e] at h
        exact h
      have EX : Hid (∀ W, Below w3.heap.size w3 W → Calls Tryz.prog 24 #[.slice pa ps.length pc] W fun e w' => e = .returned (.bool true) ∧ Below W.heap.size W w') := fun W hb => by
        have h := reven_any _ ps W (HRP.out W hb) s1 (fun q hq => ⟨s2 q hq, r5 q hq⟩)
        have e : (evenB allP ps && evenB unitP ps) = true := by rw [hgood.all, hgood.unit]; rfl
        rw [e] at h
        exact h
      have S2 := Lib.hid s2
      have S1 := Lib.hid s1
      clear r1 r4 r5 s1 s2 hgood hin y0 y2
      go_upto_region 10 with fail
      refine wp_region_held_drew (S := (fun W => W.cell? ⟨g, o + i * 3, none⟩ = some (.int .i64 t) ∧ W.cell? ⟨g, o + i * 3 + 2, none⟩ = some (.slice pa ps.length pc))) (by kernel_rfl) ?_ (fun hHeld => ?_)
      · (try dsimp only)
        exact KX.out _ BR.out.drew
      refine Plan.start (plan := [0, 1, 2, 3, 4, 5, 6, 7, 8, 9]) (fuel := 11) (by decide +kernel) (by assumption) ?_
      refine Plan.free (i := 0) (ds := some 36) (v := ?_) rfl rfl rfl ?_ (fun _ _ _ h => h) ?_
      rotate_left
      · (intro w hSw; (try dsimp only at hSw); go_simp; first | done | with_reducible rfl)
      (try simp only [Act.put, List.setIfInBounds_toArray, List.set_cons_zero, List.set_cons_succ])
      refine Plan.free (i := 1) (ds := some 37) (v := ?_) rfl rfl rfl ?_ (fun _ _ _ h => h) ?_
      rotate_left
      · (intro w hSw; (try dsimp only at hSw); go_simp; first | done | with_reducible rfl)
      (try simp only [Act.put, List.setIfInBounds_toArray, List.set_cons_zero, List.set_cons_succ])
      refine Plan.free (i := 2) (ds := some 38) (v := ?_) rfl rfl rfl ?_ (fun _ _ _ h => h) ?_
      rotate_left
      · (intro w hSw; (try dsimp only at hSw); go_simp; first | done | with_reducible rfl)
      (try simp only [Act.put, List.setIfInBounds_toArray, List.set_cons_zero, List.set_cons_succ])
      refine Plan.free (i := 3) (ds := some 39) (v := ?_) rfl rfl rfl ?_ (fun _ _ _ h => h) ?_
      rotate_left
      · (intro w hSw; (try dsimp only at hSw); go_simp; first | done | with_reducible rfl)
      (try simp only [Act.put, List.setIfInBounds_toArray, List.set_cons_zero, List.set_cons_succ])
      refine Plan.free (i := 4) (ds := some 40) (v := ?_) rfl rfl rfl ?_ (fun _ _ _ h => h) ?_
      rotate_left
      · (intro w hSw; (try dsimp only at hSw); go_simp; first | done | with_reducible rfl)
      (try simp only [Act.put, List.setIfInBounds_toArray, List.set_cons_zero, List.set_cons_succ])
      refine Plan.free (i := 5) (ds := some 41) (v := ?_) rfl rfl rfl ?_ (fun _ _ _ h => h) ?_
      rotate_left
      · (intro w hSw; (try dsimp only at hSw); go_simp; first | done | with_reducible rfl)
      (try simp only [Act.put, List.setIfInBounds_toArray, List.set_cons_zero, List.set_cons_succ])
      refine Plan.free (i := 6) (ds := some 42) (v := ?_) rfl rfl rfl ?_ (fun _ _ _ h => h) ?_
      rotate_left
      · (intro w hSw; (try dsimp only at hSw); go_simp; first | done | with_reducible rfl)
      (try simp only [Act.put, List.setIfInBounds_toArray, List.set_cons_zero, List.set_cons_succ])
      refine Plan.free (i := 7) (ds := some 43) (v := ?_) rfl rfl rfl ?_ (fun _ _ _ h => h) ?_
      rotate_left
      · (intro w hSw; (try dsimp only at hSw); go_simp; first | done | with_reducible rfl)
      (try simp only [Act.put, List.setIfInBounds_toArray, List.set_cons_zero, List.set_cons_succ])
      refine Plan.free (i := 8) (ds := some 44) (v := ?_) rfl rfl rfl ?_ (fun _ _ _ h => h) ?_
      rotate_left
      · (intro w hSw; (try dsimp only at hSw); go_simp; first | done | with_reducible rfl)
      (try simp only [Act.put, List.setIfInBounds_toArray, List.set_cons_zero, List.set_cons_succ])
      refine Plan.free (i := 9) (ds := some 45) (v := ?_) rfl rfl rfl ?_ (fun _ _ _ h => h) ?_
      rotate_left
      · (intro w hSw; (try dsimp only at hSw); go_simp; first | done | with_reducible rfl)
      (try simp only [Act.put, List.setIfInBounds_toArray, List.set_cons_zero, List.set_cons_succ])
      refine Plan.stop (fun hHeld => ?_)
      refine wpAnyH_ready (rs := [10]) (by decide +kernel) (by simp) ?_
      refine AllReadyH.cons (o := _) rfl ?_ AllReadyH.nil
      intro K hK
      rw [if_pos (wanted_none (by rfl))]
      (go_simp; go_at_call 23; refine (MX.out _ BR.out.drew).mono ?_; rintro e w6 ⟨rfl, hb⟩; have B6 : Hid (Below w3.heap.size w3 w6) := onward hb BR.out.drew; have Y6 : Hid (Below wr.heap.size wr w6) := onward hb ((Below.refl _ _).drew); clear hb)
      refine hK.out _ _ ?_ (fun hHeld => ?_)
      · (try dsimp only)
        exact KX.out _ B6.out
      clear hK K
      (try simp only [Act.put, List.setIfInBounds_toArray, List.set_cons_zero, List.set_cons_succ])
      refine Plan.start (plan := [11, 12, 13, 14, 15, 16, 17]) (fuel := 3) (by decide +kernel) (by assumption) ?_
      refine Plan.free (i := 11) (ds := some 47) (v := ?_) rfl rfl rfl ?_ (fun _ _ _ h => h) ?_
      rotate_left
      · (intro w hSw; (try dsimp only at hSw); go_simp; first | done | with_reducible rfl)
      (try simp only [Act.put, List.setIfInBounds_toArray, List.set_cons_zero, List.set_cons_succ])
      refine Plan.free (i := 12) (ds := some 48) (v := ?_) rfl rfl rfl ?_ (fun _ _ _ h => h) ?_
      rotate_left
      · (intro w hSw; (try dsimp only at hSw); go_simp; first | done | with_reducible rfl)
      (try simp only [Act.put, List.setIfInBounds_toArray, List.set_cons_zero, List.set_cons_succ])
      refine Plan.on (i := 13) (ds := some 49) (j := 12) (d := 48) (v := ?_) rfl rfl rfl rfl rfl rfl ?_ (fun _ _ _ h => h) ?_
      rotate_left
      · (intro w hSw; (try dsimp only at hSw); go_simp; first | done | with_reducible rfl)
      (try simp only [Act.put, List.setIfInBounds_toArray, List.set_cons_zero, List.set_cons_succ])
      refine Plan.on (i := 14) (ds := some 50) (j := 12) (d := 48) (v := ?_) rfl rfl rfl rfl rfl rfl ?_ (fun _ _ _ h => h) ?_
      rotate_left
      · (intro w hSw; (try dsimp only at hSw); go_simp; first | done | with_reducible rfl)
      (try simp only [Act.put, List.setIfInBounds_toArray, List.set_cons_zero, List.set_cons_succ])
      refine Plan.on (i := 15) (ds := some 51) (j := 12) (d := 48) (v := ?_) rfl rfl rfl rfl rfl rfl ?_ (fun _ _ _ h => h) ?_
      rotate_left
      · (intro w hSw; (try dsimp only at hSw); go_simp; first | done | with_reducible rfl)
      (try simp only [Act.put, List.setIfInBounds_toArray, List.set_cons_zero, List.set_cons_succ])
      refine Plan.on (i := 16) (ds := some 52) (j := 12) (d := 48) (v := ?_) rfl rfl rfl rfl rfl rfl ?_ (fun _ _ _ h => h) ?_
      rotate_left
      · (intro w hSw; (try dsimp only at hSw); go_simp; first | done | with_reducible rfl)
      (try simp only [Act.put, List.setIfInBounds_toArray, List.set_cons_zero, List.set_cons_succ])
      refine Plan.on (i := 17) (ds := some 53) (j := 12) (d := 48) (v := ?_) rfl rfl rfl rfl rfl rfl ?_ (fun _ _ _ h => h) ?_
      rotate_left
      · (intro w hSw; (try dsimp only at hSw); go_simp; first | done | with_reducible rfl)
      (try simp only [Act.put, List.setIfInBounds_toArray, List.set_cons_zero, List.set_cons_succ])
      refine Plan.stop (fun hHeld => ?_)
      refine wpAnyH_ready (rs := [18]) (by decide +kernel) (by simp) ?_
      refine AllReadyH.cons (o := _) rfl ?_ AllReadyH.nil
      intro K hK
      rw [if_pos (wanted_on (j := 12) (d := 48) (by rfl) (by rfl) (by rfl) (by rfl))]
      (go_simp; go_at_call 24; refine (EX.out _ B6.out).mono ?_; rintro e w7 ⟨rfl, hb⟩; have B7 : Hid (Below w3.heap.size w3 w7) := onward hb B6.out; have Y7 : Hid (Below wr.heap.size wr w7) := onward hb Y6.out; clear hb)
      refine hK.out _ _ ?_ (fun hHeld => ?_)
      · (try dsimp only)
        exact KX.out _ B7.out
      clear hK K
      (try simp only [Act.put, List.setIfInBounds_toArray, List.set_cons_zero, List.set_cons_succ])
      refine Plan.start (plan := [19, 20]) (fuel := 0) (by decide +kernel) (by assumption) ?_
      refine Plan.on (i := 19) (ds := some 55) (j := 12) (d := 48) (v := ?_) rfl rfl rfl rfl rfl rfl ?_ (fun _ _ _ h => h) ?_
      rotate_left
      · (intro w hSw; (try dsimp only at hSw); go_simp; first | done | with_reducible rfl)
      (try simp only [Act.put, List.setIfInBounds_toArray, List.set_cons_zero, List.set_cons_succ])
      refine Plan.free (i := 20) (ds := some 56) (v := ?_) rfl rfl rfl ?_ (fun _ _ _ h => h) ?_
      rotate_left
      · (intro w hSw; (try dsimp only at hSw); go_simp; first | done | with_reducible rfl)
      (try simp only [Act.put, List.setIfInBounds_toArray, List.set_cons_zero, List.set_cons_succ])
      refine Plan.stop (fun hHeld => ?_)
      refine wpAnyH_done (by decide +kernel) ?_ _
      clear MX EX hHeld
      have O7 : Hid (w7.ownsMap Tryz.prog 9 (plainElem Tryz.prog 4) w3.heap.size n (setOf yesD (keysA (A.take i)))) := OR.out.kept (row := none) ⟨Y7.out.os, Y7.out.tape, Y7.out.output, Y7.out.size, fun k hk _ => Y7.out.block k hk⟩ (by simp)
      generalize keysA (A.take i) = KS at *
      go_wp2_with fail
      go_loopw [7] (fun iv wr => ∃ k : Nat, k ≤ ps.length ∧ iv = .int .i64 k ∧ Hid (wr.ownsMap Tryz.prog 9 (plainElem Tryz.prog 4) w3.heap.size (n + k) (setOf yesD (KS ++ (ps.take k).map keyP))) ∧ Hid (Below w3.heap.size w3 wr)) (fun iv _ => ps.length - (intOf iv).toNat)
      case atStart => exact ⟨0, by omega, rfl, by rw [List.take_zero, List.map_nil, List.append_nil]; exact O7.out, B7.out⟩
      case round =>
        obtain ⟨k, hk, rfl, OK, BK⟩ := hrel
        obtain ⟨-, z2⟩ := KX.out wr BK.out
        by_cases hkl : k < ps.length
        · obtain ⟨g', o', rfl, x0, -⟩ := pt_cells (HRP.out wr BK.out) k hkl
          have hzk : (k : Int) < (ps.length : Int) := by omega
          have hsz := S2.out ps[k] (List.getElem_mem hkl)
          have hsn : (ps.take (k + 1)).map keyP = (ps.take k).map keyP ++ [keyP ps[k]] := by rw [List.take_succ_eq_append_getElem hkl, List.map_append]; rfl
          have HSN := Lib.hid hsn
          have h40 := S1.out
          generalize ps[k] = pk at *
          obtain ⟨s, sn⟩ := pk
          dsimp only at x0 hsz
          generalize (ps.take k).map keyP = KP at *
          clear hsn
          go_wp2_with (at_mapUpdate; refine wpList_mapUpdate_in _ rfl (.tmp 67) (.tmp 76) (.const (.bool true)) 67 rfl 9 4 keyStr Tryz.underlying67 (plainElem Tryz.prog 4) w3.heap.size (n + k) _ rfl OK.out (by unfold maxLen; omega) (.string s) (.bool true) (.string s.data.toList) rfl rfl (key_ba s (by omega)) yesD [] (bool_elem true) ?_)
          intro w8 ho ht
          have O8 : Hid (w8.ownsMap Tryz.prog 9 (plainElem Tryz.prog 4) w3.heap.size (n + (k + 1)) (setOf yesD (KS ++ (ps.take (k + 1)).map keyP))) := by
            show World.ownsMap _ _ _ _ _ _ _
            rw [HSN.out, ← List.append_assoc, setOf_snoc]
            exact ho
          have B8 : Hid (Below w3.heap.size w3 w8) := BK.out.grown ht.grown BK.out.size (fun k hk => by injection hk with hk; omega)
          clear ho ht OK
          go_wp2_with fail
          go_roundw
          case rel => exact ⟨k + 1, by omega, by go_num, O8.out, B8.out⟩
          case measure => simp [intOf]; omega
        · have dk : decide ((k : Int) < ((ps.length : Nat) : Int)) = false := decide_eq_false (by omega)
          have hkk : ps.take k = ps := List.take_of_length_le (by omega)
          have O9 : Hid (wr.ownsMap Tryz.prog 9 (plainElem Tryz.prog 4) w3.heap.size (n + k) (setOf yesD (keysA (A.take (i + 1))))) := by
            have h := OK.out
            rw [hkk] at h
            rw [HKS.out]
            exact h
          have h40 := S1.out
          clear hkk OK
          go_wp2_with fail
          go_roundw
          case rel => exact ⟨i + 1, n + k, by omega, by omega, by go_num, O9.out, BK.out⟩
          case measure => simp [intOf]; omega
    · have dk : decide ((i : Int) < ((A.length : Nat) : Int)) = false := decide_eq_false (by omega)
      have hAi : A.take i = A := List.take_of_length_le (by omega)
      have hown := OR.out
      rw [hAi] at hown
      have hbl := hown.lt
      have hml : w3.heap.size ≤ w3.heap.size := Nat.le_refl _
      have hsz0 := hown.size_le
      have HSZ : Hid (size (setOf yesD (keysA A)) ≤ 2400) := by have := HAL.out; show _ ≤ _; omega
      have HHS : Hid (∀ x, has (setOf yesD (keysA A)) (.string x) = true ↔ ∃ a ∈ A, ∃ q ∈ a.ps, q.a = ⟨x.toArray⟩) := fun x => keysA_has
      generalize setOf yesD (keysA A) = D0 at *
      obtain ⟨i0, hi0, hz0, hz1, hz2⟩ := info_parts infoI64
      clear hAi OR
      go_wp2_with (at_range; refine wpList_range_own _ rfl _ 67 rfl 9 4 keyStr Tryz.underlying67 _ w3.heap.size n D0 rfl hown ?_; intro w5 hrg0 hg0 hs0)
      go_frame
      have B5 : Hid (Below w3.heap.size w3 w5) := BR.out.grown hg0 BR.out.size (fun j hj => by cases hj)
      have hrb : w3.heap.size ≤ wr.heap.size := BR.out.size
      have HRB := Lib.hid hrb
      have HLT : Hid (w3.heap.size < w5.heap.size) := Nat.lt_of_lt_of_le hbl hg0.size
      clear hs0 hown
      generalize wr.heap.size = ri at *
      go_loopw [8, 9] (fun dv cv wr => ∃ (left : Lit → Bool) (cnt : Nat) (ss : List Bs), wr.ranges Tryz.prog 9 (plainElem Tryz.prog 4) w3.heap.size ri n D0 left cnt ∧ ss.length + cnt ≤ size D0 ∧ wr.ownsRow w5.heap.size 2 1 dv (ss.map (balX D)).length ((ss.map (balX D)).map (Value.int .i64)) ∧ wr.ownsRow w5.heap.size 2 1 cv ((ss.filter unX).map (balX D)).length (((ss.filter unX).map (balX D)).map (Value.int .i64)) ∧ (∀ b, dv.ownBlock = some b → cv.ownBlock ≠ some b) ∧ Collected D0 left ss ∧ Below w3.heap.size w3 wr ∧ w5.heap.size ≤ wr.heap.size) (fun _ _ wr => wr.rangeLeft w3.heap.size ri)
      case atStart => exact ⟨_, _, [], hrg0, by simp, World.ownsRow_nil _ _ _ _, World.ownsRow_nil _ _ _ _, none_block, Collected.start D0, B5.out, Nat.le_refl _⟩
      case round =>
        obtain ⟨left, cnt, ss, hrg, hcs, hd, hc, hap, hC, hB, hW⟩ := hrel
        have INVV : ∀ v (y : DM × List MemPlace), plainElem Tryz.prog 4 v = some y → ∃ c, v = BoX.val c := fun v y hv => by obtain ⟨b, e⟩ := plainElem_bool_inv hv; exact ⟨⟨b⟩, e⟩
        have INVK : ∀ key kl, keyOf Tryz.prog 9 key = some kl → ∃ x, key = encStr x := fun key kl hk => by obtain ⟨x, hx, _⟩ := Maps.keyOf_str Tryz.underlying9 hk; exact ⟨x, hx⟩
        go_wp2_with (at_next; refine wpList_next_ranges wr rfl _ rfl 9 keyStr (plainElem Tryz.prog 4) encStr BoX.val INVK INVV w3.heap.size ri n D0 left cnt rfl hrg ?_ ?_)
        · intro hc0 hl0
          have hin : ∀ x ∈ ss, has D0 (.string x) = true := fun x hx => ((hC.2 x).1 hx).1
          have hN : (ss.map baS).Nodup := List.pairwise_map.2 (hC.1.imp fun {a b} hab e => hab (by
            have h := congrArg (fun z : ByteArray => z.data.toList) e
            simpa [baS] using h))
          have hcov : ∀ a ∈ A, ∀ q ∈ a.ps, q.a ∈ ss.map baS := fun a ha q hq => by
            have e : baS q.a.data.toList = q.a := by unfold baS; exact ba_data rfl
            have h1 : has D0 (.string q.a.data.toList) = true := (HHS.out _).2 ⟨a, ha, q, hq, e.symm⟩
            exact List.mem_map.2 ⟨q.a.data.toList, (hC.2 _).2 ⟨h1, hl0 _⟩, e⟩
          have hpart : ∀ s ∈ ss.map baS, accB s = true ∧ s.size ≤ 100000 := fun s hs => by
            obtain ⟨x, hx, rfl⟩ := List.mem_map.1 hs
            obtain ⟨aa, haa, q, hq, hqa⟩ := (HHS.out x).1 (hin x hx)
            have e : baS x = q.a := hqa.symm
            rw [e]
            exact ⟨(may_apart (HG.out aa haa).2.may).2 q hq, by have := (HS.out aa (HG.out aa haa).1).2 q hq; omega⟩
          have hbal : bal D = amts A := funext fun s => by rw [HBL.out s, bal_zero]; omega
          have hsN : ((ss.map baS).map (bal D)).sum = 0 := by rw [hbal]; exact amts_total hN (fun a ha => (HG.out a ha).2) hcov
          have hsU : (((ss.map baS).filter fun s => unitsB s.data.toList).map (bal D)).sum = 0 := by rw [hbal]; exact amts_totalU hN (fun a ha => (HG.out a ha).2) hcov
          have hz1' : (ss.map (balX D)).sum = 0 := by
            rw [List.map_map] at hsN
            exact hsN
          have hz2' : ((ss.filter unX).map (balX D)).sum = 0 := by
            rw [List.filter_map, List.map_map] at hsU
            exact hsU
          have hsum0 : ∀ l : List Int, l.sum = 0 → sumE l = (0, 0) := fun l h => by unfold sumE; rw [h]; rfl
          have hMW := M3.out.below hB
          have hSD := hMW.now.strD
          have hK := HKB.out _ hcov
          have hsS : (sumsL D).sum = 0 := by rw [sums_bal hSD hK hN (fun s hs => (hpart s hs).1)]; exact hsN
          have hle : (pairsR D [98] []).length ≤ 3000 := Nat.le_trans (pairsR_le HJ.out.isM _ _) hMW.now.size_le
          have hkl := kb_len hSD hK HJ.out.wf (fun s hs => (hpart s hs).2)
          have HSO := Lib.hid (sumsO_even hsS)
          have SX := Lib.hid (sums_any wr hMW (by decide) hle hkl)
          have hl8 : (ss.map (balX D)).length ≤ 1000000 := by rw [List.length_map]; have := HSZ.out; omega
          have hl9 : ((ss.filter unX).map (balX D)).length ≤ 1000000 := by rw [List.length_map]; exact Nat.le_trans (List.length_filter_le _ _) (by have := HSZ.out; omega)
          have hbd : ∀ l : List Bs, ∀ n ∈ l.map (balX D), -9223372036854775808 ≤ n ∧ n ≤ 9223372036854775807 := fun l n hn => by
            obtain ⟨x, -, rfl⟩ := List.mem_map.1 hn
            have := HBN.out (baS x)
            unfold balX
            omega
          have S1 := Lib.hid (sum_any _ _ wr (IntsAt.of_own hd) hl8 (hbd ss))
          have S2 := Lib.hid (sum_any _ _ wr (IntsAt.of_own hc) hl9 (hbd _))
          rw [hsum0 _ hz1'] at S1
          rw [hsum0 _ hz2'] at S2
          generalize sumsO (sumsL D) = so at *
          obtain ⟨o1, o2, o3⟩ := so
          have HB := Lib.hid hB
          clear hin hN hcov hpart hbal hsN hsU hz1' hz2' hsum0 hMW hSD hK hsS hle hkl hl8 hl9 hbd hrg hcs hd hc hap hC hB hW hc0 hl0 INVK INVV hbl hrg0 hg0
          go_wp2_with fail
          refine S1.out.mono ?_
          rintro e w8 ⟨rfl, rfl⟩
          clear S1
          go_wp2_with fail
          refine S2.out.mono ?_
          rintro e w8 ⟨rfl, rfl⟩
          clear S2
          go_wp2_with fail
          refine SX.out.mono ?_
          rintro e w8 ⟨rfl, hb⟩
          have B8 := Lib.hid (onward (onward hb HB.out) B3.out)
          have GO := Lib.hid (posts17_any w8 (HE.out.below B8.out))
          clear hb SX
          rcases HSO.out with ⟨h1, h2, h3, h4⟩ | ⟨h1, h2, h3⟩
          · (try dsimp only at h1 h2 h3 h4)
            subst h1
            subst h2
            have hw : wrap64 (-o2) = -o2 := by unfold wrap64; omega
            have d0 : decide (0 ≤ -o2) = true := decide_eq_true h3
            have hle : o2 ≤ 0 := by omega
            clear h3 h4
            go_wp2_with fail
            refine GO.out.mono ?_
            rintro e w10 ⟨rfl, hb⟩
            have B10 := Lib.hid (onward hb B8.out)
            clear hb
            go_wp2_with fail
            go_ret
            exact ⟨rfl, B10.out⟩
          · (try dsimp only at h1 h2 h3)
            subst h1
            subst h2
            subst h3
            go_wp2_with fail
            refine GO.out.mono ?_
            rintro e w10 ⟨rfl, hb⟩
            have B10 := Lib.hid (onward hb B8.out)
            clear hb
            go_wp2_with fail
            go_ret
            exact ⟨rfl, B10.out⟩
        · intro x cx kl yd yp w6 cnt2 hkey hlk hv hat hrg2 hlt hg2 hs2 hen
          obtain ⟨x', ex, rfl, hxl⟩ := Maps.keyOf_str Tryz.underlying9 hkey
          obtain rfl : x = x' := Go.encStr_inj ex
          have hB2 : Below w3.heap.size w3 w6 := hB.grown hg2 hB.size (fun j hj => by cases hj; exact HRB.out)
          have hrg2 := hrg2
          have hasx : has D0 (.string x) = true := has_true_of_atKey hat
          obtain ⟨aa, haa, q, hq, hqa⟩ := (HHS.out x).1 hasx
          have hgood := (HG.out aa haa).2
          have hacc : accB (baS x) = true := by rw [show baS x = q.a from hqa.symm]; exact (may_apart hgood.may).2 q hq
          have hsize : (baS x).size ≤ 100 := by rw [show baS x = q.a from hqa.symm]; exact (HS.out aa (HG.out aa haa).1).2 q hq
          have hbv : balV D (baS x) = (balX D x, 0) := by
            unfold balX bal
            have h2 : (balV D (baS x)).2 = 0 := by
              unfold balV
              rw [if_pos hacc]
              exact (HJ.out.wf.num (.inl (balK_head _))).1
            rw [← h2]
          obtain ⟨hb1, hb2⟩ : -4611686018427387904 ≤ balX D x ∧ balX D x ≤ 4611686018427387904 := HBN.out (baS x)
          have hd2 := hd.kept hg2 (Or.inr (fun e => (row_ne_iter hd hrg) e.symm))
          have hc2 := hc.kept hg2 (Or.inr (fun e => (row_ne_iter hc hrg) e.symm))
          have hC2 := hC.step hlk hat
          have BX := Lib.hid (bal_any (baS x) w6 ((HE.out.below B3.out).below hB2) (M3.out.below hB2) (by omega))
          rw [hbv] at BX
          have hun : unitsB (baS x).data.toList = unX x := rfl
          have UX := Lib.hid (fun (W : World) (hb : Below w3.heap.size w3 W) => units_any (baS x) W ((HE.out.below B3.out).below hb) (by omega))
          rw [hun] at UX
          have hS1 : (ss ++ [x]).map (balX D) = ss.map (balX D) ++ [balX D x] := by rw [List.map_append]; rfl
          have hS2 : ((ss ++ [x]).filter unX).map (balX D) = (ss.filter unX).map (balX D) ++ (if unX x = true then [balX D x] else []) := by
            rw [List.filter_append, List.map_append]
            by_cases h : unX x = true
            · rw [if_pos h, List.filter_cons_of_pos h]; rfl
            · rw [if_neg h, List.filter_cons_of_neg h]; rfl
          have hme0 : ∀ (W : World) (n2 : Nat), W.ranges Tryz.prog 9 (plainElem Tryz.prog 4) w3.heap.size ri n D0 (fun z => left z && !z.sameKey (.string x)) cnt2 → W.rangeLeft w3.heap.size ri < wr.rangeLeft w3.heap.size ri := fun W _ h => by rw [h.left_eq, hrg.left_eq]; exact hlt
          have HME := Lib.hid hme0
          have HXS := Lib.hid hS1
          have HXU := Lib.hid hS2
          have hfl : ((ss.filter unX).map (balX D)).length ≤ ss.length := by rw [List.length_map]; exact List.length_filter_le _ _
          have hfs : (ss.map (balX D)).length ≤ ss.length := by rw [List.length_map]; exact Nat.le_refl _
          have es : (Value.string (baS x)) = encStr x := rfl
          have HSB := Lib.hid hbl
          have hs6 : w6.heap.size = wr.heap.size := hs2
          have HW6 : Hid (w5.heap.size ≤ w6.heap.size) := by rw [hs6]; exact hW
          have HCS : Hid (ss.length + 1 + cnt2 ≤ size D0) := by show _ ≤ _; omega
          have HRG := Lib.hid hrg2
          have HDD := Lib.hid hd2
          have HCC := Lib.hid hc2
          have HAP := Lib.hid hap
          have HB6 := Lib.hid hB2
          have HC2 := Lib.hid hC2
          clear hs2 hs6 hS1 hS2 hme0 hbl hun hbv hasx hgood hacc hsize hqa hq haa hrg hrg2 hd hd2 hc hc2 hap hC hC2 hB2 hB INVK INVV hkey hlk hv hat hlt hg2 hcs hxl hrg0 hg0
          generalize ss.map (balX D) = ys at *
          generalize (ss.filter unX).map (balX D) = zs at *
          generalize balX D x = bx at *
          generalize unX x = ub at *
          rw [← es] at hen
          have d1 : decide (bx < -4611686018427387904) = false := decide_eq_false (by omega)
          have d2 : decide ((4611686018427387904 : Int) < bx) = false := decide_eq_false (by omega)
          have hszz := HSZ.out
          have hcsz := HCS.out
          clear hb1 hb2
          go_wp2_with fail
          refine BX.out.mono ?_
          rintro e w7 ⟨rfl, hb⟩
          have B7 : Hid (Below w3.heap.size w3 w7) := onward hb HB6.out
          have R7 := Lib.hid (ranges_below HRG.out hb)
          have D7 := Lib.hid (ownsRow_below HDD.out hb)
          have C7 := Lib.hid (ownsRow_below HCC.out hb)
          have W7 : Hid (w5.heap.size ≤ w7.heap.size) := Nat.le_trans HW6.out hb.size
          have D8 := Lib.hid (D7.out.alloc (.cells #[.int .i64 bx] 2))
          have C8 := Lib.hid (C7.out.alloc (.cells #[.int .i64 bx] 2))
          have hw7 := W7.out
          clear hb BX HRG HDD HCC hen
          go_wp2_with (at_builtin; refine wpList_append_own_at _ rfl (.tmp 100) (.tmp 102) 42 rfl w5.heap.size 2 i0 _ 1 8 Tryz.underlying42 hi0 hz0 hz1 hz2 rfl (by decide) _ _ _ rfl D8.out ⟨w7.heap.size, 0, none⟩ 1 1 [.int .i64 bx] rfl rfl (new_cells _ _ _) (one1 _ _) (by unfold maxLen; omega) (by omega) (by simp; omega) ?_)
          intro v9 w9 hown hgr hloc
          have hsz3 : w3.heap.size ≤ w7.heap.size := B7.out.size
          have B9 : Hid (Below w3.heap.size w3 w9) := (onward (below_alloc _ _) B7.out).grown hgr (by simp; omega) (fun k hk => by have := (D8.out.lt k hk).1; have := HLT.out; omega)
          have R9 : Hid (w9.ranges Tryz.prog 9 (plainElem Tryz.prog 4) w3.heap.size ri n D0 (fun z => left z && !z.sameKey (.string x)) cnt2) := (R7.out.alloc (.cells #[.int .i64 bx] 2)).kept hgr (row_ne_low D8.out HLT.out) (row_ne_iter D8.out (R7.out.alloc _))
          have D9 : Hid (w9.ownsRow w5.heap.size 2 1 v9 ((ss ++ [x]).map (balX D)).length (((ss ++ [x]).map (balX D)).map (Value.int .i64))) := by
            show World.ownsRow _ _ _ _ _ _ _
            rw [HXS.out, List.length_append, List.map_append]
            exact hown
          have C9 : Hid (w9.ownsRow w5.heap.size 2 1 u9 zs.length (zs.map (Value.int .i64))) := apart_old HAP.out C8.out hgr
          have A9 : Hid (∀ b, v9.ownBlock = some b → u9.ownBlock ≠ some b) := apart_new (m := w7.heap.size + 1) (fun k hk => by have := (C8.out.lt k hk).2; simp at this; omega) HAP.out hloc
          have W9 : Hid (w5.heap.size ≤ w9.heap.size) := Nat.le_trans (Nat.le_trans W7.out (by simp)) hgr.size
          have UY := Lib.hid (UX.out w9 B9.out)
          clear hown hgr hloc D7 C7 D8 C8 R7 HAP UX hw7 hsz3
          cases ub
          · have HXU2 := HXU.out
            rw [if_neg (by decide), List.append_nil] at HXU2
            have HQ := Lib.hid HXU2
            clear HXU HXU2
            go_wp2_with fail
            refine UY.out.mono ?_
            rintro e w10 ⟨rfl, hb⟩
            have B10 := Lib.hid (onward hb B9.out)
            have R10 := Lib.hid (ranges_below R9.out hb)
            have D10 := Lib.hid (ownsRow_below D9.out hb)
            have C10 := Lib.hid (ownsRow_below C9.out hb)
            have W10 : Hid (w5.heap.size ≤ w10.heap.size) := Nat.le_trans W9.out hb.size
            clear hb UY
            go_wp2_with fail
            go_roundw
            case rel => exact ⟨_, cnt2, ss ++ [x], R10.out, by rw [List.length_append]; exact HCS.out, D10.out, by rw [HQ.out]; exact C10.out, A9.out, HC2.out, B10.out, W10.out⟩
            case measure => exact HME.out _ 0 R10.out
          · have HXU2 := HXU.out
            rw [if_pos rfl] at HXU2
            have HQ := Lib.hid HXU2
            clear HXU HXU2
            go_wp2_with fail
            refine UY.out.mono ?_
            rintro e w10 ⟨rfl, hb⟩
            have B10 := Lib.hid (onward hb B9.out)
            have R10 := Lib.hid (ranges_below R9.out hb)
            have D10 := Lib.hid (ownsRow_below D9.out hb)
            have C10 := Lib.hid (ownsRow_below C9.out hb)
            have W10 : Hid (w5.heap.size ≤ w10.heap.size) := Nat.le_trans W9.out hb.size
            have D11 := Lib.hid (D10.out.alloc (.cells #[.int .i64 bx] 2))
            have C11 := Lib.hid (C10.out.alloc (.cells #[.int .i64 bx] 2))
            have hw10 := W10.out
            clear hb UY
            go_wp2_with (at_builtin; refine wpList_append_own_at _ rfl (.tmp 106) (.tmp 108) 42 rfl w5.heap.size 2 i0 _ 1 8 Tryz.underlying42 hi0 hz0 hz1 hz2 rfl (by decide) _ _ _ rfl C11.out ⟨w10.heap.size, 0, none⟩ 1 1 [.int .i64 bx] rfl rfl (new_cells _ _ _) (one1 _ _) (by unfold maxLen; omega) (by omega) (by simp; omega) ?_)
            intro v11 w11 hown hgr hloc
            have hsz3 : w3.heap.size ≤ w10.heap.size := B10.out.size
            have AR2 : ∀ b, u9.ownBlock = some b → v9.ownBlock ≠ some b := fun b h1 h2 => A9.out b h2 h1
            have B11 : Hid (Below w3.heap.size w3 w11) := (onward (below_alloc _ _) B10.out).grown hgr (by simp; omega) (fun k hk => by have := (C11.out.lt k hk).1; have := HLT.out; omega)
            have R11 : Hid (w11.ranges Tryz.prog 9 (plainElem Tryz.prog 4) w3.heap.size ri n D0 (fun z => left z && !z.sameKey (.string x)) cnt2) := (R10.out.alloc (.cells #[.int .i64 bx] 2)).kept hgr (row_ne_low C11.out HLT.out) (row_ne_iter C11.out (R10.out.alloc _))
            have C12 : Hid (w11.ownsRow w5.heap.size 2 1 v11 (((ss ++ [x]).filter unX).map (balX D)).length ((((ss ++ [x]).filter unX).map (balX D)).map (Value.int .i64))) := by
              show World.ownsRow _ _ _ _ _ _ _
              rw [HQ.out, List.length_append, List.map_append]
              exact hown
            have D12 : Hid (w11.ownsRow w5.heap.size 2 1 v9 ((ss ++ [x]).map (balX D)).length (((ss ++ [x]).map (balX D)).map (Value.int .i64))) := apart_old AR2 D11.out hgr
            have A12 : Hid (∀ b, v9.ownBlock = some b → v11.ownBlock ≠ some b) := fun b h1 h2 => apart_new (m := w10.heap.size + 1) (fun k hk => by have := (D11.out.lt k hk).2; simp at this; omega) AR2 hloc b h2 h1
            have W12 : Hid (w5.heap.size ≤ w11.heap.size) := Nat.le_trans (Nat.le_trans W10.out (by simp)) hgr.size
            clear hown hgr hloc D10 C10 D11 C11 R10 AR2 hw10 hsz3
            go_wp2_with fail
            go_roundw
            case rel => exact ⟨_, cnt2, ss ++ [x], R11.out, by rw [List.length_append]; exact HCS.out, D12.out, C12.out, A12.out, HC2.out, B11.out, W12.out⟩
            case measure => exact HME.out _ 0 R11.out
end Go.Proofs.YtecbnhmnhcpcmaaGreatDoor
