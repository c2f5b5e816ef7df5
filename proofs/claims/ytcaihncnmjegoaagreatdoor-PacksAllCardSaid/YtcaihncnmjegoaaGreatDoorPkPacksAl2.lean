/- The walks of kv.New, and of a store's Get, Put, Delete. (Printed by gen_jnb.py.) -/
import Derived.Test.YtcaihncnmjegoaaGreatDoorPkPacksAl1
import Derived.Deep.DeepCutAuto
import Derived.Deep.CutBlock
import Derived.Deep.QuietTactic
import Derived.BigQuiet
import Derived.Handy
/-! The walks of kv.New, and of a store's Get, Put, Delete. (Printed by gen_jnb.py.) -/
namespace Go.Proofs.YtcaihncnmjegoaaGreatDoor
open Go.RowKit Go.WideMaps Go.Maps
set_option linter.unusedVariables false
set_option linter.unusedSimpArgs false
set_option maxRecDepth 100000
theorem wp_store {P : Program} {o : Oper} {a : Act} {w : World} {K : Act → World → Prop} {Q : Exit → Act → World → Prop} (m x v : Operand) (t : TypeId) (hop : o.op = Op.mapUpdate t m x v)
    (k e : TypeId) (L : Keyed P k) (ht : P.underlying t = some (.map k e)) (R : Value → Option (DM × List MemPlace)) (b n : Nat) (D : DM) (hm : a.eval m = .map (some b)) (hown : w.ownsMap P k R b n D) (hn : n < maxLen) (key val : Value) (kl : Lit)
    (hx : a.eval x = key) (hv : a.eval v = val) (hkey : keyOf P k key = some kl) (d : DM) (ps : List MemPlace) (hval : R val = some (d, ps))
    (hK : ∀ w', w'.ownsMap P k R b (n + 1) (D.put kl d) → w.grownBy w' (some b) → K (a.put o.dst undef) w') : o.wp P a w K Q := by
  obtain ⟨w', hrun, r1, r2⟩ := hown.store L ht hn hkey hval
  unfold Oper.wp
  simp [execOp, hop, hm, hx, hv, hrun, Result.andThen]
  exact hK w' r1 r2.grown
theorem box3c {w : World} {b : Nat} {T : Nat} {x0 x1 x2 : Value} (h : w.heap[b]? = some (.cells #[x0, x1, x2] T (0, 0))) : w.cell? ⟨b, 0, none⟩ = some x0 ∧ w.cell? ⟨b, 1, none⟩ = some x1 ∧ w.cell? ⟨b, 2, none⟩ = some x2 := by
  refine ⟨?_, ?_, ?_⟩ <;> simp [World.cell?, h]
theorem OwnM.lens {w : World} {b n : Nat} {D : DM} (h : OwnM w b n D) (ty : TypeId) : (Builtin.len_ #[55] ty #[.map (some b)]).run Tryz.prog w = .ok (.int .i64 (size D)) w := h.len Tryz.underlying55 ty
def GetEnd (D : DM) (ks : Bs) (w : World) (e : Ending) (w' : World) : Prop := Below w.heap.size w w' ∧ match gt D ks with
  | none => e = .returned (.tuple #[.slice none 0 0, .bool false, .int .i64 0])
  | some vs => ∃ v, BytesAt 0 w' v vs ∧ vs.length ≤ maxLen ∧ e = .returned (.tuple #[v, .bool true, .int .i64 0])
theorem GetEnd.no {D : DM} {ks : Bs} {w w' : World} {e : Ending} (h : gt D ks = none) (hb : Below w.heap.size w w') (he : e = .returned (.tuple #[.slice none 0 0, .bool false, .int .i64 0])) : GetEnd D ks w e w' := ⟨hb, by rw [h]; exact he⟩
theorem GetEnd.yes {D : DM} {ks vs : Bs} {w w' : World} {e : Ending} {v : Value} (h : gt D ks = some vs) (hb : Below w.heap.size w w') (hv : BytesAt 0 w' v vs) (hl : vs.length ≤ maxLen) (he : e = .returned (.tuple #[v, .bool true, .int .i64 0])) : GetEnd D ks w e w' := ⟨hb, by rw [h]; exact ⟨v, hv, hl, he⟩⟩
set_option maxHeartbeats 2000000 in
theorem get_any {p b1 b2 n : Nat} {room : Int} {D D2 : DM} (w : World) (hM : MemS w p b1 b2 room n D D2) {B : Nat} (kv : Value) (ks : Bs) (hk : BytesAt B w kv ks) (hl : ks.length ≤ 1000000) : Calls Tryz.prog 141 #[.pointer (some ⟨p, 0, none⟩), kv] w (GetEnd D ks w) := by
  obtain ⟨-, c1, -⟩ := box3c hM.box
  have CV : ∀ m, (convert 62 9 kv).run Tryz.prog (w.drewN m) = .ok (.string ⟨ks.toArray⟩) (w.drewN m) := fun m => conv_bytes (hk.below (World.below_drewN (Below.refl _ _) m))
  have LK : ∀ m, (Instr.lookup 55 (.map (some b1)) (.string ⟨ks.toArray⟩) true).run Tryz.prog (w.drewN m) = .ok (.tuple #[.string ⟨(at0 D ks).toArray⟩, .bool (has D (.string ks))]) (w.drewN m) := fun m => ((hM.now.same (w' := w.drewN m) rfl).look ks hl).1
  have HL := Lib.hid (hM.now.look ks hl).2
  have SB := string_bytes
  cases hg : gt D ks with
  | none =>
    have hh := gt_none hg
    rw [hh] at LK
    have HG := Lib.hid hg
    clear hg hh hM hk
    go_enter Tryz.func141, Tryz.ntmps141
    go_upto_region 3 with fail
    go_quiet (fail)
    go_wp2_with fail
    go_ret3
    exact GetEnd.no HG.out (World.below_drewN (Below.refl _ _) _) rfl
  | some vs =>
    obtain ⟨hh, ha⟩ := gt_some hg
    rw [hh, ha] at LK
    rw [ha] at HL
    have HG := Lib.hid hg
    clear hg hh hM hk ha
    go_enter Tryz.func141, Tryz.ntmps141
    go_upto_region 3 with fail
    go_quiet (fail)
    generalize hs : (⟨vs.toArray⟩ : ByteArray) = s at *
    have HS := Lib.hid hs
    clear hs
    go_wp2_with fail
    go_ret3
    have e : s.data.toList = vs := by rw [← HS.out]
    have hB := fun m => bytesWorld_at (B := 0) (w.drewN m) s (grownCap (w.drewN m) s.size 0 5)
    rw [e] at hB
    exact GetEnd.yes HG.out (onward (below_bytes _ s) (World.below_drewN (Below.refl _ _) _)) (hB _) HL.out rfl
theorem plain_str (s : Bs) (h : s.length ≤ 1000000) : plainElem (H := Unit) Tryz.prog 9 (.string ⟨s.toArray⟩) = some (.lit (.string s), []) := by
  have := plainElem_string (H := Unit) (P := Tryz.prog) Tryz.underlying9 (s := ⟨s.toArray⟩) (by unfold maxLen; simp [ByteArray.size]; omega)
  exact this
def putE (room : Int) (D : DM) (k v : Bs) : Int := if k = [] then 1 else if 256 < k.length ∨ 1024 < v.length then 2 else if has D (.string k) = false ∧ 0 ≤ room ∧ room ≤ size D then 3 else 0
def putD (room : Int) (D : DM) (k v : Bs) : DM := if putE room D k v = 0 then pt D k v else D
def PutEnd (p b1 b2 n : Nat) (room : Int) (D D2 : DM) (k v : Bs) (w : World) (e : Ending) (w' : World) : Prop := e = .returned (.int .i64 (putE room D k v)) ∧ MemS w' p b1 b2 room (n + 1) (putD room D k v) D2 ∧ Turned b1 w w'
theorem PutEnd.no {p b1 b2 n : Nat} {room : Int} {D D2 : DM} {k v : Bs} {w w' : World} {e : Ending} {c : Int} (hM : MemS w p b1 b2 room n D D2) (hb : Below w.heap.size w w') (hc : putE room D k v = c) (h0 : c ≠ 0) (he : e = .returned (.int .i64 c)) : PutEnd p b1 b2 n room D D2 k v w e w' := by
  refine ⟨by rw [hc]; exact he, ?_, .of_below hb hM.now.isM⟩
  unfold putD
  rw [hc, if_neg h0]
  exact (hM.below hb).mono (by omega)
theorem PutEnd.yes {p b1 b2 n : Nat} {room : Int} {D D2 : DM} {k v : Bs} {w w1 w' : World} {e : Ending} (hM : MemS w p b1 b2 room n D D2) (hb : Below w.heap.size w w1) (hg : w1.grownBy w' (some b1)) (ho : OwnM w' b1 (n + 1) (pt D k v)) (hc : putE room D k v = 0) (he : e = .returned (.int .i64 0)) : PutEnd p b1 b2 n room D D2 k v w e w' := by
  have h1 := hM.below hb
  have t : Turned b1 w1 w' := ⟨hg, h1.now.isM⟩
  refine ⟨by rw [hc]; exact he, ?_, (Turned.of_below hb hM.now.isM).trans t⟩
  unfold putD
  rw [hc, if_pos rfl]
  exact ⟨t.block h1.box, ho, (t.other h1.was h1.ne.symm).mono (by omega), h1.ne⟩
set_option maxHeartbeats 4000000 in
theorem put_any {p b1 b2 n : Nat} {room : Int} {D D2 : DM} (w : World) (hM : MemS w p b1 b2 room n D D2) (hn : n < 1000000) {B C : Nat} (kv vv : Value) (ks vs : Bs) (hk : BytesAt B w kv ks) (hv : BytesAt C w vv vs) (hl : ks.length ≤ 1000000) (hl2 : vs.length ≤ 1000000) : Calls Tryz.prog 142 #[.pointer (some ⟨p, 0, none⟩), kv, vv] w (PutEnd p b1 b2 n room D D2 ks vs w) := by
  have HM := Lib.hid hM
  have HK := Lib.hid hk
  have HV := Lib.hid hv
  obtain ⟨ka, kc, rfl⟩ := hk.form
  obtain ⟨va, vc, rfl⟩ := hv.form
  obtain ⟨c0, c1, -⟩ := box3c hM.box
  clear hk hv hM
  by_cases q1 : ks = []
  · have hc : putE room D ks vs = 1 := by unfold putE; rw [if_pos q1]
    have HC := Lib.hid hc
    have hl0 : ((ks.length : Nat) : Int) = 0 := by rw [q1]; rfl
    have e0 : (((ks.length : Nat) : Int) == 0) = true := by rw [hl0]; rfl
    clear hc q1
    go_enter Tryz.func142, Tryz.ntmps142
    go_wp2_with fail
    go_ret
    exact PutEnd.no HM.out (Below.refl _ _) HC.out (by decide) rfl
  have hkl : 0 < ks.length := by
    cases hks : ks with
    | nil => exact absurd hks q1
    | cons x r => simp
  have e0 : (((ks.length : Nat) : Int) == 0) = false := by rw [beq_eq_false_iff_ne]; omega
  by_cases q2 : 256 < ks.length ∨ 1024 < vs.length
  · have hc : putE room D ks vs = 2 := by unfold putE; rw [if_neg q1, if_pos q2]
    have HC := Lib.hid hc
    clear hc q1
    have qq : 256 < ks.length ∨ (ks.length ≤ 256 ∧ 1024 < vs.length) := by omega
    clear q2
    rcases qq with q | ⟨q, q'⟩
    · have d1 : decide ((256 : Int) < ((ks.length : Nat) : Int)) = true := decide_eq_true (by omega)
      go_enter Tryz.func142, Tryz.ntmps142
      go_wp2_with fail
      go_ret
      exact PutEnd.no HM.out (Below.refl _ _) HC.out (by decide) rfl
    · have d1 : decide ((256 : Int) < ((ks.length : Nat) : Int)) = false := decide_eq_false (by omega)
      have d2 : decide ((1024 : Int) < ((vs.length : Nat) : Int)) = true := decide_eq_true (by omega)
      go_enter Tryz.func142, Tryz.ntmps142
      go_wp2_with fail
      go_ret
      exact PutEnd.no HM.out (Below.refl _ _) HC.out (by decide) rfl
  have d1 : decide ((256 : Int) < ((ks.length : Nat) : Int)) = false := decide_eq_false (by omega)
  have d2 : decide ((1024 : Int) < ((vs.length : Nat) : Int)) = false := decide_eq_false (by omega)
  have CV : ∀ m, (convert 62 9 (.slice ka ks.length kc)).run Tryz.prog (w.drewN m) = .ok (.string ⟨ks.toArray⟩) (w.drewN m) := fun m => conv_bytes (HK.out.below (World.below_drewN (Below.refl _ _) m))
  have LK : ∀ m, (Instr.lookup 55 (.map (some b1)) (.string ⟨ks.toArray⟩) true).run Tryz.prog (w.drewN m) = .ok (.tuple #[.string ⟨(at0 D ks).toArray⟩, .bool (has D (.string ks))]) (w.drewN m) := fun m => ((HM.out.now.same (w' := w.drewN m) rfl).look ks hl).1
  have LN : ∀ W, W.heap = w.heap → (Builtin.len_ #[55] 3 #[.map (some b1)]).run Tryz.prog W = .ok (.int .i64 (size D)) W := fun W e => (HM.out.now.same (by rw [e])).lens _
  have HP : Hid (∀ c, (if has D (.string ks) = false ∧ 0 ≤ room ∧ room ≤ size D then (3 : Int) else 0) = c → putE room D ks vs = c) := fun c h => by unfold putE; rw [if_neg q1, if_neg q2]; exact h
  clear q1 q2 hkl
  by_cases hfull : has D (.string ks) = false ∧ 0 ≤ room ∧ room ≤ size D
  · have HC := Lib.hid (HP.out 3 (if_pos hfull))
    obtain ⟨f1, f2, f3⟩ := hfull
    rw [f1] at LK
    have g1 : decide ((0 : Int) ≤ room) = true := decide_eq_true f2
    have g2 : decide (room ≤ ((size D : Nat) : Int)) = true := decide_eq_true f3
    clear HP f1
    go_enter Tryz.func142, Tryz.ntmps142
    go_upto_region 7 with fail
    go_quiet (fail)
    have B1 := Lib.hid (World.below_drewN (Below.refl w.heap.size w) nq)
    have h1 : (w.drewN nq).heap = w.heap := rfl
    replace c0 : (w.drewN nq).cell? ⟨p, 0, none⟩ = _ := c0
    replace c1 : (w.drewN nq).cell? ⟨p, 1, none⟩ = _ := c1
    replace LN : ∀ m, (Builtin.len_ #[55] 3 #[.map (some b1)]).run Tryz.prog ((w.drewN nq).drewN m) = .ok (.int .i64 (size D)) ((w.drewN nq).drewN m) := fun m => LN _ rfl
    clear CV LK h1
    go_upto_region 8 with fail
    generalize w.drewN nq = W1 at *
    go_quiet (fail)
    go_wp2_with fail
    go_ret
    exact PutEnd.no HM.out (World.below_drewN B1.out _) HC.out (by decide) rfl
  · have HC := Lib.hid (HP.out 0 (if_neg hfull))
    have hq : has D (.string ks) = true ∨ (has D (.string ks) = false ∧ room < 0) ∨ (has D (.string ks) = false ∧ 0 ≤ room ∧ ((size D : Nat) : Int) < room) := by
      rcases Bool.eq_false_or_eq_true (has D (.string ks)) with hh | hh
      · exact .inl hh
      · rcases Int.lt_or_le room 0 with h | h
        · exact .inr (.inl ⟨hh, h⟩)
        · refine .inr (.inr ⟨hh, h, ?_⟩)
          rcases Int.lt_or_le ((size D : Nat) : Int) room with h2 | h2
          · exact h2
          · exact absurd ⟨hh, h, h2⟩ hfull
    clear HP hfull
    rcases hq with f1 | ⟨f1, f2⟩ | ⟨f1, f2, f3⟩
    all_goals
      rw [f1] at LK
      clear f1
      first
      | have g1 : decide ((0 : Int) ≤ room) = true := decide_eq_true f2
      | have g1 : decide ((0 : Int) ≤ room) = false := decide_eq_false (by omega)
      | skip
      first
      | have g2 : decide (room ≤ ((size D : Nat) : Int)) = false := decide_eq_false (by omega)
      | skip
      go_enter Tryz.func142, Tryz.ntmps142
      go_upto_region 7 with fail
      go_quiet (fail)
      have B1 := Lib.hid (World.below_drewN (Below.refl w.heap.size w) nq)
      replace c0 : (w.drewN nq).cell? ⟨p, 0, none⟩ = _ := c0
      replace c1 : (w.drewN nq).cell? ⟨p, 1, none⟩ = _ := c1
      replace LN : ∀ m, (Builtin.len_ #[55] 3 #[.map (some b1)]).run Tryz.prog ((w.drewN nq).drewN m) = .ok (.int .i64 (size D)) ((w.drewN nq).drewN m) := fun m => LN _ rfl
      clear CV LK
      go_upto_region 8 with fail
      generalize w.drewN nq = W1 at *
      go_quiet (fail)
      have B2 : Hid (∀ m, Below w.heap.size w (W1.drewN m)) := fun m => World.below_drewN B1.out m
      have KS : Hid (∀ m, Below W1.heap.size W1 (W1.drewN m)) := fun m => World.below_drewN (Below.refl _ _) m
      clear LN
      go_upto_region 10 with fail
      generalize hW2 : W1.drewN _ = W2 at *
      have B3 : Hid (Below w.heap.size w W2) := by rw [← hW2]; exact B2.out _
      replace c1 : W2.cell? ⟨p, 1, none⟩ = some (.map (some b1)) := by rw [← hW2]; exact c1
      clear c0 B2 KS hW2
      have M2 := Lib.hid (HM.out.below B3.out)
      refine UpTo.start (z := 8) (C := (fun W => W.cell? ⟨p, 1, none⟩ = some (.map (some b1)) ∧ (convert 62 9 (.slice ka ks.length kc)).run Tryz.prog W = .ok (.string ⟨ks.toArray⟩) W ∧ (convert 62 9 (.slice va vs.length vc)).run Tryz.prog W = .ok (.string ⟨vs.toArray⟩) W)) (by kernel_rfl) ?_ (fun hHeld => ?_)
      · (try dsimp only)
        exact ⟨c1, conv_bytes (HK.out.below B3.out.drew), conv_bytes (HV.out.below B3.out.drew)⟩
      refine PlanZ.start (plan := [0, 1, 2, 3, 4, 5, 6, 7]) (fuel := 1) (by decide +kernel) (by assumption) ?_
      refine PlanZ.free (i := 0) (ds := some 56) (v := ?_) rfl rfl rfl ?_ (fun _ _ _ h => h) ?_
      rotate_left
      · (intro w hSw; (try dsimp only at hSw); go_simp; first | done | with_reducible rfl)
      (try simp only [Act.put, List.setIfInBounds_toArray, List.set_cons_zero, List.set_cons_succ])
      refine PlanZ.free (i := 1) (ds := some 57) (v := ?_) rfl rfl rfl ?_ (fun _ _ _ h => h) ?_
      rotate_left
      · (intro w hSw; (try dsimp only at hSw); go_simp; first | done | with_reducible rfl)
      (try simp only [Act.put, List.setIfInBounds_toArray, List.set_cons_zero, List.set_cons_succ])
      refine PlanZ.free (i := 2) (ds := some 58) (v := ?_) rfl rfl rfl ?_ (fun _ _ _ h => h) ?_
      rotate_left
      · (intro w hSw; (try dsimp only at hSw); go_simp; first | done | with_reducible rfl)
      (try simp only [Act.put, List.setIfInBounds_toArray, List.set_cons_zero, List.set_cons_succ])
      refine PlanZ.free (i := 3) (ds := some 59) (v := ?_) rfl rfl rfl ?_ (fun _ _ _ h => h) ?_
      rotate_left
      · (intro w hSw; (try dsimp only at hSw); go_simp; first | done | with_reducible rfl)
      (try simp only [Act.put, List.setIfInBounds_toArray, List.set_cons_zero, List.set_cons_succ])
      refine PlanZ.free (i := 4) (ds := some 60) (v := ?_) rfl rfl rfl ?_ (fun _ _ _ h => h) ?_
      rotate_left
      · (intro w hSw; (try dsimp only at hSw); go_simp; first | done | with_reducible rfl)
      (try simp only [Act.put, List.setIfInBounds_toArray, List.set_cons_zero, List.set_cons_succ])
      refine PlanZ.free (i := 5) (ds := some 61) (v := ?_) rfl rfl rfl ?_ (fun _ _ _ h => h) ?_
      rotate_left
      · (intro w hSw; (try dsimp only at hSw); go_simp; first | done | with_reducible rfl)
      (try simp only [Act.put, List.setIfInBounds_toArray, List.set_cons_zero, List.set_cons_succ])
      refine PlanZ.free (i := 6) (ds := some 62) (v := ?_) rfl rfl rfl ?_ (fun _ _ _ h => h) ?_
      rotate_left
      · (intro w hSw; (try dsimp only at hSw); go_simp; first | done | with_reducible rfl)
      (try simp only [Act.put, List.setIfInBounds_toArray, List.set_cons_zero, List.set_cons_succ])
      refine PlanZ.free (i := 7) (ds := some 63) (v := ?_) rfl rfl rfl ?_ (fun _ _ _ h => h) ?_
      rotate_left
      · (intro w hSw; (try dsimp only at hSw); go_simp; first | done | with_reducible rfl)
      (try simp only [Act.put, List.setIfInBounds_toArray, List.set_cons_zero, List.set_cons_succ])
      refine PlanZ.stop (fun hHeld => ?_)
      refine UpTo.ready (rs := [8]) (by decide +kernel) (by simp) ?_
      refine AllZ.last (o := _) rfl ?_
      intro K hK
      rw [if_pos (wanted_none (by rfl))]
      (refine wp_store _ _ _ 55 (by rfl) 9 9 keyStr Tryz.underlying55 (plainElem Tryz.prog 9) b1 n D (by rfl) (M2.out.now.same rfl) (by unfold maxLen; omega) (.string ⟨ks.toArray⟩) (.string ⟨vs.toArray⟩) (.string ks) (by rfl) (by rfl) (key_str ks hl) (.lit (.string vs)) [] (plain_str vs hl2) ?_; intro w4 how hgr)
      refine hK.out _ _ ?_
      clear hK K
      (try simp only [Act.put, List.setIfInBounds_toArray, List.set_cons_zero, List.set_cons_succ])
      refine UpTo.done (by decide +kernel) ?_ _
      go_wp2_with fail
      go_ret
      exact PutEnd.yes HM.out B3.out.drew hgr how HC.out rfl
end Go.Proofs.YtcaihncnmjegoaaGreatDoor

