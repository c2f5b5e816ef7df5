/- The walk of the law PacksApart. (Printed by gen_pam.py.) -/
import Derived.Test.YtcaihncnmjegoaaGreatDoorPkPacks16
/-! The walk of the law PacksApart. (Printed by gen_pam.py.) -/
namespace Go.Proofs.YtcaihncnmjegoaaGreatDoor
open Go.RowKit Go.WideMaps Go.Maps
set_option linter.unusedVariables false
set_option linter.unusedSimpArgs false
set_option maxRecDepth 10000000
/-- an act -/
structure PAct where
  d : Int
  n : Int
  t : Int
  z : Int
def PAct.cells (a : PAct) : List Value := [.int .u8 a.d, .int .i64 a.n, .int .i64 a.t, .int .i64 a.z]
def PAct.ok (a : PAct) : Prop := Acct.inInt a.n ∧ Acct.inInt a.t ∧ Acct.inInt a.z
theorem pact_cells {w : World} {a : Option Addr} {n c : Nat} {L : List PAct} (h : RowsIn w (.slice a n c) 4 (L.map PAct.cells)) (i : Nat) (hi : i < L.length) : ∃ b o, a = some ⟨b, o, none⟩ ∧ w.cell? ⟨b, o + i * 4 + 1, none⟩ = some (.int .i64 L[i].n) ∧ w.cell? ⟨b, o + i * 4 + 2, none⟩ = some (.int .i64 L[i].t) ∧ w.cell? ⟨b, o + i * 4 + 3, none⟩ = some (.int .i64 L[i].z) := by
  obtain ⟨b, o, rfl, hc⟩ := rows_cell h i (by rw [List.length_map]; exact hi)
  have e : (L.map PAct.cells).getD i [] = L[i].cells := by rw [List.getD_eq_getElem?_getD, List.getElem?_map, List.getElem?_eq_getElem hi]; rfl
  rw [e] at hc
  exact ⟨b, o, rfl, by rw [Nat.add_assoc]; exact hc 1 (by omega), by rw [Nat.add_assoc]; exact hc 2 (by omega), by rw [Nat.add_assoc]; exact hc 3 (by omega)⟩
theorem pact_form {w : World} {lv : Value} {L : List PAct} (h : RowsIn w lv 4 (L.map PAct.cells)) : ∃ a c, lv = .slice a L.length c := by
  obtain ⟨a, c, h1, -, -⟩ := rows_form h
  rw [List.length_map] at h1
  exact ⟨a, c, h1⟩
/-- two stores of packs, of which one tenant's are alike -/
def TwoP (w : World) (p b1 b2 q c1 c2 i k : Nat) : Prop := ∃ D cnt ex D' cnt' ex', MemS w p b1 b2 (-1) i D (.map []) ∧ PS D cnt ex ∧ (∀ x, cnt x ≤ i) ∧ MemS w q c1 c2 (-1) (2 * i) D' (.map []) ∧ PS D' cnt' ex' ∧ (∀ x, cnt' x ≤ 2 * i) ∧ cnt 5 = k ∧ cnt' 5 = k
theorem pkR_same {cnt cnt' : Nat → Nat} {u : Nat} (h : cnt u = cnt' u) (units e now : Int) : pkR cnt u units e now = pkR cnt' u units e now := by unfold pkR; rw [h]
theorem pkC_at {cnt : Nat → Nat} {u : Nat} {units e now : Int} : pkC cnt u units e now u = if badA units e now then cnt u else cnt u + 1 := by
  unfold pkC cntP
  split
  · rfl
  · dsimp only; rw [if_pos rfl]
theorem pkC_other {cnt : Nat → Nat} {u x : Nat} {units e now : Int} (h : x ≠ u) : pkC cnt u units e now x = cnt x := by
  unfold pkC cntP
  split
  · rfl
  · dsimp only; rw [if_neg h]
set_option maxHeartbeats 8000000 in
theorem packsApart_any (lv ov : Value) (L : List PAct) (os : List Int) (w : World) (hE : EnvA w) (hL : RowsIn w lv 4 (L.map PAct.cells)) (hok : ∀ a ∈ L, a.ok) (hO : NumsAt .u32 w ov os) (ho : ∀ t ∈ os, 0 ≤ t ∧ t < 4294967296) (hl1 : L.length ≤ 9223372036854775807) (hl2 : os.length ≤ 9223372036854775807) :
    Calls Tryz.prog 5 #[lv, ov] w fun e w' => e = .returned (.bool true) ∧ Below w.heap.size w w' := by
  have HE := Lib.hid hE
  have HL := Lib.hid hL
  have HOK := Lib.hid hok
  have HO := Lib.hid hO
  have HOB := Lib.hid ho
  obtain ⟨la, lc, rfl⟩ := pact_form hL
  obtain ⟨oa, oc, rfl⟩ := hO.formP
  clear hE hL hok hO ho
  by_cases h30 : L.length > 30
  · have hz : (L.length : Int) > 30 := by omega
    go_enter Tryz.func5, Tryz.ntmps5
    go_wp2_with fail
    go_ret
    exact ⟨rfl, Below.refl _ _⟩
  have hz : ¬ (L.length : Int) > 30 := by omega
  have H30 : Hid (L.length ≤ 30) := by show _ ≤ _; omega
  clear h30
  by_cases hlo : os.length < L.length
  · have hzo : (os.length : Int) < (L.length : Int) := by omega
    go_enter Tryz.func5, Tryz.ntmps5
    go_wp2_with fail
    go_ret
    exact ⟨rfl, Below.refl _ _⟩
  have hzo : ¬ (os.length : Int) < (L.length : Int) := by omega
  have HLO : Hid (L.length ≤ os.length) := by show _ ≤ _; omega
  clear hlo
  go_enter Tryz.func5, Tryz.ntmps5
  go_wp2_with fail
  refine (new_any (-1) w).mono ?_
  rintro e w1 ⟨p, b1, b2, rfl, hm, hb, -, hb1, hb2⟩
  have B1 := Lib.hid hb
  have M1 := Lib.hid hm
  have HB1 : Hid (w.heap.size ≤ b1) := hb1
  clear hm hb hb1 hb2
  go_wp2_with fail
  refine (new_any (-1) w1).mono ?_
  rintro e w2 ⟨q, c1, c2, rfl, hm, hb, -, hc1, hc2⟩
  have B2 := Lib.hid (onward hb B1.out)
  have T2 : Hid (TwoP w2 p b1 b2 q c1 c2 0 0) := ⟨_, _, _, _, _, _, M1.out.below hb, ps_empty, fun _ => Nat.le_refl _, hm, ps_empty, fun _ => Nat.le_refl _, rfl, rfl⟩
  have HC1 : Hid (w.heap.size ≤ c1) := Nat.le_trans B1.out.size hc1
  have AP : Hid (b1 ≠ c1 ∧ b2 ≠ c1 ∧ c1 ≠ b1 ∧ c2 ≠ b1) := by
    have h1 := M1.out.now.lt
    have h2 := M1.out.was.lt
    show _ ∧ _ ∧ _ ∧ _
    omega
  clear hm hb hc1 hc2 M1
  go_wp2_with fail
  go_loopw [7, 8, 9, 10, 11, 12, 13, 14] (fun nv iv _ _ _ _ _ _ wr => ∃ i k : Nat, i ≤ L.length ∧ iv = .int .i64 i ∧ nv = .int .u32 ((k + 1 : Nat) : Int) ∧ k ≤ i ∧ Hid (TwoP wr p b1 b2 q c1 c2 i k) ∧ Hid (Below w.heap.size w wr)) (fun _ iv _ _ _ _ _ _ _ => L.length - (intOf iv).toNat)
  case atStart => exact ⟨0, 0, by omega, rfl, rfl, by omega, T2.out, B2.out⟩
  case round =>
    obtain ⟨i, k, hi, rfl, rfl, hki, HT, BR⟩ := hrel
    by_cases hlt : i < L.length
    · have hzz : (i : Int) < (L.length : Int) := by omega
      obtain ⟨g, o, rfl, y1, y2, y3⟩ := pact_cells (HL.out.below BR.out) i hlt
      have hxo := HOK.out _ (List.getElem_mem hlt)
      have hz30 := H30.out
      generalize L[i] = a at *
      obtain ⟨ad, an, at', az⟩ := a
      obtain ⟨hn1, hn2, hn3⟩ := hxo
      simp only at y1 y2 y3 hn1 hn2 hn3
      have KX : Hid (∀ W, Below wr.heap.size wr W → W.cell? ⟨g, o + i * 4 + 1, none⟩ = some (.int .i64 an) ∧ W.cell? ⟨g, o + i * 4 + 2, none⟩ = some (.int .i64 at') ∧ W.cell? ⟨g, o + i * 4 + 3, none⟩ = some (.int .i64 az)) := by
        have q1 := y1; have q2 := y2; have q3 := y3
        exact fun W hb => ⟨stays hb q1, stays hb q2, stays hb q3⟩
      have KT : Hid (∀ b W, Turned b wr W → W.cell? ⟨g, o + i * 4 + 1, none⟩ = some (.int .i64 an) ∧ W.cell? ⟨g, o + i * 4 + 2, none⟩ = some (.int .i64 at') ∧ W.cell? ⟨g, o + i * 4 + 3, none⟩ = some (.int .i64 az)) := by
        have q1 := y1; have q2 := y2; have q3 := y3
        exact fun b W hb => ⟨hb.cell q1, hb.cell q2, hb.cell q3⟩
      have AX : Hid (∀ W, Below wr.heap.size wr W → Calls Tryz.prog 13 #[memI p, .int .u32 5, .int .i64 an, .int .i64 at', .int .i64 az] W fun en w' => (∃ pv, en = .returned (.tuple #[.int .u32 (pkR (fun _ => k) 5 an at' az).1, pv, .int .i64 (pkR (fun _ => k) 5 an at' az).2.2]) ∧ RowsIn w' pv 2 ((pkR (fun _ => k) 5 an at' az).2.1.map Pt.cells)) ∧ Turned b1 W w' ∧ ∃ D cnt ex D' cnt' ex', MemS w' p b1 b2 (-1) (i + 1) D (.map []) ∧ PS D cnt ex ∧ (∀ x, cnt x ≤ i + 1) ∧ MemS w' q c1 c2 (-1) (2 * i) D' (.map []) ∧ PS D' cnt' ex' ∧ (∀ x, cnt' x ≤ 2 * i) ∧ cnt 5 = (if badA an at' az then k else k + 1) ∧ cnt' 5 = k) := fun W hb => by
        obtain ⟨D, cnt, ex, D', cnt', ex', hm, hp, hcn, hm', hp', hcn', e5, e5'⟩ := HT.out
        refine (pk_add 5 an at' az W (HE.out.below (onward hb BR.out)) (hm.below hb) hp (by omega) (by omega) (fun y => by have := hcn y; omega) hn1 hn2).mono ?_
        rintro en w' ⟨pv, D2, rfl, hr, hm2, hp2, ht2⟩
        rw [pkR_same (cnt' := fun _ => k) e5] at hr ⊢
        exact ⟨⟨pv, rfl, hr⟩, ht2, D2, _, _, D', cnt', ex', hm2, hp2, pkC_le hcn, (hm'.below hb).turned ht2 AP.out.2.2.1 AP.out.2.2.2, hp', hcn', by rw [pkC_at, e5], e5'⟩
      generalize hrr : pkR (fun _ => k) 5 an at' az = rr at *
      have HRR := Lib.hid hrr
      clear hrr HT y1 y2 y3
      obtain ⟨z1, z2, z3⟩ := KX.out wr (Below.refl _ _)
      go_upto_region 8 with fail
      refine wp_region_held_drew (S := (fun W => W.cell? ⟨g, o + i * 4 + 1, none⟩ = some (.int .i64 an) ∧ W.cell? ⟨g, o + i * 4 + 2, none⟩ = some (.int .i64 at') ∧ W.cell? ⟨g, o + i * 4 + 3, none⟩ = some (.int .i64 az))) (by kernel_rfl) ?_ (fun hHeld => ?_)
      · (try dsimp only)
        exact KX.out _ ((Below.refl _ _).drew)
      refine Plan.start (plan := [0, 1, 2, 3, 4, 5, 6, 7, 8, 9, 10, 11, 12, 13, 14, 15, 16]) (fuel := 8) (by decide +kernel) (by assumption) ?_
      refine Plan.free (i := 0) (ds := some 34) (v := ?_) rfl rfl rfl ?_ (fun _ _ _ h => h) ?_
      rotate_left
      · (intro w hSw; (try dsimp only at hSw); go_simp; first | done | with_reducible rfl)
      (try simp only [Act.put, List.setIfInBounds_toArray, List.set_cons_zero, List.set_cons_succ])
      refine Plan.free (i := 1) (ds := some 35) (v := ?_) rfl rfl rfl ?_ (fun _ _ _ h => h) ?_
      rotate_left
      · (intro w hSw; (try dsimp only at hSw); go_simp; first | done | with_reducible rfl)
      (try simp only [Act.put, List.setIfInBounds_toArray, List.set_cons_zero, List.set_cons_succ])
      refine Plan.free (i := 2) (ds := some 36) (v := ?_) rfl rfl rfl ?_ (fun _ _ _ h => h) ?_
      rotate_left
      · (intro w hSw; (try dsimp only at hSw); go_simp; first | done | with_reducible rfl)
      (try simp only [Act.put, List.setIfInBounds_toArray, List.set_cons_zero, List.set_cons_succ])
      refine Plan.free (i := 3) (ds := some 37) (v := ?_) rfl rfl rfl ?_ (fun _ _ _ h => h) ?_
      rotate_left
      · (intro w hSw; (try dsimp only at hSw); go_simp; first | done | with_reducible rfl)
      (try simp only [Act.put, List.setIfInBounds_toArray, List.set_cons_zero, List.set_cons_succ])
      refine Plan.free (i := 4) (ds := some 38) (v := ?_) rfl rfl rfl ?_ (fun _ _ _ h => h) ?_
      rotate_left
      · (intro w hSw; (try dsimp only at hSw); go_simp; first | done | with_reducible rfl)
      (try simp only [Act.put, List.setIfInBounds_toArray, List.set_cons_zero, List.set_cons_succ])
      refine Plan.free (i := 5) (ds := some 39) (v := ?_) rfl rfl rfl ?_ (fun _ _ _ h => h) ?_
      rotate_left
      · (intro w hSw; (try dsimp only at hSw); go_simp; first | done | with_reducible rfl)
      (try simp only [Act.put, List.setIfInBounds_toArray, List.set_cons_zero, List.set_cons_succ])
      refine Plan.free (i := 6) (ds := some 40) (v := ?_) rfl rfl rfl ?_ (fun _ _ _ h => h) ?_
      rotate_left
      · (intro w hSw; (try dsimp only at hSw); go_simp; first | done | with_reducible rfl)
      (try simp only [Act.put, List.setIfInBounds_toArray, List.set_cons_zero, List.set_cons_succ])
      refine Plan.free (i := 7) (ds := some 41) (v := ?_) rfl rfl rfl ?_ (fun _ _ _ h => h) ?_
      rotate_left
      · (intro w hSw; (try dsimp only at hSw); go_simp; first | done | with_reducible rfl)
      (try simp only [Act.put, List.setIfInBounds_toArray, List.set_cons_zero, List.set_cons_succ])
      refine Plan.free (i := 8) (ds := some 42) (v := ?_) rfl rfl rfl ?_ (fun _ _ _ h => h) ?_
      rotate_left
      · (intro w hSw; (try dsimp only at hSw); go_simp; first | done | with_reducible rfl)
      (try simp only [Act.put, List.setIfInBounds_toArray, List.set_cons_zero, List.set_cons_succ])
      refine Plan.free (i := 9) (ds := some 43) (v := ?_) rfl rfl rfl ?_ (fun _ _ _ h => h) ?_
      rotate_left
      · (intro w hSw; (try dsimp only at hSw); go_simp; first | done | with_reducible rfl)
      (try simp only [Act.put, List.setIfInBounds_toArray, List.set_cons_zero, List.set_cons_succ])
      refine Plan.free (i := 10) (ds := some 44) (v := ?_) rfl rfl rfl ?_ (fun _ _ _ h => h) ?_
      rotate_left
      · (intro w hSw; (try dsimp only at hSw); go_simp; first | done | with_reducible rfl)
      (try simp only [Act.put, List.setIfInBounds_toArray, List.set_cons_zero, List.set_cons_succ])
      refine Plan.free (i := 11) (ds := some 45) (v := ?_) rfl rfl rfl ?_ (fun _ _ _ h => h) ?_
      rotate_left
      · (intro w hSw; (try dsimp only at hSw); go_simp; first | done | with_reducible rfl)
      (try simp only [Act.put, List.setIfInBounds_toArray, List.set_cons_zero, List.set_cons_succ])
      refine Plan.free (i := 12) (ds := some 46) (v := ?_) rfl rfl rfl ?_ (fun _ _ _ h => h) ?_
      rotate_left
      · (intro w hSw; (try dsimp only at hSw); go_simp; first | done | with_reducible rfl)
      (try simp only [Act.put, List.setIfInBounds_toArray, List.set_cons_zero, List.set_cons_succ])
      refine Plan.free (i := 13) (ds := some 47) (v := ?_) rfl rfl rfl ?_ (fun _ _ _ h => h) ?_
      rotate_left
      · (intro w hSw; (try dsimp only at hSw); go_simp; first | done | with_reducible rfl)
      (try simp only [Act.put, List.setIfInBounds_toArray, List.set_cons_zero, List.set_cons_succ])
      refine Plan.free (i := 14) (ds := some 48) (v := ?_) rfl rfl rfl ?_ (fun _ _ _ h => h) ?_
      rotate_left
      · (intro w hSw; (try dsimp only at hSw); go_simp; first | done | with_reducible rfl)
      (try simp only [Act.put, List.setIfInBounds_toArray, List.set_cons_zero, List.set_cons_succ])
      refine Plan.free (i := 15) (ds := some 49) (v := ?_) rfl rfl rfl ?_ (fun _ _ _ h => h) ?_
      rotate_left
      · (intro w hSw; (try dsimp only at hSw); go_simp; first | done | with_reducible rfl)
      (try simp only [Act.put, List.setIfInBounds_toArray, List.set_cons_zero, List.set_cons_succ])
      refine Plan.free (i := 16) (ds := some 50) (v := ?_) rfl rfl rfl ?_ (fun _ _ _ h => h) ?_
      rotate_left
      · (intro w hSw; (try dsimp only at hSw); go_simp; first | done | with_reducible rfl)
      (try simp only [Act.put, List.setIfInBounds_toArray, List.set_cons_zero, List.set_cons_succ])
      refine Plan.stop (fun hHeld => ?_)
      refine wpAnyH_ready (rs := [17]) (by decide +kernel) (by simp) ?_
      refine AllReadyH.cons (o := _) rfl ?_ AllReadyH.nil
      intro K hK
      rw [if_pos (wanted_none (by rfl))]
      (go_simp; go_at_call 13; refine (AX.out _ ((Below.refl _ _).drew)).mono ?_; rintro e w3 ⟨⟨pv, rfl, hr⟩, ht, hst⟩; have T3 : Hid (Turned b1 wr w3) := (Turned.of_below ((Below.refl wr.heap.size wr).drew) ht.isM).trans ht; have R3 := Lib.hid hr; have S3 := Lib.hid hst; clear hr ht hst)
      refine hK.out _ _ ?_ (fun hHeld => ?_)
      · (try dsimp only)
        exact KT.out _ _ T3.out
      clear hK K
      (try simp only [Act.put, List.setIfInBounds_toArray, List.set_cons_zero, List.set_cons_succ])
      refine Plan.start (plan := [18, 19, 20, 21, 22, 23, 24]) (fuel := 0) (by decide +kernel) (by assumption) ?_
      refine Plan.free (i := 18) (ds := some 33) (v := ?_) rfl rfl rfl ?_ (fun _ _ _ h => h) ?_
      rotate_left
      · (intro w hSw; (try dsimp only at hSw); go_simp; first | done | with_reducible rfl)
      (try simp only [Act.put, List.setIfInBounds_toArray, List.set_cons_zero, List.set_cons_succ])
      refine Plan.free (i := 19) (ds := some 52) (v := ?_) rfl rfl rfl ?_ (fun _ _ _ h => h) ?_
      rotate_left
      · (intro w hSw; (try dsimp only at hSw); go_simp; first | done | with_reducible rfl)
      (try simp only [Act.put, List.setIfInBounds_toArray, List.set_cons_zero, List.set_cons_succ])
      refine Plan.free (i := 20) (ds := some 53) (v := ?_) rfl rfl rfl ?_ (fun _ _ _ h => h) ?_
      rotate_left
      · (intro w hSw; (try dsimp only at hSw); go_simp; first | done | with_reducible rfl)
      (try simp only [Act.put, List.setIfInBounds_toArray, List.set_cons_zero, List.set_cons_succ])
      refine Plan.free (i := 21) (ds := some 54) (v := ?_) rfl rfl rfl ?_ (fun _ _ _ h => h) ?_
      rotate_left
      · (intro w hSw; (try dsimp only at hSw); go_simp; first | done | with_reducible rfl)
      (try simp only [Act.put, List.setIfInBounds_toArray, List.set_cons_zero, List.set_cons_succ])
      refine Plan.free (i := 22) (ds := some 9) (v := ?_) rfl rfl rfl ?_ (fun _ _ _ h => h) ?_
      rotate_left
      · (intro w hSw; (try dsimp only at hSw); go_simp; first | done | with_reducible rfl)
      (try simp only [Act.put, List.setIfInBounds_toArray, List.set_cons_zero, List.set_cons_succ])
      refine Plan.free (i := 23) (ds := some 10) (v := ?_) rfl rfl rfl ?_ (fun _ _ _ h => h) ?_
      rotate_left
      · (intro w hSw; (try dsimp only at hSw); go_simp; first | done | with_reducible rfl)
      (try simp only [Act.put, List.setIfInBounds_toArray, List.set_cons_zero, List.set_cons_succ])
      refine Plan.free (i := 24) (ds := some 11) (v := ?_) rfl rfl rfl ?_ (fun _ _ _ h => h) ?_
      rotate_left
      · (intro w hSw; (try dsimp only at hSw); go_simp; first | done | with_reducible rfl)
      (try simp only [Act.put, List.setIfInBounds_toArray, List.set_cons_zero, List.set_cons_succ])
      refine Plan.stop (fun hHeld => ?_)
      refine wpAnyH_done (by decide +kernel) ?_ _
      obtain ⟨pa, pc, rfl⟩ := pt_form R3.out
      have B3 : Hid (Below w.heap.size w w3) := BR.out.trans (T3.out.below BR.out.size HB1.out)
      have AY : Hid (∀ W, Below w3.heap.size w3 W → Calls Tryz.prog 13 #[memI q, .int .u32 5, .int .i64 an, .int .i64 at', .int .i64 az] W fun en w' => (∃ pv, en = .returned (.tuple #[.int .u32 rr.1, pv, .int .i64 rr.2.2]) ∧ RowsIn w' pv 2 (rr.2.1.map Pt.cells)) ∧ Turned c1 W w' ∧ ∃ D cnt ex D' cnt' ex', MemS w' p b1 b2 (-1) (i + 1) D (.map []) ∧ PS D cnt ex ∧ (∀ x, cnt x ≤ i + 1) ∧ MemS w' q c1 c2 (-1) (2 * i + 1) D' (.map []) ∧ PS D' cnt' ex' ∧ (∀ x, cnt' x ≤ 2 * i + 1) ∧ cnt 5 = (if badA an at' az then k else k + 1) ∧ cnt' 5 = (if badA an at' az then k else k + 1)) := fun W hb => by
        obtain ⟨D, cnt, ex, D', cnt', ex', hm, hp, hcn, hm', hp', hcn', e5, e5'⟩ := S3.out
        refine (pk_add 5 an at' az W (HE.out.below (onward hb B3.out)) (hm'.below hb) hp' (by omega) (by omega) (fun y => by have := hcn' y; omega) hn1 hn2).mono ?_
        rintro en w' ⟨pv, D2, rfl, hr, hm2, hp2, ht2⟩
        rw [pkR_same (cnt' := fun _ => k) e5', HRR.out] at hr ⊢
        exact ⟨⟨pv, rfl, hr⟩, ht2, D, cnt, ex, D2, _, _, (hm.below hb).turned ht2 AP.out.1 AP.out.2.1, hp, hcn, hm2, hp2, pkC_le hcn', e5, by rw [pkC_at, e5']⟩
      obtain ⟨z1, z2, z3⟩ := KT.out _ _ T3.out
      have K1 : Hid (∀ W, Below w3.heap.size w3 W → W.cell? ⟨g, o + i * 4 + 1, none⟩ = some (.int .i64 an) ∧ W.cell? ⟨g, o + i * 4 + 2, none⟩ = some (.int .i64 at') ∧ W.cell? ⟨g, o + i * 4 + 3, none⟩ = some (.int .i64 az)) := by
        have q1 := z1; have q2 := z2; have q3 := z3
        exact fun W hb => ⟨stays hb q1, stays hb q2, stays hb q3⟩
      have K2 : Hid (∀ b W, Turned b w3 W → W.cell? ⟨g, o + i * 4 + 1, none⟩ = some (.int .i64 an) ∧ W.cell? ⟨g, o + i * 4 + 2, none⟩ = some (.int .i64 at') ∧ W.cell? ⟨g, o + i * 4 + 3, none⟩ = some (.int .i64 az)) := by
        have q1 := z1; have q2 := z2; have q3 := z3
        exact fun b W hb => ⟨hb.cell q1, hb.cell q2, hb.cell q3⟩
      clear hHeld KX KT AX
      go_upto_region 9 with fail
      refine wp_region_held_drew (S := (fun W => W.cell? ⟨g, o + i * 4 + 1, none⟩ = some (.int .i64 an) ∧ W.cell? ⟨g, o + i * 4 + 2, none⟩ = some (.int .i64 at') ∧ W.cell? ⟨g, o + i * 4 + 3, none⟩ = some (.int .i64 az))) (by kernel_rfl) ?_ (fun hHeld => ?_)
      · (try dsimp only)
        exact K1.out _ ((Below.refl _ _).drew)
      refine Plan.start (plan := [0, 1, 2, 3, 4, 5, 6, 7, 8, 9, 10, 11, 12, 13, 14, 15, 16]) (fuel := 8) (by decide +kernel) (by assumption) ?_
      refine Plan.free (i := 0) (ds := some 56) (v := ?_) rfl rfl rfl ?_ (fun _ _ _ h => h) ?_
      rotate_left
      · (intro w hSw; (try dsimp only at hSw); go_simp; first | done | with_reducible rfl)
      (try simp only [Act.put, List.setIfInBounds_toArray, List.set_cons_zero, List.set_cons_succ])
      refine Plan.free (i := 1) (ds := some 57) (v := ?_) rfl rfl rfl ?_ (fun _ _ _ h => h) ?_
      rotate_left
      · (intro w hSw; (try dsimp only at hSw); go_simp; first | done | with_reducible rfl)
      (try simp only [Act.put, List.setIfInBounds_toArray, List.set_cons_zero, List.set_cons_succ])
      refine Plan.free (i := 2) (ds := some 58) (v := ?_) rfl rfl rfl ?_ (fun _ _ _ h => h) ?_
      rotate_left
      · (intro w hSw; (try dsimp only at hSw); go_simp; first | done | with_reducible rfl)
      (try simp only [Act.put, List.setIfInBounds_toArray, List.set_cons_zero, List.set_cons_succ])
      refine Plan.free (i := 3) (ds := some 59) (v := ?_) rfl rfl rfl ?_ (fun _ _ _ h => h) ?_
      rotate_left
      · (intro w hSw; (try dsimp only at hSw); go_simp; first | done | with_reducible rfl)
      (try simp only [Act.put, List.setIfInBounds_toArray, List.set_cons_zero, List.set_cons_succ])
      refine Plan.free (i := 4) (ds := some 60) (v := ?_) rfl rfl rfl ?_ (fun _ _ _ h => h) ?_
      rotate_left
      · (intro w hSw; (try dsimp only at hSw); go_simp; first | done | with_reducible rfl)
      (try simp only [Act.put, List.setIfInBounds_toArray, List.set_cons_zero, List.set_cons_succ])
      refine Plan.free (i := 5) (ds := some 61) (v := ?_) rfl rfl rfl ?_ (fun _ _ _ h => h) ?_
      rotate_left
      · (intro w hSw; (try dsimp only at hSw); go_simp; first | done | with_reducible rfl)
      (try simp only [Act.put, List.setIfInBounds_toArray, List.set_cons_zero, List.set_cons_succ])
      refine Plan.free (i := 6) (ds := some 62) (v := ?_) rfl rfl rfl ?_ (fun _ _ _ h => h) ?_
      rotate_left
      · (intro w hSw; (try dsimp only at hSw); go_simp; first | done | with_reducible rfl)
      (try simp only [Act.put, List.setIfInBounds_toArray, List.set_cons_zero, List.set_cons_succ])
      refine Plan.free (i := 7) (ds := some 63) (v := ?_) rfl rfl rfl ?_ (fun _ _ _ h => h) ?_
      rotate_left
      · (intro w hSw; (try dsimp only at hSw); go_simp; first | done | with_reducible rfl)
      (try simp only [Act.put, List.setIfInBounds_toArray, List.set_cons_zero, List.set_cons_succ])
      refine Plan.free (i := 8) (ds := some 64) (v := ?_) rfl rfl rfl ?_ (fun _ _ _ h => h) ?_
      rotate_left
      · (intro w hSw; (try dsimp only at hSw); go_simp; first | done | with_reducible rfl)
      (try simp only [Act.put, List.setIfInBounds_toArray, List.set_cons_zero, List.set_cons_succ])
      refine Plan.free (i := 9) (ds := some 65) (v := ?_) rfl rfl rfl ?_ (fun _ _ _ h => h) ?_
      rotate_left
      · (intro w hSw; (try dsimp only at hSw); go_simp; first | done | with_reducible rfl)
      (try simp only [Act.put, List.setIfInBounds_toArray, List.set_cons_zero, List.set_cons_succ])
      refine Plan.free (i := 10) (ds := some 66) (v := ?_) rfl rfl rfl ?_ (fun _ _ _ h => h) ?_
      rotate_left
      · (intro w hSw; (try dsimp only at hSw); go_simp; first | done | with_reducible rfl)
      (try simp only [Act.put, List.setIfInBounds_toArray, List.set_cons_zero, List.set_cons_succ])
      refine Plan.free (i := 11) (ds := some 67) (v := ?_) rfl rfl rfl ?_ (fun _ _ _ h => h) ?_
      rotate_left
      · (intro w hSw; (try dsimp only at hSw); go_simp; first | done | with_reducible rfl)
      (try simp only [Act.put, List.setIfInBounds_toArray, List.set_cons_zero, List.set_cons_succ])
      refine Plan.free (i := 12) (ds := some 68) (v := ?_) rfl rfl rfl ?_ (fun _ _ _ h => h) ?_
      rotate_left
      · (intro w hSw; (try dsimp only at hSw); go_simp; first | done | with_reducible rfl)
      (try simp only [Act.put, List.setIfInBounds_toArray, List.set_cons_zero, List.set_cons_succ])
      refine Plan.free (i := 13) (ds := some 69) (v := ?_) rfl rfl rfl ?_ (fun _ _ _ h => h) ?_
      rotate_left
      · (intro w hSw; (try dsimp only at hSw); go_simp; first | done | with_reducible rfl)
      (try simp only [Act.put, List.setIfInBounds_toArray, List.set_cons_zero, List.set_cons_succ])
      refine Plan.free (i := 14) (ds := some 70) (v := ?_) rfl rfl rfl ?_ (fun _ _ _ h => h) ?_
      rotate_left
      · (intro w hSw; (try dsimp only at hSw); go_simp; first | done | with_reducible rfl)
      (try simp only [Act.put, List.setIfInBounds_toArray, List.set_cons_zero, List.set_cons_succ])
      refine Plan.free (i := 15) (ds := some 71) (v := ?_) rfl rfl rfl ?_ (fun _ _ _ h => h) ?_
      rotate_left
      · (intro w hSw; (try dsimp only at hSw); go_simp; first | done | with_reducible rfl)
      (try simp only [Act.put, List.setIfInBounds_toArray, List.set_cons_zero, List.set_cons_succ])
      refine Plan.free (i := 16) (ds := some 72) (v := ?_) rfl rfl rfl ?_ (fun _ _ _ h => h) ?_
      rotate_left
      · (intro w hSw; (try dsimp only at hSw); go_simp; first | done | with_reducible rfl)
      (try simp only [Act.put, List.setIfInBounds_toArray, List.set_cons_zero, List.set_cons_succ])
      refine Plan.stop (fun hHeld => ?_)
      refine wpAnyH_ready (rs := [17]) (by decide +kernel) (by simp) ?_
      refine AllReadyH.cons (o := _) rfl ?_ AllReadyH.nil
      intro K hK
      rw [if_pos (wanted_none (by rfl))]
      (go_simp; go_at_call 13; refine (AY.out _ ((Below.refl _ _).drew)).mono ?_; rintro e w4 ⟨⟨pv, rfl, hr⟩, ht, hst⟩; have T4 : Hid (Turned c1 w3 w4) := (Turned.of_below ((Below.refl w3.heap.size w3).drew) ht.isM).trans ht; have R4 := Lib.hid hr; have S4 := Lib.hid hst; clear hr ht hst)
      refine hK.out _ _ ?_ (fun hHeld => ?_)
      · (try dsimp only)
        exact K2.out _ _ T4.out
      clear hK K
      (try simp only [Act.put, List.setIfInBounds_toArray, List.set_cons_zero, List.set_cons_succ])
      refine Plan.start (plan := [18, 19, 20, 21, 22, 23, 24]) (fuel := 0) (by decide +kernel) (by assumption) ?_
      refine Plan.free (i := 18) (ds := some 55) (v := ?_) rfl rfl rfl ?_ (fun _ _ _ h => h) ?_
      rotate_left
      · (intro w hSw; (try dsimp only at hSw); go_simp; first | done | with_reducible rfl)
      (try simp only [Act.put, List.setIfInBounds_toArray, List.set_cons_zero, List.set_cons_succ])
      refine Plan.free (i := 19) (ds := some 74) (v := ?_) rfl rfl rfl ?_ (fun _ _ _ h => h) ?_
      rotate_left
      · (intro w hSw; (try dsimp only at hSw); go_simp; first | done | with_reducible rfl)
      (try simp only [Act.put, List.setIfInBounds_toArray, List.set_cons_zero, List.set_cons_succ])
      refine Plan.free (i := 20) (ds := some 75) (v := ?_) rfl rfl rfl ?_ (fun _ _ _ h => h) ?_
      rotate_left
      · (intro w hSw; (try dsimp only at hSw); go_simp; first | done | with_reducible rfl)
      (try simp only [Act.put, List.setIfInBounds_toArray, List.set_cons_zero, List.set_cons_succ])
      refine Plan.free (i := 21) (ds := some 76) (v := ?_) rfl rfl rfl ?_ (fun _ _ _ h => h) ?_
      rotate_left
      · (intro w hSw; (try dsimp only at hSw); go_simp; first | done | with_reducible rfl)
      (try simp only [Act.put, List.setIfInBounds_toArray, List.set_cons_zero, List.set_cons_succ])
      refine Plan.free (i := 22) (ds := some 12) (v := ?_) rfl rfl rfl ?_ (fun _ _ _ h => h) ?_
      rotate_left
      · (intro w hSw; (try dsimp only at hSw); go_simp; first | done | with_reducible rfl)
      (try simp only [Act.put, List.setIfInBounds_toArray, List.set_cons_zero, List.set_cons_succ])
      refine Plan.free (i := 23) (ds := some 13) (v := ?_) rfl rfl rfl ?_ (fun _ _ _ h => h) ?_
      rotate_left
      · (intro w hSw; (try dsimp only at hSw); go_simp; first | done | with_reducible rfl)
      (try simp only [Act.put, List.setIfInBounds_toArray, List.set_cons_zero, List.set_cons_succ])
      refine Plan.free (i := 24) (ds := some 14) (v := ?_) rfl rfl rfl ?_ (fun _ _ _ h => h) ?_
      rotate_left
      · (intro w hSw; (try dsimp only at hSw); go_simp; first | done | with_reducible rfl)
      (try simp only [Act.put, List.setIfInBounds_toArray, List.set_cons_zero, List.set_cons_succ])
      refine Plan.stop (fun hHeld => ?_)
      refine wpAnyH_done (by decide +kernel) ?_ _
      obtain ⟨qa, qc, rfl⟩ := pt_form R4.out
      have B4 : Hid (Below w.heap.size w w4) := B3.out.trans (T4.out.below B3.out.size HC1.out)
      have hrl : rr.2.1.length ≤ 2 := by rw [← HRR.out]; unfold pkR; split <;> simp [addParts]
      have PX := Lib.hid (partsP_any _ _ rr.2.1 w4 (T4.out.rows R3.out (pt_rows _)) R4.out (by omega))
      have HK : Hid ((badA an at' az ∧ rr.2.2 = 1) ∨ (¬ badA an at' az ∧ rr.1 = k + 1 ∧ rr.2.2 = 0)) := by
        rw [← HRR.out]
        by_cases hb : badA an at' az
        · left
          have : pkR (fun _ => k) 5 an at' az = (0, [], 1) := if_pos hb
          rw [this]
          exact ⟨hb, rfl⟩
        · right
          have : pkR (fun _ => k) 5 an at' az = (k + 1, addParts 5 (k + 1) an, 0) := if_neg hb
          rw [this]
          exact ⟨hb, rfl, rfl⟩
      obtain ⟨g2, o2, rfl, hoc⟩ := (HO.out.belowP B4.out).cellP i (by have := HLO.out; omega)
      have hxb := HOB.out _ (List.getElem_mem (show i < os.length by have := HLO.out; omega))
      generalize os[i]'(by have := HLO.out; omega) = x at *
      clear hHeld K1 K2 AY R3 R4 HRR T3 T4 S3
      obtain ⟨ra, rp, re⟩ := rr
      simp only at HK PX ⊢
      go_wp2_with fail
      refine PX.out.mono ?_
      rintro e w5 ⟨rfl, hb⟩
      have B5 := Lib.hid (onward hb B4.out)
      have hoc5 := stays hb hoc
      obtain ⟨kk, hkk⟩ : ∃ kk, kk = if badA an at' az then k else k + 1 := ⟨_, rfl⟩
      have S5 : Hid (∃ D cnt ex D' cnt' ex', MemS w5 p b1 b2 (-1) (i + 1) D (.map []) ∧ PS D cnt ex ∧ (∀ x, cnt x ≤ i + 1) ∧ MemS w5 q c1 c2 (-1) (2 * i + 1) D' (.map []) ∧ PS D' cnt' ex' ∧ (∀ x, cnt' x ≤ 2 * i + 1) ∧ cnt 5 = kk ∧ cnt' 5 = kk) := by
        obtain ⟨D, cnt, ex, D', cnt', ex', hm, hp, hcn, hm', hp', hcn', e5, e5'⟩ := S4.out
        rw [← hkk] at e5 e5'
        exact ⟨D, cnt, ex, D', cnt', ex', hm.below hb, hp, hcn, hm'.below hb, hp', hcn', e5, e5'⟩
      have TE : Hid (TwoP w5 p b1 b2 q c1 c2 (i + 1) kk) := by
        obtain ⟨D, cnt, ex, D', cnt', ex', hm, hp, hcn, hm', hp', hcn', e5, e5'⟩ := S5.out
        exact ⟨D, cnt, ex, D', cnt', ex', hm, hp, hcn, hm'.mono (by omega), hp', fun y => by have := hcn' y; omega, e5, e5'⟩
      obtain ⟨xn, rfl⟩ : ∃ n : Nat, x = n := ⟨x.toNat, by omega⟩
      have AZ : Hid (xn ≠ 5 → Calls Tryz.prog 13 #[memI q, .int .u32 xn, .int .i64 7, .int .i64 1000, .int .i64 1] w5 fun en w' => (∃ a b c, en = .returned (.tuple #[a, b, c])) ∧ Turned c1 w5 w' ∧ TwoP w' p b1 b2 q c1 c2 (i + 1) kk) := fun hx5 => by
        obtain ⟨D, cnt, ex, D', cnt', ex', hm, hp, hcn, hm', hp', hcn', e5, e5'⟩ := S5.out
        refine (pk_add xn 7 1000 1 w5 (HE.out.below B5.out) hm' hp' (by omega) (by omega) (fun y => by have := hcn' y; omega) ⟨by omega, by omega⟩ ⟨by omega, by omega⟩).mono ?_
        rintro en w' ⟨pv, D2, rfl, hr, hm2, hp2, ht2⟩
        exact ⟨⟨_, _, _, rfl⟩, ht2, D, cnt, ex, D2, _, _, hm.turned ht2 AP.out.1 AP.out.2.1, hp, hcn, hm2.mono (by omega), hp2, fun y => by have := pkC_le (u := xn) (units := 7) (e := 1000) (now := 1) hcn' y; omega, e5, by rw [pkC_other (Ne.symm hx5)]; exact e5'⟩
      clear S4 S5 PX hb hoc
      have hnn := H30.out
      have KK : Hid (kk ≤ i + 1) := by show _ ≤ _; rw [hkk]; split <;> omega
      by_cases hx5 : xn = 5
      · subst hx5
        clear AZ
        rcases HK.out with ⟨hbad, rfl⟩ | ⟨hbad, rfl, rfl⟩
        · rw [if_pos hbad] at hkk
          subst hkk
          go_wp2_with fail
          go_roundw
          case rel => exact ⟨i + 1, kk, by omega, by go_num, rfl, by omega, TE.out, B5.out⟩
          case measure => simp [intOf]; omega
        · rw [if_neg hbad] at hkk
          have hwn : IntKind.u32.wrap (((k + 1 : Nat) : Int) + 1) = ((k + 1 + 1 : Nat) : Int) := by
            have e : ∀ z : Int, IntKind.u32.wrap z = z % 4294967296 := fun _ => rfl
            rw [e]; omega
          subst hkk
          go_wp2_with fail
          go_roundw
          case rel => exact ⟨i + 1, k + 1, by omega, by go_num, by go_num, by omega, TE.out, B5.out⟩
          case measure => simp [intOf]; omega
      · have hx6 : (((xn : Nat) : Int) != 5) = true := by rw [bne_iff_ne]; omega
        have AZ2 := Lib.hid (AZ.out hx5)
        clear AZ TE
        rcases HK.out with ⟨hbad, rfl⟩ | ⟨hbad, rfl, rfl⟩
        · rw [if_pos hbad] at hkk
          subst hkk
          go_wp2_with fail
          refine AZ2.out.mono ?_
          rintro e w6 ⟨⟨va, vb, vc, rfl⟩, ht, hst⟩
          have B6 : Hid (Below w.heap.size w w6) := B5.out.trans (ht.below B5.out.size HC1.out)
          have T6 := Lib.hid hst
          clear ht hst AZ2
          go_wp2_with fail
          go_roundw
          case rel => exact ⟨i + 1, kk, by omega, by go_num, rfl, by omega, T6.out, B6.out⟩
          case measure => simp [intOf]; omega
        · rw [if_neg hbad] at hkk
          have hwn : IntKind.u32.wrap (((k + 1 : Nat) : Int) + 1) = ((k + 1 + 1 : Nat) : Int) := by
            have e : ∀ z : Int, IntKind.u32.wrap z = z % 4294967296 := fun _ => rfl
            rw [e]; omega
          subst hkk
          go_wp2_with fail
          refine AZ2.out.mono ?_
          rintro e w6 ⟨⟨va, vb, vc, rfl⟩, ht, hst⟩
          have B6 : Hid (Below w.heap.size w w6) := B5.out.trans (ht.below B5.out.size HC1.out)
          have T6 := Lib.hid hst
          clear ht hst AZ2
          go_wp2_with fail
          go_roundw
          case rel => exact ⟨i + 1, k + 1, by omega, by go_num, by go_num, by omega, T6.out, B6.out⟩
          case measure => simp [intOf]; omega
    · obtain rfl : i = L.length := by omega
      have dk0 : decide ((L.length : Int) < (L.length : Int)) = false := decide_eq_false (by omega)
      clear HT
      go_wp2_with fail
      refine (goesP_any wr (HE.out.below BR.out)).mono ?_
      rintro e w4 ⟨rfl, hb⟩
      have B4 := Lib.hid (onward hb BR.out)
      clear hb
      go_wp2_with fail
      go_ret
      exact ⟨rfl, B4.out⟩
end Go.Proofs.YtcaihncnmjegoaaGreatDoor

