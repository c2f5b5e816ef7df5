/- The walk of the law NetPlays. (Printed by gen_nfa.py.) -/
import Derived.Test.YtgkefciojoffgaaNeZ
import Derived.Test.YtgkefciojoffgaaNeQ
import Derived.Deep.DeepCutAuto
import Derived.Deep.CutBlock
namespace Go.Proofs.Ytgkefciojoffgaa
open Go.RowKit
set_option linter.unusedVariables false
set_option linter.unusedSimpArgs false
attribute [local go_sem ↓] Go.wp_at_zero Go.wp_at_succ
theorem both_new {B : Nat} {G : Int} {w w1 w2 : World} (hG : 1 ≤ G ∧ G ≤ 3) (hB : B ≤ w.heap.size) (h1 : NetS B w.heap.size [] w1 G [] false false false) (hb1 : Below w.heap.size w w1) (h2 : RefV w2 (w1.heap.size + 1) w1.heap.size G (.slice none 0 0) [] false false false) (hb2 : Below w1.heap.size w1 w2) (hs : w2.heap.size = w1.heap.size + 2) :
    Both B w.heap.size (w1.heap.size + 1) w1.heap.size [] w2 G [] [] false false false false false false := by
  have hs1 := hb1.size
  refine ⟨_, [], ⟨h2, (fun l hl => by cases hl), rfl, by omega, by omega, hG, (fun x hx => by cases hx), Nat.zero_le _⟩, ?_, fun k hk => by cases hk⟩
  have := h1.more hb2 [w1.heap.size + 1, w1.heap.size] (fun k hk => by simp at hk; omega)
  exact this
theorem ac_more {w w' : World} {v : Value} {A : List Ac} {B : Nat} (h : RowsIn w v 5 (A.map Ac.cells)) (hB : w.heap.size = B) (hb : Below B w w') : RowsIn w' v 5 (A.map Ac.cells) := by
  subst hB
  exact h.below hb
theorem set3_kept {w : World} {po : Nat} (y0 y1 y2 : Value) : Kept (· = po) w (((w.setCell ⟨po, 0, none⟩ y0).setCell ⟨po, 1, none⟩ y1).setCell ⟨po, 2, none⟩ y2) := ((Kept.setCell (S := (· = po)) _ _ _ rfl).trans (Kept.setCell (S := (· = po)) _ _ _ rfl)).trans (Kept.setCell (S := (· = po)) _ _ _ rfl)
theorem set3_stp (B : Nat) {w : World} {po : Nat} (hB : B ≤ po) {cs : Array Value} (hP : w.heap[po]? = some (.cells cs 30 (0, 0))) (y0 y1 y2 : Value) : Stp B w (((w.setCell ⟨po, 0, none⟩ y0).setCell ⟨po, 1, none⟩ y1).setCell ⟨po, 2, none⟩ y2) :=
  .of_kept (set3_kept y0 y1 y2) fun k hk => by subst hk; exact ⟨hB, _, _, _, hP, by decide⟩
theorem set3_low {w w' : World} {po : Nat} (hp : w.heap.size ≤ po) (h : Below w.heap.size w w') (y0 y1 y2 : Value) : Below w.heap.size w (((w'.setCell ⟨po, 0, none⟩ y0).setCell ⟨po, 1, none⟩ y1).setCell ⟨po, 2, none⟩ y2) := ((h.setCell hp _).setCell hp _).setCell hp _
theorem Both.set3 {B pn rp gb po : Nat} {X : List Nat} {w : World} {G : Int} {R Rr : List Sy} {c1 c2 c3 d1 d2 d3 : Bool} (h : Both B pn rp gb X w G R Rr c1 c2 c3 d1 d2 d3) (hX : po ∈ X) (hB : B ≤ po) {cs : Array Value} (hP : w.heap[po]? = some (.cells cs 30 (0, 0))) (y0 y1 y2 : Value) :
    Both B pn rp gb X (((w.setCell ⟨po, 0, none⟩ y0).setCell ⟨po, 1, none⟩ y1).setCell ⟨po, 2, none⟩ y2) G R Rr c1 c2 c3 d1 d2 d3 ∧ Kept (· = po) w (((w.setCell ⟨po, 0, none⟩ y0).setCell ⟨po, 1, none⟩ y1).setCell ⟨po, 2, none⟩ y2) ∧ True := by
  have hk := set3_kept (w := w) (po := po) y0 y1 y2
  obtain ⟨v, L, h1, h2, h3⟩ := h
  refine ⟨⟨v, L, h1.same (set3_stp B hB hP y0 y1 y2) (fun k hk' => hk.block k (h2.lts k (List.mem_append.2 (.inr hk'))) fun e => h3 po hX (e ▸ hk')), h2.kept hk fun k hk' => ?_, h3⟩, hk, trivial⟩
  subst hk'
  exact ⟨List.mem_append.2 (.inl hX), hB, _, _, _, hP, by decide⟩
theorem rows_of_own {w : World} {base : Nat} {v : Value} {L : List Lt} (h : w.ownsRow base 30 3 v L.length (L.flatMap Lt.cells)) : RowsIn w v 3 (L.map Lt.cells) := by
  by_cases hn : 1 ≤ L.length
  · obtain ⟨g, cap, cur, rfl, hg, h3, h4, h5, h6, h7⟩ := own_open h hn
    refine ⟨_, cap, by rw [List.length_map], by rw [List.length_map]; exact h4, h5, fun i hi => ⟨g, 0, rfl, lt_of_block h3, fun j hj => ?_⟩⟩
    rw [List.length_map] at hi
    obtain ⟨a0, a1, a2⟩ := row_letter (n := 0) (cap := 0) h3 h7 i hi
    have e : ((L.map Lt.cells).getD i []) = L[i].cells := by simp [List.getD, hi]
    rw [e, Nat.zero_add]
    have hj3 : j = 0 ∨ j = 1 ∨ j = 2 := by omega
    rcases hj3 with rfl | rfl | rfl
    · exact a0
    · exact a1
    · exact a2
  · obtain ⟨a, c, rfl⟩ := net_form h
    obtain ⟨hl, h0 | ⟨g, cap, cur, h1, h2, h3, h4, h5, h6⟩⟩ := h
    · injection h0.1 with q1 q2 q3
      subst q1 q3
      exact ⟨_, 0, by rw [List.length_map], by rw [List.length_map]; omega, Nat.zero_le _, fun i hi => by rw [List.length_map] at hi; omega⟩
    · injection h1 with q1 q2 q3
      subst q1 q3
      exact ⟨_, c, by rw [List.length_map], by rw [List.length_map]; exact h4, h5, fun i hi => by rw [List.length_map] at hi; omega⟩
theorem RowAt.ltsIn {B base : Nat} {w : World} {v : Value} {R : List Sy} (h : RowAt B base w v R) : LtsIn B w v R := by
  obtain ⟨L, h1, h2, h3, -⟩ := h
  exact ⟨L, rows_of_own h1, h2, h3⟩
theorem RS.ltsIn {B rp gb : Nat} {w : World} {G : Int} {v : Value} {L : List Lt} {R : List Sy} {d1 d2 d3 : Bool} (h : RS B rp gb w G v L R d1 d2 d3) : LtsIn B w v R := ⟨L, rows_of_own h.1.2.2, h.2.1, h.2.2.1⟩
theorem one_in {B : Nat} {w : World} {g : Nat} {x : Sy} {bv : Value} (h : w.heap[g]? = some (.cells #[.int .i64 x.1, .int .i64 x.2.1, bv] 30 (0, 0))) (hB : BytesAt B w bv x.2.2) : LtsIn B w (.slice (some ⟨g, 0, none⟩) 1 1) [x] := by
  refine ⟨[⟨x.1, x.2.1, bv, x.2.2⟩], ⟨_, 1, rfl, Nat.le_refl _, by unfold maxLen; omega, fun i hi => ⟨g, 0, rfl, lt_of_block h, fun j hj => ?_⟩⟩, fun l hl => by simp at hl; subst hl; exact hB, rfl⟩
  obtain rfl : i = 0 := by simpa using hi
  rw [cell_of_row h]
  have hj3 : j = 0 ∨ j = 1 ∨ j = 2 := by omega
  rcases hj3 with rfl | rfl | rfl <;> rfl
theorem sameB_self (R : List Sy) : sameB R R = true := by unfold sameB; simp
/-- three blocks more -/
theorem three_blocks (w : World) (C D E : Array Value) (T U V : Nat) : Below w.heap.size w (((w.alloc (.cells C T)).alloc (.cells D U)).alloc (.cells E V)) ∧ (((w.alloc (.cells C T)).alloc (.cells D U)).alloc (.cells E V)).heap[w.heap.size]? = some (.cells C T (0, 0)) ∧ (((w.alloc (.cells C T)).alloc (.cells D U)).alloc (.cells E V)).heap[w.heap.size + 1]? = some (.cells D U (0, 0)) ∧ (((w.alloc (.cells C T)).alloc (.cells D U)).alloc (.cells E V)).heap[w.heap.size + 2]? = some (.cells E V (0, 0)) ∧ (((w.alloc (.cells C T)).alloc (.cells D U)).alloc (.cells E V)).heap.size = w.heap.size + 3 := by
  obtain ⟨b2, h1, h2, h3⟩ := two_blocks w C D T U
  have b3 := below_alloc ((w.alloc (.cells C T)).alloc (.cells D U)) (.cells E V)
  refine ⟨onward b3 b2, stays_block b3 h1, stays_block b3 h2, ?_, by simp⟩
  have := heap_alloc_new ((w.alloc (.cells C T)).alloc (.cells D U)) (.cells E V)
  rw [h3] at this
  exact this
set_option maxHeartbeats 8000000 in
set_option maxRecDepth 10000000 in
theorem netPlays_any (G : Int) (v : Value) (A : List Ac) (w : World) (hA : RowsIn w v 5 (A.map Ac.cells)) (hok : ∀ a ∈ A, Ac.ok w a) :
    Calls Try.prog 5 #[.int .i64 G, v] w fun e w' => e = .returned (.bool true) ∧ Below w.heap.size w w' := by
  obtain ⟨a, c, rfl, h1, h2⟩ := rows_form hA
  simp only [List.length_map] at hA h1 ⊢
  have HA := Lib.hid hA
  have HO := Lib.hid hok
  clear hA hok
  go_enter Try.func5, Try.ntmps5
  go_wp2_with fail
  refine (great_any w.heap.size _ A w HA.out (fun a ha => (HO.out a ha).2.2.2.1)).mono ?_
  rintro e w1 ⟨b, rfl, hb, rfl⟩
  cases b
  case true =>
    go_wp2_with fail
    go_ret
    exact ⟨rfl, Below.refl _ _⟩
  obtain ⟨hl1, hl2⟩ := hb rfl
  have HL2 := Lib.hid hl2
  clear hb hl2
  go_wp2_with fail
  by_cases hG : 1 ≤ G ∧ G ≤ 3
  case neg =>
    refine (new_no G w (by omega)).mono ?_
    rintro e w1 ⟨rfl, rfl⟩
    by_cases hg : G < 1
    · clear hG
      go_wp2_with fail
      refine (goes_any _).mono ?_
      rintro e w1 ⟨rfl, hb⟩
      have HB := Lib.hid hb
      clear hb
      go_wp2_with fail
      go_ret
      exact ⟨rfl, HB.out⟩
    · have hg2 : 3 < G := by omega
      clear hG
      go_wp2_with fail
      refine (goes_any _).mono ?_
      rintro e w1 ⟨rfl, hb⟩
      have HB := Lib.hid hb
      clear hb
      go_wp2_with fail
      go_ret
      exact ⟨rfl, HB.out⟩
  obtain ⟨hG1, hG2⟩ := hG
  refine (new_s w.heap.size G w hG1 hG2 (Nat.le_refl _) [] (fun k hk => by cases hk)).mono ?_
  rintro e w1 ⟨rfl, hS, hb1⟩
  have S1 := Lib.hid hS
  have B1 := Lib.hid hb1
  clear hS hb1
  go_wp2_with fail
  refine (rnew_any G w1).mono ?_
  rintro e w2 ⟨rfl, hR, hb2, hs2⟩
  have T2 := Lib.hid (both_new ⟨hG1, hG2⟩ (Nat.le_refl _) S1.out B1.out hR hb2 hs2)
  have B2 := Lib.hid (onward hb2 B1.out)
  clear hR hb2 hs2
  generalize w1.heap.size = gb at *
  go_wp2_with fail
  go_loopw [8] (fun i wr => ∃ (k : Nat) (R : List Sy) (c1 c2 c3 : Bool), k ≤ A.length ∧ i = .int .i64 k ∧ Hid (Both w.heap.size w.heap.size (gb + 1) gb [] wr G R R c1 c2 c3 c1 c2 c3) ∧ Hid (Below w.heap.size w wr)) (fun i _ => A.length - (intOf i).toNat)
  case atStart => exact ⟨0, [], false, false, false, by omega, rfl, T2, B2⟩
  case round =>
    obtain ⟨k, R, c1, c2, c3, hk, rfl, TR, BR⟩ := hrel
    by_cases hlt : k < A.length
    · obtain ⟨q, o, rfl, hq, e0, e1, e2, e3, e4⟩ := ac_cells (ac_more HA.out rfl BR.out) k hlt
      obtain ⟨hd, hf, ht, hbA, hbl, hk64⟩ := HO.out A[k] (List.getElem_mem hlt)
      have hsm := HL2.out A[k] (List.getElem_mem hlt)
      obtain ⟨ba, bc, hform⟩ := hbA.form
      rw [hform] at e3
      have BA : Hid (BytesAt w.heap.size wr (.slice ba A[k].bs.length bc) A[k].bs) := by
        have h := hbA.step (.of_below BR.out)
        rw [hform] at h
        exact h
      have hz : (k : Int) < A.length := by omega
      clear hbA hform
      generalize A[k].d = ad at *
      generalize A[k].f = af at *
      generalize A[k].t = at' at *
      generalize A[k].k = ak at *
      generalize A[k].bs = abs at *
      obtain ⟨b3, g1, g2, g3, hs3⟩ := three_blocks wr #[.int .u8 ad, .int .i64 af, .int .i64 at', .slice ba abs.length bc, .int .i64 ak] #[.int .i64 0, .int .i64 0, .slice none 0 0] #[.int .i64 0, .int .i64 0, .slice none 0 0] 45 30 30
      have T3 := Lib.hid (TR.out.more b3 [wr.heap.size, wr.heap.size + 1, wr.heap.size + 2] (fun k hk => by simp at hk; omega))
      have B3 := Lib.hid (onward b3 BR.out)
      have G1 := Lib.hid g1
      have G2 := Lib.hid g2
      have G3 := Lib.hid g3
      have BA3 := Lib.hid (BA.out.below b3)
      have hwr := BR.out.size
      clear b3 g1 g2 g3 hs3 TR BR BA
      go_upto_block 2 with fail
      generalize ((wr.alloc (.cells #[.int .u8 ad, .int .i64 af, .int .i64 at', .slice ba abs.length bc, .int .i64 ak] 45)).alloc (.cells #[.int .i64 0, .int .i64 0, .slice none 0 0] 30)).alloc (.cells #[.int .i64 0, .int .i64 0, .slice none 0 0] 30) = W3 at *
      have G13 := G1
      have G23 := G2
      have G33 := G3
      have T3 : Hid (Both w.heap.size w.heap.size (gb + 1) gb [wr.heap.size, wr.heap.size + 1, wr.heap.size + 2] W3 G R R c1 c2 c3 c1 c2 c3) := T3
      clear G1 G2 G3 e0 e1 e2 e3 e4
      go_cut [12, 13] from 56 to 145 (fun f g wc => ∃ (e : Int) (R' : List Sy) (e1 e2 e3 : Bool) (x : Sy) (xv yv : Value), f = .int .i64 e ∧ g = .int .i64 e ∧ Hid (Both w.heap.size w.heap.size (gb + 1) gb [wr.heap.size, wr.heap.size + 1, wr.heap.size + 2] wc G R' R' e1 e2 e3 e1 e2 e3) ∧ Hid (wc.heap[wr.heap.size + 1]? = some (.cells #[.int .i64 x.1, .int .i64 x.2.1, xv] 30 (0, 0))) ∧ Hid (BytesAt w.heap.size wc xv x.2.2) ∧ Hid (wc.heap[wr.heap.size + 2]? = some (.cells #[.int .i64 x.1, .int .i64 x.2.1, yv] 30 (0, 0))) ∧ Hid (BytesAt w.heap.size wc yv x.2.2) ∧ Hid (Below w.heap.size w wc))
      case first =>
        have hm : ad % 7 = 0 ∨ ad % 7 = 1 ∨ ad % 7 = 2 ∨ ad % 7 = 3 ∨ ad % 7 = 4 ∨ ad % 7 = 5 ∨ ad % 7 = 6 := by omega
        rcases hm with hm | hm | hm | hm | hm | hm | hm
        case inl =>
          go_wp2_with fail
          have hT3 := (T3.out.below (Below.refl _ _).drew)
          have T3d := Lib.hid hT3
          have G13d : Hid (W3.drew.heap[wr.heap.size]? = _) := G13.out
          have G23d : Hid (W3.drew.heap[wr.heap.size + 1]? = _) := G23.out
          have G33d : Hid (W3.drew.heap[wr.heap.size + 2]? = _) := G33.out
          have BA3d := Lib.hid (BA3.out.below (Below.refl _ _).drew)
          have B3d : Hid (Below w.heap.size w W3.drew) := B3.out.drew
          clear hT3
          obtain ⟨-, -, q13d, q23d, q33d, q43d⟩ := five_cells G13d.out
          refine wp_region_held_drew (S := (fun W => W.cell? ⟨wr.heap.size, 1, none⟩ = some (.int .i64 af) ∧ W.cell? ⟨wr.heap.size, 2, none⟩ = some (.int .i64 at') ∧ W.cell? ⟨wr.heap.size, 3, none⟩ = some (.slice ba abs.length bc))) (by kernel_rfl) ?_ (fun hHeld => ?_)
          · (try dsimp only)
            with_reducible exact ⟨q13d, q23d, q33d⟩
          refine Plan.start (plan := [0, 1, 2, 4, 5, 6]) (fuel := 4) (by decide +kernel) (by assumption) ?_
          refine Plan.free (i := 0) (ds := some 59) (v := ?_) rfl rfl rfl ?_ (fun _ _ _ h => h) ?_
          rotate_left
          · (intro w hSw; (try dsimp only at hSw); go_simp; first | done | with_reducible rfl)
          (try simp only [Act.put, List.setIfInBounds_toArray, List.set_cons_zero, List.set_cons_succ])
          refine Plan.free (i := 1) (ds := some 60) (v := ?_) rfl rfl rfl ?_ (fun _ _ _ h => h) ?_
          rotate_left
          · (intro w hSw; (try dsimp only at hSw); go_simp; first | done | with_reducible rfl)
          (try simp only [Act.put, List.setIfInBounds_toArray, List.set_cons_zero, List.set_cons_succ])
          refine Plan.free (i := 2) (ds := some 61) (v := ?_) rfl rfl rfl ?_ (fun _ _ _ h => h) ?_
          rotate_left
          · (intro w hSw; (try dsimp only at hSw); go_simp; first | done | with_reducible rfl)
          (try simp only [Act.put, List.setIfInBounds_toArray, List.set_cons_zero, List.set_cons_succ])
          refine Plan.free (i := 4) (ds := some 63) (v := ?_) rfl rfl rfl ?_ (fun _ _ _ h => h) ?_
          rotate_left
          · (intro w hSw; (try dsimp only at hSw); go_simp; first | done | with_reducible rfl)
          (try simp only [Act.put, List.setIfInBounds_toArray, List.set_cons_zero, List.set_cons_succ])
          refine Plan.free (i := 5) (ds := some 64) (v := ?_) rfl rfl rfl ?_ (fun _ _ _ h => h) ?_
          rotate_left
          · (intro w hSw; (try dsimp only at hSw); go_simp; first | done | with_reducible rfl)
          (try simp only [Act.put, List.setIfInBounds_toArray, List.set_cons_zero, List.set_cons_succ])
          refine Plan.free (i := 6) (ds := some 65) (v := ?_) rfl rfl rfl ?_ (fun _ _ _ h => h) ?_
          rotate_left
          · (intro w hSw; (try dsimp only at hSw); go_simp; first | done | with_reducible rfl)
          (try simp only [Act.put, List.setIfInBounds_toArray, List.set_cons_zero, List.set_cons_succ])
          refine Plan.stop (fun hHeld => ?_)
          refine wpAnyH_ready (rs := [3]) (by decide +kernel) (by simp) ?_
          refine AllReadyH.cons (o := _) rfl ?_ AllReadyH.nil
          intro K hK
          rw [if_pos (wanted_none (by rfl))]
          (go_simp; go_at_call 9; refine (bsend w.heap.size w.heap.size (gb + 1) gb [wr.heap.size, wr.heap.size + 1, wr.heap.size + 2] G _ _ _ _ _ _ _ _ _ T3d.out af at' _ abs BA3d.out hf ht (by omega)).mono ?_; rintro e w4 ⟨rfl, hT, hO⟩; have T4 := Lib.hid hT; have B4 := Lib.hid (B3d.out.trans hO.1); have G14 := Lib.hid ((hO.2.2.2 wr.heap.size (by simp)).trans G13d.out); have G24 := Lib.hid ((hO.2.2.2 (wr.heap.size + 1) (by simp)).trans G23d.out); have G34 := Lib.hid ((hO.2.2.2 (wr.heap.size + 2) (by simp)).trans G33d.out); have BA4 := Lib.hid (BA3d.out.step hO.2.1); clear hT hO; obtain ⟨-, -, q14, q24, q34, q44⟩ := five_cells G14.out)
          refine hK.out _ _ ?_ (fun hHeld => ?_)
          · (try dsimp only)
            with_reducible exact ⟨q14, q24, q34⟩
          clear hK K
          (try simp only [Act.put, List.setIfInBounds_toArray, List.set_cons_zero, List.set_cons_succ])
          refine wpAnyH_ready (rs := [7]) (by decide +kernel) (by simp) ?_
          refine AllReadyH.cons (o := _) rfl ?_ AllReadyH.nil
          intro K hK
          rw [if_pos (wanted_none (by rfl))]
          (go_simp; go_at_call 20; refine (brsend w.heap.size w.heap.size (gb + 1) gb [wr.heap.size, wr.heap.size + 1, wr.heap.size + 2] G _ _ _ _ _ _ _ _ _ T4.out af at' _ abs BA4.out hf ht (by omega)).mono ?_; rintro e w5 ⟨rfl, hT, hO⟩; have T5 := Lib.hid hT; have B5 := Lib.hid (B4.out.trans hO.1); have G15 := Lib.hid ((hO.2.2.2 wr.heap.size (by simp)).trans G14.out); have G25 := Lib.hid ((hO.2.2.2 (wr.heap.size + 1) (by simp)).trans G24.out); have G35 := Lib.hid ((hO.2.2.2 (wr.heap.size + 2) (by simp)).trans G34.out); have BA5 := Lib.hid (BA4.out.step hO.2.1); clear hT hO; obtain ⟨-, -, q15, q25, q35, q45⟩ := five_cells G15.out)
          refine hK.out _ _ ?_ (fun hHeld => ?_)
          · (try dsimp only)
            with_reducible exact ⟨q15, q25, q35⟩
          clear hK K
          (try simp only [Act.put, List.setIfInBounds_toArray, List.set_cons_zero, List.set_cons_succ])
          refine Plan.start (plan := [8, 9]) (fuel := 0) (by decide +kernel) (by assumption) ?_
          refine Plan.free (i := 8) (ds := some 12) (v := ?_) rfl rfl rfl ?_ (fun _ _ _ h => h) ?_
          rotate_left
          · (intro w hSw; (try dsimp only at hSw); go_simp; first | done | with_reducible rfl)
          (try simp only [Act.put, List.setIfInBounds_toArray, List.set_cons_zero, List.set_cons_succ])
          refine Plan.free (i := 9) (ds := some 13) (v := ?_) rfl rfl rfl ?_ (fun _ _ _ h => h) ?_
          rotate_left
          · (intro w hSw; (try dsimp only at hSw); go_simp; first | done | with_reducible rfl)
          (try simp only [Act.put, List.setIfInBounds_toArray, List.set_cons_zero, List.set_cons_succ])
          refine Plan.stop (fun hHeld => ?_)
          refine wpAnyH_done (by decide +kernel) ?_ _
          go_wp2_with fail
          go_meet
          case rel => exact ⟨_, _, _, _, _, (0, 0, []), _, _, rfl, rfl, T5, G25, bytes_nil _ _, G35, bytes_nil _ _, B5⟩
        case inr.inl =>
          obtain ⟨-, -, q13, q23, q33, q43⟩ := five_cells G13.out
          go_wp2_with fail
          refine (btake w.heap.size w.heap.size (gb + 1) gb [wr.heap.size, wr.heap.size + 1, wr.heap.size + 2] G _ _ _ _ _ _ _ _ _ T3.out ak).mono ?_
          rintro e w4 ⟨x, rfl, ⟨bv4, rfl, hx⟩, hT, hO⟩
          obtain ⟨a4, c4, rfl⟩ := hx.form
          have T4 := Lib.hid hT
          have B4 := Lib.hid (B3.out.trans hO.1)
          have G14 := Lib.hid ((hO.2.2.2 wr.heap.size (by simp)).trans G13.out)
          have G24 := Lib.hid ((hO.2.2.2 (wr.heap.size + 1) (by simp)).trans G23.out)
          have G34 := Lib.hid ((hO.2.2.2 (wr.heap.size + 2) (by simp)).trans G33.out)
          have BA4 := Lib.hid (BA3.out.step hO.2.1)
          have X4 := Lib.hid hx
          clear hT hO hx q13 q23 q33 q43
          obtain ⟨-, p0, p1, p2⟩ := three_cells G24.out
          have fp0 : w4.frozen? ⟨wr.heap.size + 1, 0, none⟩ = false := free_of_row G24.out
          have fp1 : w4.frozen? ⟨wr.heap.size + 1, 1, none⟩ = false := free_of_row G24.out
          have fp2 : w4.frozen? ⟨wr.heap.size + 1, 2, none⟩ = false := free_of_row G24.out
          obtain ⟨T4b, hk4, hz4⟩ := Both.set3 T4.out (po := wr.heap.size + 1) (by simp) (by omega) G24.out (.int .i64 (takeL R c1 c2 c3 ak).1) (.int .i64 (takeL R c1 c2 c3 ak).2.1) (.slice a4 (takeL R c1 c2 c3 ak).2.2.length c4)
          have T4b := Lib.hid T4b
          have hst4 := set3_stp w.heap.size (po := wr.heap.size + 1) (by omega) G24.out (.int .i64 (takeL R c1 c2 c3 ak).1) (.int .i64 (takeL R c1 c2 c3 ak).2.1) (.slice a4 (takeL R c1 c2 c3 ak).2.2.length c4)
          have G14b := Lib.hid ((hk4.block wr.heap.size (lt_of_block G14.out) (by omega)).trans G14.out)
          have G24b := Lib.hid (set3_block (y0 := .int .i64 (takeL R c1 c2 c3 ak).1) (y1 := .int .i64 (takeL R c1 c2 c3 ak).2.1) (y2 := .slice a4 (takeL R c1 c2 c3 ak).2.2.length c4) G24.out)
          have G34b := Lib.hid ((hk4.block (wr.heap.size + 2) (lt_of_block G34.out) (by omega)).trans G34.out)
          have B4b := Lib.hid (set3_low (po := wr.heap.size + 1) (by omega) B4.out (.int .i64 (takeL R c1 c2 c3 ak).1) (.int .i64 (takeL R c1 c2 c3 ak).2.1) (.slice a4 (takeL R c1 c2 c3 ak).2.2.length c4))
          have BA4b := Lib.hid (BA4.out.step hst4)
          have X4b := Lib.hid (X4.out.step hst4)
          obtain ⟨-, -, q1, q2, q3, q4⟩ := five_cells G14b.out
          clear hk4 hst4 hz4 T4 G14 G24 G34 B4 BA4 X4
          go_wp2_with fail
          refine (bract1 w.heap.size w.heap.size (gb + 1) gb [wr.heap.size, wr.heap.size + 1, wr.heap.size + 2] G _ _ _ _ _ _ _ _ _ T4b.out ak).mono ?_
          rintro e w5 ⟨x, rfl, ⟨bv5, rfl, hx⟩, hT, hO⟩
          obtain ⟨a5, c5, rfl⟩ := hx.form
          have T5 := Lib.hid hT
          have B5 := Lib.hid (B4b.out.trans hO.1)
          have G15 := Lib.hid ((hO.2.2.2 wr.heap.size (by simp)).trans G14b.out)
          have G25 := Lib.hid ((hO.2.2.2 (wr.heap.size + 1) (by simp)).trans G24b.out)
          have G35 := Lib.hid ((hO.2.2.2 (wr.heap.size + 2) (by simp)).trans G34b.out)
          have BA5 := Lib.hid (BA4b.out.step hO.2.1)
          have X4c := Lib.hid (X4b.out.step hO.2.1)
          have X5 := Lib.hid hx
          clear hT hO hx q1 q2 q3 q4
          obtain ⟨-, p0, p1, p2⟩ := three_cells G35.out
          have fp0 : w5.frozen? ⟨wr.heap.size + 2, 0, none⟩ = false := free_of_row G35.out
          have fp1 : w5.frozen? ⟨wr.heap.size + 2, 1, none⟩ = false := free_of_row G35.out
          have fp2 : w5.frozen? ⟨wr.heap.size + 2, 2, none⟩ = false := free_of_row G35.out
          obtain ⟨T5b, hk5, hz5⟩ := Both.set3 T5.out (po := wr.heap.size + 2) (by simp) (by omega) G35.out (.int .i64 (takeL R c1 c2 c3 ak).1) (.int .i64 (takeL R c1 c2 c3 ak).2.1) (.slice a5 (takeL R c1 c2 c3 ak).2.2.length c5)
          have T5b := Lib.hid T5b
          have hst5 := set3_stp w.heap.size (po := wr.heap.size + 2) (by omega) G35.out (.int .i64 (takeL R c1 c2 c3 ak).1) (.int .i64 (takeL R c1 c2 c3 ak).2.1) (.slice a5 (takeL R c1 c2 c3 ak).2.2.length c5)
          have G25b := Lib.hid ((hk5.block (wr.heap.size + 1) (lt_of_block G25.out) (by omega)).trans G25.out)
          have G35b := Lib.hid (set3_block (y0 := .int .i64 (takeL R c1 c2 c3 ak).1) (y1 := .int .i64 (takeL R c1 c2 c3 ak).2.1) (y2 := .slice a5 (takeL R c1 c2 c3 ak).2.2.length c5) G35.out)
          have B5b := Lib.hid (set3_low (po := wr.heap.size + 2) (by omega) B5.out (.int .i64 (takeL R c1 c2 c3 ak).1) (.int .i64 (takeL R c1 c2 c3 ak).2.1) (.slice a5 (takeL R c1 c2 c3 ak).2.2.length c5))
          have X4d := Lib.hid (X4c.out.step hst5)
          have X5b := Lib.hid (X5.out.step hst5)
          clear hk5 hst5 hz5
          go_wp2_with fail
          go_meet
          case rel => exact ⟨_, _, _, _, _, takeL R c1 c2 c3 ak, _, _, rfl, rfl, T5b, G25b, X4d, G35b, X5b, B5b⟩
        case inr.inr.inl =>
          obtain ⟨-, -, q13, q23, q33, q43⟩ := five_cells G13.out
          go_wp2_with fail
          refine (bdrop w.heap.size w.heap.size (gb + 1) gb [wr.heap.size, wr.heap.size + 1, wr.heap.size + 2] G _ _ _ _ _ _ _ _ _ T3.out ak).mono ?_
          rintro e w4 ⟨rfl, hT, hO⟩
          have T4 := Lib.hid hT
          have B4 := Lib.hid (B3.out.trans hO.1)
          have G14 := Lib.hid ((hO.2.2.2 wr.heap.size (by simp)).trans G13.out)
          have G24 := Lib.hid ((hO.2.2.2 (wr.heap.size + 1) (by simp)).trans G23.out)
          have G34 := Lib.hid ((hO.2.2.2 (wr.heap.size + 2) (by simp)).trans G33.out)
          have BA4 := Lib.hid (BA3.out.step hO.2.1)
          clear hT hO q13 q23 q33 q43
          obtain ⟨-, -, q14, q24, q34, q44⟩ := five_cells G14.out
          go_wp2_with fail
          refine (bract2 w.heap.size w.heap.size (gb + 1) gb [wr.heap.size, wr.heap.size + 1, wr.heap.size + 2] G _ _ _ _ _ _ _ _ _ T4.out ak).mono ?_
          rintro e w5 ⟨x, rfl, -, hT, hO⟩
          have T5 := Lib.hid hT
          have B5 := Lib.hid (B4.out.trans hO.1)
          have G15 := Lib.hid ((hO.2.2.2 wr.heap.size (by simp)).trans G14.out)
          have G25 := Lib.hid ((hO.2.2.2 (wr.heap.size + 1) (by simp)).trans G24.out)
          have G35 := Lib.hid ((hO.2.2.2 (wr.heap.size + 2) (by simp)).trans G34.out)
          have BA5 := Lib.hid (BA4.out.step hO.2.1)
          clear hT hO q14 q24 q34 q44
          go_wp2_with fail
          go_meet
          case rel => exact ⟨_, _, _, _, _, (0, 0, []), _, _, rfl, rfl, T5, G25, bytes_nil _ _, G35, bytes_nil _ _, B5⟩
        case inr.inr.inr.inl =>
          obtain ⟨-, -, q13, q23, q33, q43⟩ := five_cells G13.out
          go_wp2_with fail
          refine (bdouble w.heap.size w.heap.size (gb + 1) gb [wr.heap.size, wr.heap.size + 1, wr.heap.size + 2] G _ _ _ _ _ _ _ _ _ T3.out ak).mono ?_
          rintro e w4 ⟨rfl, hT, hO⟩
          have T4 := Lib.hid hT
          have B4 := Lib.hid (B3.out.trans hO.1)
          have G14 := Lib.hid ((hO.2.2.2 wr.heap.size (by simp)).trans G13.out)
          have G24 := Lib.hid ((hO.2.2.2 (wr.heap.size + 1) (by simp)).trans G23.out)
          have G34 := Lib.hid ((hO.2.2.2 (wr.heap.size + 2) (by simp)).trans G33.out)
          have BA4 := Lib.hid (BA3.out.step hO.2.1)
          clear hT hO q13 q23 q33 q43
          obtain ⟨-, -, q14, q24, q34, q44⟩ := five_cells G14.out
          go_wp2_with fail
          refine (bract3 w.heap.size w.heap.size (gb + 1) gb [wr.heap.size, wr.heap.size + 1, wr.heap.size + 2] G _ _ _ _ _ _ _ _ _ T4.out ak).mono ?_
          rintro e w5 ⟨x, rfl, -, hT, hO⟩
          have T5 := Lib.hid hT
          have B5 := Lib.hid (B4.out.trans hO.1)
          have G15 := Lib.hid ((hO.2.2.2 wr.heap.size (by simp)).trans G14.out)
          have G25 := Lib.hid ((hO.2.2.2 (wr.heap.size + 1) (by simp)).trans G24.out)
          have G35 := Lib.hid ((hO.2.2.2 (wr.heap.size + 2) (by simp)).trans G34.out)
          have BA5 := Lib.hid (BA4.out.step hO.2.1)
          clear hT hO q14 q24 q34 q44
          go_wp2_with fail
          go_meet
          case rel => exact ⟨_, _, _, _, _, (0, 0, []), _, _, rfl, rfl, T5, G25, bytes_nil _ _, G35, bytes_nil _ _, B5⟩
        case inr.inr.inr.inr.inl =>
          obtain ⟨-, -, q13, q23, q33, q43⟩ := five_cells G13.out
          go_wp2_with fail
          refine (bhold w.heap.size w.heap.size (gb + 1) gb [wr.heap.size, wr.heap.size + 1, wr.heap.size + 2] G _ _ _ _ _ _ _ _ _ T3.out ak).mono ?_
          rintro e w4 ⟨rfl, hT, hO⟩
          have T4 := Lib.hid hT
          have B4 := Lib.hid (B3.out.trans hO.1)
          have G14 := Lib.hid ((hO.2.2.2 wr.heap.size (by simp)).trans G13.out)
          have G24 := Lib.hid ((hO.2.2.2 (wr.heap.size + 1) (by simp)).trans G23.out)
          have G34 := Lib.hid ((hO.2.2.2 (wr.heap.size + 2) (by simp)).trans G33.out)
          have BA4 := Lib.hid (BA3.out.step hO.2.1)
          clear hT hO q13 q23 q33 q43
          obtain ⟨-, -, q14, q24, q34, q44⟩ := five_cells G14.out
          go_wp2_with fail
          refine (bract4 w.heap.size w.heap.size (gb + 1) gb [wr.heap.size, wr.heap.size + 1, wr.heap.size + 2] G _ _ _ _ _ _ _ _ _ T4.out ak).mono ?_
          rintro e w5 ⟨x, rfl, -, hT, hO⟩
          have T5 := Lib.hid hT
          have B5 := Lib.hid (B4.out.trans hO.1)
          have G15 := Lib.hid ((hO.2.2.2 wr.heap.size (by simp)).trans G14.out)
          have G25 := Lib.hid ((hO.2.2.2 (wr.heap.size + 1) (by simp)).trans G24.out)
          have G35 := Lib.hid ((hO.2.2.2 (wr.heap.size + 2) (by simp)).trans G34.out)
          have BA5 := Lib.hid (BA4.out.step hO.2.1)
          clear hT hO q14 q24 q34 q44
          go_wp2_with fail
          go_meet
          case rel => exact ⟨_, _, _, _, _, (0, 0, []), _, _, rfl, rfl, T5, G25, bytes_nil _ _, G35, bytes_nil _ _, B5⟩
        case inr.inr.inr.inr.inr.inl =>
          go_wp2_with fail
          have hT3 := (T3.out.below (Below.refl _ _).drew)
          have T3d := Lib.hid hT3
          have G13d : Hid (W3.drew.heap[wr.heap.size]? = _) := G13.out
          have G23d : Hid (W3.drew.heap[wr.heap.size + 1]? = _) := G23.out
          have G33d : Hid (W3.drew.heap[wr.heap.size + 2]? = _) := G33.out
          have BA3d := Lib.hid (BA3.out.below (Below.refl _ _).drew)
          have B3d : Hid (Below w.heap.size w W3.drew) := B3.out.drew
          clear hT3
          obtain ⟨-, -, q13d, q23d, q33d, q43d⟩ := five_cells G13d.out
          refine wp_region_held_drew (S := (fun W => W.cell? ⟨wr.heap.size, 1, none⟩ = some (.int .i64 af) ∧ W.cell? ⟨wr.heap.size, 2, none⟩ = some (.int .i64 at') ∧ W.cell? ⟨wr.heap.size, 3, none⟩ = some (.slice ba abs.length bc))) (by kernel_rfl) ?_ (fun hHeld => ?_)
          · (try dsimp only)
            with_reducible exact ⟨q13d, q23d, q33d⟩
          refine Plan.start (plan := [0, 1, 2, 3, 5, 6, 7, 8]) (fuel := 4) (by decide +kernel) (by assumption) ?_
          refine Plan.free (i := 0) (ds := some 124) (v := ?_) rfl rfl rfl ?_ (fun _ _ _ h => h) ?_
          rotate_left
          · (intro w hSw; (try dsimp only at hSw); go_simp; first | done | with_reducible rfl)
          (try simp only [Act.put, List.setIfInBounds_toArray, List.set_cons_zero, List.set_cons_succ])
          refine Plan.free (i := 1) (ds := some 125) (v := ?_) rfl rfl rfl ?_ (fun _ _ _ h => h) ?_
          rotate_left
          · (intro w hSw; (try dsimp only at hSw); go_simp; first | done | with_reducible rfl)
          (try simp only [Act.put, List.setIfInBounds_toArray, List.set_cons_zero, List.set_cons_succ])
          refine Plan.free (i := 2) (ds := some 126) (v := ?_) rfl rfl rfl ?_ (fun _ _ _ h => h) ?_
          rotate_left
          · (intro w hSw; (try dsimp only at hSw); go_simp; first | done | with_reducible rfl)
          (try simp only [Act.put, List.setIfInBounds_toArray, List.set_cons_zero, List.set_cons_succ])
          refine Plan.free (i := 3) (ds := some 127) (v := ?_) rfl rfl rfl ?_ (fun _ _ _ h => h) ?_
          rotate_left
          · (intro w hSw; (try dsimp only at hSw); go_simp; first | done | with_reducible rfl)
          (try simp only [Act.put, List.setIfInBounds_toArray, List.set_cons_zero, List.set_cons_succ])
          refine Plan.free (i := 5) (ds := some 129) (v := ?_) rfl rfl rfl ?_ (fun _ _ _ h => h) ?_
          rotate_left
          · (intro w hSw; (try dsimp only at hSw); go_simp; first | done | with_reducible rfl)
          (try simp only [Act.put, List.setIfInBounds_toArray, List.set_cons_zero, List.set_cons_succ])
          refine Plan.free (i := 6) (ds := some 130) (v := ?_) rfl rfl rfl ?_ (fun _ _ _ h => h) ?_
          rotate_left
          · (intro w hSw; (try dsimp only at hSw); go_simp; first | done | with_reducible rfl)
          (try simp only [Act.put, List.setIfInBounds_toArray, List.set_cons_zero, List.set_cons_succ])
          refine Plan.free (i := 7) (ds := some 131) (v := ?_) rfl rfl rfl ?_ (fun _ _ _ h => h) ?_
          rotate_left
          · (intro w hSw; (try dsimp only at hSw); go_simp; first | done | with_reducible rfl)
          (try simp only [Act.put, List.setIfInBounds_toArray, List.set_cons_zero, List.set_cons_succ])
          refine Plan.free (i := 8) (ds := some 132) (v := ?_) rfl rfl rfl ?_ (fun _ _ _ h => h) ?_
          rotate_left
          · (intro w hSw; (try dsimp only at hSw); go_simp; first | done | with_reducible rfl)
          (try simp only [Act.put, List.setIfInBounds_toArray, List.set_cons_zero, List.set_cons_succ])
          refine Plan.stop (fun hHeld => ?_)
          refine wpAnyH_ready (rs := [4]) (by decide +kernel) (by simp) ?_
          refine AllReadyH.cons (o := _) rfl ?_ AllReadyH.nil
          intro K hK
          rw [if_pos (wanted_none (by rfl))]
          (go_simp; go_at_call 10; refine (bcut w.heap.size w.heap.size (gb + 1) gb [wr.heap.size, wr.heap.size + 1, wr.heap.size + 2] G _ _ _ _ _ _ _ _ _ T3d.out af true).mono ?_; rintro e w4 ⟨rfl, hT, hO⟩; have T4 := Lib.hid hT; have B4 := Lib.hid (B3d.out.trans hO.1); have G14 := Lib.hid ((hO.2.2.2 wr.heap.size (by simp)).trans G13d.out); have G24 := Lib.hid ((hO.2.2.2 (wr.heap.size + 1) (by simp)).trans G23d.out); have G34 := Lib.hid ((hO.2.2.2 (wr.heap.size + 2) (by simp)).trans G33d.out); have BA4 := Lib.hid (BA3d.out.step hO.2.1); clear hT hO; obtain ⟨-, -, q14, q24, q34, q44⟩ := five_cells G14.out)
          refine hK.out _ _ ?_ (fun hHeld => ?_)
          · (try dsimp only)
            with_reducible exact ⟨q14, q24, q34⟩
          clear hK K
          (try simp only [Act.put, List.setIfInBounds_toArray, List.set_cons_zero, List.set_cons_succ])
          refine wpAnyH_ready (rs := [9]) (by decide +kernel) (by simp) ?_
          refine AllReadyH.cons (o := _) rfl ?_ AllReadyH.nil
          intro K hK
          rw [if_pos (wanted_none (by rfl))]
          (go_simp; go_at_call 22; refine (brcut w.heap.size w.heap.size (gb + 1) gb [wr.heap.size, wr.heap.size + 1, wr.heap.size + 2] G _ _ _ _ _ _ _ _ _ T4.out af true).mono ?_; rintro e w5 ⟨rfl, hT, hO⟩; have T5 := Lib.hid hT; have B5 := Lib.hid (B4.out.trans hO.1); have G15 := Lib.hid ((hO.2.2.2 wr.heap.size (by simp)).trans G14.out); have G25 := Lib.hid ((hO.2.2.2 (wr.heap.size + 1) (by simp)).trans G24.out); have G35 := Lib.hid ((hO.2.2.2 (wr.heap.size + 2) (by simp)).trans G34.out); have BA5 := Lib.hid (BA4.out.step hO.2.1); clear hT hO; obtain ⟨-, -, q15, q25, q35, q45⟩ := five_cells G15.out)
          refine hK.out _ _ ?_ (fun hHeld => ?_)
          · (try dsimp only)
            with_reducible exact ⟨q15, q25, q35⟩
          clear hK K
          (try simp only [Act.put, List.setIfInBounds_toArray, List.set_cons_zero, List.set_cons_succ])
          refine Plan.start (plan := [10, 11]) (fuel := 0) (by decide +kernel) (by assumption) ?_
          refine Plan.free (i := 10) (ds := some 12) (v := ?_) rfl rfl rfl ?_ (fun _ _ _ h => h) ?_
          rotate_left
          · (intro w hSw; (try dsimp only at hSw); go_simp; first | done | with_reducible rfl)
          (try simp only [Act.put, List.setIfInBounds_toArray, List.set_cons_zero, List.set_cons_succ])
          refine Plan.free (i := 11) (ds := some 13) (v := ?_) rfl rfl rfl ?_ (fun _ _ _ h => h) ?_
          rotate_left
          · (intro w hSw; (try dsimp only at hSw); go_simp; first | done | with_reducible rfl)
          (try simp only [Act.put, List.setIfInBounds_toArray, List.set_cons_zero, List.set_cons_succ])
          refine Plan.stop (fun hHeld => ?_)
          refine wpAnyH_done (by decide +kernel) ?_ _
          go_wp2_with fail
          go_meet
          case rel => exact ⟨_, _, _, _, _, (0, 0, []), _, _, rfl, rfl, T5, G25, bytes_nil _ _, G35, bytes_nil _ _, B5⟩
        case inr.inr.inr.inr.inr.inr =>
          go_wp2_with fail
          have hT3 := (T3.out.below (Below.refl _ _).drew)
          have T3d := Lib.hid hT3
          have G13d : Hid (W3.drew.heap[wr.heap.size]? = _) := G13.out
          have G23d : Hid (W3.drew.heap[wr.heap.size + 1]? = _) := G23.out
          have G33d : Hid (W3.drew.heap[wr.heap.size + 2]? = _) := G33.out
          have BA3d := Lib.hid (BA3.out.below (Below.refl _ _).drew)
          have B3d : Hid (Below w.heap.size w W3.drew) := B3.out.drew
          clear hT3
          obtain ⟨-, -, q13d, q23d, q33d, q43d⟩ := five_cells G13d.out
          refine wp_region_held_drew (S := (fun W => W.cell? ⟨wr.heap.size, 1, none⟩ = some (.int .i64 af) ∧ W.cell? ⟨wr.heap.size, 2, none⟩ = some (.int .i64 at') ∧ W.cell? ⟨wr.heap.size, 3, none⟩ = some (.slice ba abs.length bc))) (by kernel_rfl) ?_ (fun hHeld => ?_)
          · (try dsimp only)
            with_reducible exact ⟨q13d, q23d, q33d⟩
          refine Plan.start (plan := [0, 1, 2, 3, 5, 6, 7, 8]) (fuel := 4) (by decide +kernel) (by assumption) ?_
          refine Plan.free (i := 0) (ds := some 136) (v := ?_) rfl rfl rfl ?_ (fun _ _ _ h => h) ?_
          rotate_left
          · (intro w hSw; (try dsimp only at hSw); go_simp; first | done | with_reducible rfl)
          (try simp only [Act.put, List.setIfInBounds_toArray, List.set_cons_zero, List.set_cons_succ])
          refine Plan.free (i := 1) (ds := some 137) (v := ?_) rfl rfl rfl ?_ (fun _ _ _ h => h) ?_
          rotate_left
          · (intro w hSw; (try dsimp only at hSw); go_simp; first | done | with_reducible rfl)
          (try simp only [Act.put, List.setIfInBounds_toArray, List.set_cons_zero, List.set_cons_succ])
          refine Plan.free (i := 2) (ds := some 138) (v := ?_) rfl rfl rfl ?_ (fun _ _ _ h => h) ?_
          rotate_left
          · (intro w hSw; (try dsimp only at hSw); go_simp; first | done | with_reducible rfl)
          (try simp only [Act.put, List.setIfInBounds_toArray, List.set_cons_zero, List.set_cons_succ])
          refine Plan.free (i := 3) (ds := some 139) (v := ?_) rfl rfl rfl ?_ (fun _ _ _ h => h) ?_
          rotate_left
          · (intro w hSw; (try dsimp only at hSw); go_simp; first | done | with_reducible rfl)
          (try simp only [Act.put, List.setIfInBounds_toArray, List.set_cons_zero, List.set_cons_succ])
          refine Plan.free (i := 5) (ds := some 141) (v := ?_) rfl rfl rfl ?_ (fun _ _ _ h => h) ?_
          rotate_left
          · (intro w hSw; (try dsimp only at hSw); go_simp; first | done | with_reducible rfl)
          (try simp only [Act.put, List.setIfInBounds_toArray, List.set_cons_zero, List.set_cons_succ])
          refine Plan.free (i := 6) (ds := some 142) (v := ?_) rfl rfl rfl ?_ (fun _ _ _ h => h) ?_
          rotate_left
          · (intro w hSw; (try dsimp only at hSw); go_simp; first | done | with_reducible rfl)
          (try simp only [Act.put, List.setIfInBounds_toArray, List.set_cons_zero, List.set_cons_succ])
          refine Plan.free (i := 7) (ds := some 143) (v := ?_) rfl rfl rfl ?_ (fun _ _ _ h => h) ?_
          rotate_left
          · (intro w hSw; (try dsimp only at hSw); go_simp; first | done | with_reducible rfl)
          (try simp only [Act.put, List.setIfInBounds_toArray, List.set_cons_zero, List.set_cons_succ])
          refine Plan.free (i := 8) (ds := some 144) (v := ?_) rfl rfl rfl ?_ (fun _ _ _ h => h) ?_
          rotate_left
          · (intro w hSw; (try dsimp only at hSw); go_simp; first | done | with_reducible rfl)
          (try simp only [Act.put, List.setIfInBounds_toArray, List.set_cons_zero, List.set_cons_succ])
          refine Plan.stop (fun hHeld => ?_)
          refine wpAnyH_ready (rs := [4]) (by decide +kernel) (by simp) ?_
          refine AllReadyH.cons (o := _) rfl ?_ AllReadyH.nil
          intro K hK
          rw [if_pos (wanted_none (by rfl))]
          (go_simp; go_at_call 10; refine (bcut w.heap.size w.heap.size (gb + 1) gb [wr.heap.size, wr.heap.size + 1, wr.heap.size + 2] G _ _ _ _ _ _ _ _ _ T3d.out af false).mono ?_; rintro e w4 ⟨rfl, hT, hO⟩; have T4 := Lib.hid hT; have B4 := Lib.hid (B3d.out.trans hO.1); have G14 := Lib.hid ((hO.2.2.2 wr.heap.size (by simp)).trans G13d.out); have G24 := Lib.hid ((hO.2.2.2 (wr.heap.size + 1) (by simp)).trans G23d.out); have G34 := Lib.hid ((hO.2.2.2 (wr.heap.size + 2) (by simp)).trans G33d.out); have BA4 := Lib.hid (BA3d.out.step hO.2.1); clear hT hO; obtain ⟨-, -, q14, q24, q34, q44⟩ := five_cells G14.out)
          refine hK.out _ _ ?_ (fun hHeld => ?_)
          · (try dsimp only)
            with_reducible exact ⟨q14, q24, q34⟩
          clear hK K
          (try simp only [Act.put, List.setIfInBounds_toArray, List.set_cons_zero, List.set_cons_succ])
          refine wpAnyH_ready (rs := [9]) (by decide +kernel) (by simp) ?_
          refine AllReadyH.cons (o := _) rfl ?_ AllReadyH.nil
          intro K hK
          rw [if_pos (wanted_none (by rfl))]
          (go_simp; go_at_call 22; refine (brcut w.heap.size w.heap.size (gb + 1) gb [wr.heap.size, wr.heap.size + 1, wr.heap.size + 2] G _ _ _ _ _ _ _ _ _ T4.out af false).mono ?_; rintro e w5 ⟨rfl, hT, hO⟩; have T5 := Lib.hid hT; have B5 := Lib.hid (B4.out.trans hO.1); have G15 := Lib.hid ((hO.2.2.2 wr.heap.size (by simp)).trans G14.out); have G25 := Lib.hid ((hO.2.2.2 (wr.heap.size + 1) (by simp)).trans G24.out); have G35 := Lib.hid ((hO.2.2.2 (wr.heap.size + 2) (by simp)).trans G34.out); have BA5 := Lib.hid (BA4.out.step hO.2.1); clear hT hO; obtain ⟨-, -, q15, q25, q35, q45⟩ := five_cells G15.out)
          refine hK.out _ _ ?_ (fun hHeld => ?_)
          · (try dsimp only)
            with_reducible exact ⟨q15, q25, q35⟩
          clear hK K
          (try simp only [Act.put, List.setIfInBounds_toArray, List.set_cons_zero, List.set_cons_succ])
          refine Plan.start (plan := [10, 11]) (fuel := 0) (by decide +kernel) (by assumption) ?_
          refine Plan.free (i := 10) (ds := some 12) (v := ?_) rfl rfl rfl ?_ (fun _ _ _ h => h) ?_
          rotate_left
          · (intro w hSw; (try dsimp only at hSw); go_simp; first | done | with_reducible rfl)
          (try simp only [Act.put, List.setIfInBounds_toArray, List.set_cons_zero, List.set_cons_succ])
          refine Plan.free (i := 11) (ds := some 13) (v := ?_) rfl rfl rfl ?_ (fun _ _ _ h => h) ?_
          rotate_left
          · (intro w hSw; (try dsimp only at hSw); go_simp; first | done | with_reducible rfl)
          (try simp only [Act.put, List.setIfInBounds_toArray, List.set_cons_zero, List.set_cons_succ])
          refine Plan.stop (fun hHeld => ?_)
          refine wpAnyH_done (by decide +kernel) ?_ _
          go_wp2_with fail
          go_meet
          case rel => exact ⟨_, _, _, _, _, (0, 0, []), _, _, rfl, rfl, T5, G25, bytes_nil _ _, G35, bytes_nil _ _, B5⟩
      case rest =>
        obtain ⟨e, R', e1, e2, e3, x, xv, yv, rfl, rfl, TC, GX, XB, GY, YB, BC⟩ := hcut
        obtain ⟨xa, xc, hxf⟩ := XB.out.form
        obtain ⟨ya, yc, hyf⟩ := YB.out.form
        subst hxf hyf
        obtain ⟨rv, rL, hRS, -, -⟩ := TC.out
        obtain ⟨ra, rc, hrf⟩ := net_form hRS.1.2.2
        subst hrf
        have RSC := Lib.hid hRS
        obtain ⟨zx, x0, x1, x2⟩ := three_cells GX.out
        obtain ⟨zy, y0, y1, y2⟩ := three_cells GY.out
        obtain ⟨zr, rr0, rr1, rr2⟩ := three_cells hRS.1.1
        have HS : Hid (∀ W, Below wc.heap.size wc W → W.cell? ⟨wr.heap.size + 1, 0, none⟩ = some (.int .i64 x.1) ∧ W.cell? ⟨wr.heap.size + 1, 1, none⟩ = some (.int .i64 x.2.1) ∧ W.cell? ⟨wr.heap.size + 1, 2, none⟩ = some (.slice xa x.2.2.length xc) ∧ W.cell? ⟨wr.heap.size + 2, 0, none⟩ = some (.int .i64 x.1) ∧ W.cell? ⟨wr.heap.size + 2, 1, none⟩ = some (.int .i64 x.2.1) ∧ W.cell? ⟨wr.heap.size + 2, 2, none⟩ = some (.slice ya x.2.2.length yc) ∧ W.cell? ⟨gb + 1, 1, none⟩ = some (.slice ra rL.length rc)) := fun W hb => ⟨stays hb x0, stays hb x1, stays hb x2, stays hb y0, stays hb y1, stays hb y2, stays hb rr1⟩
        have ZZ : Hid (∀ (C D : Array Value), Below wc.heap.size wc ((wc.alloc (.cells C 30)).alloc (.cells D 30)).drew ∧ ((wc.alloc (.cells C 30)).alloc (.cells D 30)).drew.heap[wc.heap.size]? = some (.cells C 30 (0, 0)) ∧ ((wc.alloc (.cells C 30)).alloc (.cells D 30)).drew.heap[wc.heap.size + 1]? = some (.cells D 30 (0, 0))) := fun C D => by
          obtain ⟨h1, h2, h3, h4⟩ := two_blocks wc C D 30 30
          exact ⟨h1.drew, h2, h3⟩
        have OB : Hid (∀ (C : Array Value), Below wc.heap.size wc (wc.alloc (.cells C 30)).drew) := fun C => (below_alloc _ _).drew
        have hne : ((e : Int) != e) = false := by simp
        clear hRS x0 x1 x2 y0 y1 y2 rr0 rr1 rr2 zx zy zr GX GY
        go_wp2_with fail
        refine wp_region_held_drew (S := (fun W => W.cell? ⟨wr.heap.size + 1, 0, none⟩ = some (.int .i64 x.1) ∧ W.cell? ⟨wr.heap.size + 1, 1, none⟩ = some (.int .i64 x.2.1) ∧ W.cell? ⟨wr.heap.size + 1, 2, none⟩ = some (.slice xa x.2.2.length xc) ∧ W.cell? ⟨wr.heap.size + 2, 0, none⟩ = some (.int .i64 x.1) ∧ W.cell? ⟨wr.heap.size + 2, 1, none⟩ = some (.int .i64 x.2.1) ∧ W.cell? ⟨wr.heap.size + 2, 2, none⟩ = some (.slice ya x.2.2.length yc) ∧ W.cell? ⟨gb + 1, 1, none⟩ = some (.slice ra rL.length rc))) (by kernel_rfl) ?_ (fun hHeld => ?_)
        · (try dsimp only)
          exact HS.out _ (Below.refl _ _).drew
        refine Plan.start (plan := [0, 1, 2, 3, 4, 6]) (fuel := 15) (by decide +kernel) (by assumption) ?_
        refine Plan.free (i := 0) (ds := some 146) (v := ?_) rfl rfl rfl ?_ (fun _ _ _ h => h) ?_
        rotate_left
        · (intro w hSw; (try dsimp only at hSw); go_simp; first | done | with_reducible rfl)
        (try simp only [Act.put, List.setIfInBounds_toArray, List.set_cons_zero, List.set_cons_succ])
        refine Plan.free (i := 1) (ds := some 147) (v := ?_) rfl rfl rfl ?_ (fun _ _ _ h => h) ?_
        rotate_left
        · (intro w hSw; (try dsimp only at hSw); go_simp; first | done | with_reducible rfl)
        (try simp only [Act.put, List.setIfInBounds_toArray, List.set_cons_zero, List.set_cons_succ])
        refine Plan.free (i := 2) (ds := some 148) (v := ?_) rfl rfl rfl ?_ (fun _ _ _ h => h) ?_
        rotate_left
        · (intro w hSw; (try dsimp only at hSw); go_simp; first | done | with_reducible rfl)
        (try simp only [Act.put, List.setIfInBounds_toArray, List.set_cons_zero, List.set_cons_succ])
        refine Plan.free (i := 3) (ds := some 149) (v := ?_) rfl rfl rfl ?_ (fun _ _ _ h => h) ?_
        rotate_left
        · (intro w hSw; (try dsimp only at hSw); go_simp; first | done | with_reducible rfl)
        (try simp only [Act.put, List.setIfInBounds_toArray, List.set_cons_zero, List.set_cons_succ])
        refine Plan.on (i := 4) (ds := some 150) (j := 3) (d := 149) (v := ?_) rfl rfl rfl rfl rfl rfl ?_ (fun _ _ _ h => h) ?_
        rotate_left
        · (intro w hSw; (try dsimp only at hSw); go_simp; first | done | with_reducible rfl)
        (try simp only [Act.put, List.setIfInBounds_toArray, List.set_cons_zero, List.set_cons_succ])
        refine Plan.on (i := 6) (ds := some 152) (j := 3) (d := 149) (v := ?_) rfl rfl rfl rfl rfl rfl ?_ (fun _ _ _ h => h) ?_
        rotate_left
        · (intro w hSw; (try dsimp only at hSw); go_simp; first | done | with_reducible rfl)
        (try simp only [Act.put, List.setIfInBounds_toArray, List.set_cons_zero, List.set_cons_succ])
        refine Plan.stop (fun hHeld => ?_)
        refine wpAnyH_ready (rs := [5, 7]) (by decide +kernel) (by simp) ?_
        refine AllReadyH.cons (o := _) rfl ?_ ?_
        · intro K hK
          rw [if_pos (wanted_on (j := 3) (d := 149) (by rfl) (by rfl) (by rfl) (by rfl))]
          (go_simp)
          refine hK.out _ _ ?_ (fun hHeld => ?_)
          · (try dsimp only)
            exact HS.out _ (OB.out _)
          clear hK K
          (try simp only [Act.put, List.setIfInBounds_toArray, List.set_cons_zero, List.set_cons_succ])
          refine wpAnyH_ready (rs := [7]) (by decide +kernel) (by simp) ?_
          refine AllReadyH.cons (o := _) rfl ?_ AllReadyH.nil
          intro K hK
          rw [if_pos (wanted_on (j := 3) (d := 149) (by rfl) (by rfl) (by rfl) (by rfl))]
          (go_simp)
          refine hK.out _ _ ?_ (fun hHeld => ?_)
          · (try dsimp only)
            exact HS.out _ (ZZ.out _ _).1
          clear hK K
          (try simp only [Act.put, List.setIfInBounds_toArray, List.set_cons_zero, List.set_cons_succ])
          refine wpAnyH_ready (rs := [8]) (by decide +kernel) (by simp) ?_
          refine AllReadyH.cons (o := _) rfl ?_ AllReadyH.nil
          intro K hK
          rw [if_pos (wanted_on (j := 3) (d := 149) (by rfl) (by rfl) (by rfl) (by rfl))]
          (obtain ⟨bz, z1, z2⟩ := ZZ.out #[.int .i64 x.1, .int .i64 x.2.1, .slice xa x.2.2.length xc] #[.int .i64 x.1, .int .i64 x.2.1, .slice ya x.2.2.length yc]; have BZ := Lib.hid bz; have hX := one_in z1 (XB.out.below bz); have hY := one_in z2 (YB.out.below bz); clear bz z1 z2; go_simp; go_at_call 16; ((with_reducible refine (same_any w.heap.size _ _ [x] [x] _ hX hY).mono ?_); rintro e w8 ⟨rfl, n8, hw8⟩; have B8 : Hid (Below wc.heap.size wc w8) := (by rw [hw8]; exact World.below_drewN BZ.out n8); rw [sameB_self]; clear hX hY hw8))
          refine hK.out _ _ ?_ (fun hHeld => ?_)
          · (try dsimp only)
            exact HS.out _ B8.out
          clear hK K
          (try simp only [Act.put, List.setIfInBounds_toArray, List.set_cons_zero, List.set_cons_succ])
          refine Plan.start (plan := [9, 10, 11, 12, 14, 15, 16, 17]) (fuel := 4) (by decide +kernel) (by assumption) ?_
          refine Plan.on (i := 9) (ds := some 155) (j := 3) (d := 149) (v := ?_) rfl rfl rfl rfl rfl rfl ?_ (fun _ _ _ h => h) ?_
          rotate_left
          · (intro w hSw; (try dsimp only at hSw); go_simp; first | done | with_reducible rfl)
          (try simp only [Act.put, List.setIfInBounds_toArray, List.set_cons_zero, List.set_cons_succ])
          refine Plan.free (i := 10) (ds := some 156) (v := ?_) rfl rfl rfl ?_ (fun _ _ _ h => h) ?_
          rotate_left
          · (intro w hSw; (try dsimp only at hSw); go_simp; first | done | with_reducible rfl)
          (try simp only [Act.put, List.setIfInBounds_toArray, List.set_cons_zero, List.set_cons_succ])
          refine Plan.free (i := 11) (ds := some 157) (v := ?_) rfl rfl rfl ?_ (fun _ _ _ h => h) ?_
          rotate_left
          · (intro w hSw; (try dsimp only at hSw); go_simp; first | done | with_reducible rfl)
          (try simp only [Act.put, List.setIfInBounds_toArray, List.set_cons_zero, List.set_cons_succ])
          refine Plan.on (i := 12) (ds := some 158) (j := 11) (d := 157) (v := ?_) rfl rfl rfl rfl rfl rfl ?_ (fun _ _ _ h => h) ?_
          rotate_left
          · (intro w hSw; (try dsimp only at hSw); go_simp; first | done | with_reducible rfl)
          (try simp only [Act.put, List.setIfInBounds_toArray, List.set_cons_zero, List.set_cons_succ])
          refine Plan.on (i := 14) (ds := some 160) (j := 11) (d := 157) (v := ?_) rfl rfl rfl rfl rfl rfl ?_ (fun _ _ _ h => h) ?_
          rotate_left
          · (intro w hSw; (try dsimp only at hSw); go_simp; first | done | with_reducible rfl)
          (try simp only [Act.put, List.setIfInBounds_toArray, List.set_cons_zero, List.set_cons_succ])
          refine Plan.on (i := 15) (ds := some 161) (j := 11) (d := 157) (v := ?_) rfl rfl rfl rfl rfl rfl ?_ (fun _ _ _ h => h) ?_
          rotate_left
          · (intro w hSw; (try dsimp only at hSw); go_simp; first | done | with_reducible rfl)
          (try simp only [Act.put, List.setIfInBounds_toArray, List.set_cons_zero, List.set_cons_succ])
          refine Plan.on (i := 16) (ds := some 162) (j := 11) (d := 157) (v := ?_) rfl rfl rfl rfl rfl rfl ?_ (fun _ _ _ h => h) ?_
          rotate_left
          · (intro w hSw; (try dsimp only at hSw); go_simp; first | done | with_reducible rfl)
          (try simp only [Act.put, List.setIfInBounds_toArray, List.set_cons_zero, List.set_cons_succ])
          refine Plan.on (i := 17) (ds := some 163) (j := 11) (d := 157) (v := ?_) rfl rfl rfl rfl rfl rfl ?_ (fun _ _ _ h => h) ?_
          rotate_left
          · (intro w hSw; (try dsimp only at hSw); go_simp; first | done | with_reducible rfl)
          (try simp only [Act.put, List.setIfInBounds_toArray, List.set_cons_zero, List.set_cons_succ])
          refine Plan.stop (fun hHeld => ?_)
          refine wpAnyH_ready (rs := [13]) (by decide +kernel) (by simp) ?_
          refine AllReadyH.cons (o := _) rfl ?_ AllReadyH.nil
          intro K hK
          rw [if_pos (wanted_on (j := 11) (d := 157) (by rfl) (by rfl) (by rfl) (by rfl))]
          (go_simp; go_at_call 17; ((with_reducible refine (bletters w.heap.size w.heap.size (gb + 1) gb _ G _ _ _ _ _ _ _ _ w8 (TC.out.below B8.out)).mono ?_); rintro e w9 ⟨v9, rfl, hrow, hb9⟩; have B9 := Lib.hid (onward hb9 B8.out); have L9 := Lib.hid hrow.ltsIn; clear hrow hb9))
          refine hK.out _ _ ?_ (fun hHeld => ?_)
          · (try dsimp only)
            exact HS.out _ B9.out
          clear hK K
          (try simp only [Act.put, List.setIfInBounds_toArray, List.set_cons_zero, List.set_cons_succ])
          refine wpAnyH_ready (rs := [18]) (by decide +kernel) (by simp) ?_
          refine AllReadyH.cons (o := _) rfl ?_ AllReadyH.nil
          intro K hK
          rw [if_pos (wanted_on (j := 11) (d := 157) (by rfl) (by rfl) (by rfl) (by rfl))]
          (go_simp; go_at_call 16; ((with_reducible refine (same_any w.heap.size _ _ R' R' _ L9.out (RSC.out.ltsIn.below B9.out)).mono ?_); rintro e w10 ⟨rfl, n10, hw10⟩; have B10 : Hid (Below wc.heap.size wc w10) := (by rw [hw10]; exact World.below_drewN B9.out n10); rw [sameB_self]; clear hw10))
          refine hK.out _ _ ?_ (fun hHeld => ?_)
          · (try dsimp only)
            exact HS.out _ B10.out
          clear hK K
          (try simp only [Act.put, List.setIfInBounds_toArray, List.set_cons_zero, List.set_cons_succ])
          refine Plan.start (plan := [19, 20]) (fuel := 0) (by decide +kernel) (by assumption) ?_
          refine Plan.on (i := 19) (ds := some 165) (j := 11) (d := 157) (v := ?_) rfl rfl rfl rfl rfl rfl ?_ (fun _ _ _ h => h) ?_
          rotate_left
          · (intro w hSw; (try dsimp only at hSw); go_simp; first | done | with_reducible rfl)
          (try simp only [Act.put, List.setIfInBounds_toArray, List.set_cons_zero, List.set_cons_succ])
          refine Plan.free (i := 20) (ds := some 166) (v := ?_) rfl rfl rfl ?_ (fun _ _ _ h => h) ?_
          rotate_left
          · (intro w hSw; (try dsimp only at hSw); go_simp; first | done | with_reducible rfl)
          (try simp only [Act.put, List.setIfInBounds_toArray, List.set_cons_zero, List.set_cons_succ])
          refine Plan.stop (fun hHeld => ?_)
          refine wpAnyH_done (by decide +kernel) ?_ _
          go_wp2_with fail
          go_roundw
          case rel => exact ⟨k + 1, R', e1, e2, e3, by omega, by go_num, (TC.out.below B10.out).drop (fun k hk => by cases hk), BC.out.trans (B10.out.mono BC.out.size)⟩
          case measure => simp [intOf]; omega
        refine AllReadyH.cons (o := _) rfl ?_ ?_
        · intro K hK
          rw [if_pos (wanted_on (j := 3) (d := 149) (by rfl) (by rfl) (by rfl) (by rfl))]
          (go_simp)
          refine hK.out _ _ ?_ (fun hHeld => ?_)
          · (try dsimp only)
            exact HS.out _ (OB.out _)
          clear hK K
          (try simp only [Act.put, List.setIfInBounds_toArray, List.set_cons_zero, List.set_cons_succ])
          refine wpAnyH_ready (rs := [5]) (by decide +kernel) (by simp) ?_
          refine AllReadyH.cons (o := _) rfl ?_ AllReadyH.nil
          intro K hK
          rw [if_pos (wanted_on (j := 3) (d := 149) (by rfl) (by rfl) (by rfl) (by rfl))]
          (go_simp)
          refine hK.out _ _ ?_ (fun hHeld => ?_)
          · (try dsimp only)
            exact HS.out _ (ZZ.out _ _).1
          clear hK K
          (try simp only [Act.put, List.setIfInBounds_toArray, List.set_cons_zero, List.set_cons_succ])
          refine wpAnyH_ready (rs := [8]) (by decide +kernel) (by simp) ?_
          refine AllReadyH.cons (o := _) rfl ?_ AllReadyH.nil
          intro K hK
          rw [if_pos (wanted_on (j := 3) (d := 149) (by rfl) (by rfl) (by rfl) (by rfl))]
          (obtain ⟨bz, z1, z2⟩ := ZZ.out #[.int .i64 x.1, .int .i64 x.2.1, .slice ya x.2.2.length yc] #[.int .i64 x.1, .int .i64 x.2.1, .slice xa x.2.2.length xc]; have BZ := Lib.hid bz; have hX := one_in z2 (XB.out.below bz); have hY := one_in z1 (YB.out.below bz); clear bz z1 z2; go_simp; go_at_call 16; ((with_reducible refine (same_any w.heap.size _ _ [x] [x] _ hX hY).mono ?_); rintro e w8 ⟨rfl, n8, hw8⟩; have B8 : Hid (Below wc.heap.size wc w8) := (by rw [hw8]; exact World.below_drewN BZ.out n8); rw [sameB_self]; clear hX hY hw8))
          refine hK.out _ _ ?_ (fun hHeld => ?_)
          · (try dsimp only)
            exact HS.out _ B8.out
          clear hK K
          (try simp only [Act.put, List.setIfInBounds_toArray, List.set_cons_zero, List.set_cons_succ])
          refine Plan.start (plan := [9, 10, 11, 12, 14, 15, 16, 17]) (fuel := 4) (by decide +kernel) (by assumption) ?_
          refine Plan.on (i := 9) (ds := some 155) (j := 3) (d := 149) (v := ?_) rfl rfl rfl rfl rfl rfl ?_ (fun _ _ _ h => h) ?_
          rotate_left
          · (intro w hSw; (try dsimp only at hSw); go_simp; first | done | with_reducible rfl)
          (try simp only [Act.put, List.setIfInBounds_toArray, List.set_cons_zero, List.set_cons_succ])
          refine Plan.free (i := 10) (ds := some 156) (v := ?_) rfl rfl rfl ?_ (fun _ _ _ h => h) ?_
          rotate_left
          · (intro w hSw; (try dsimp only at hSw); go_simp; first | done | with_reducible rfl)
          (try simp only [Act.put, List.setIfInBounds_toArray, List.set_cons_zero, List.set_cons_succ])
          refine Plan.free (i := 11) (ds := some 157) (v := ?_) rfl rfl rfl ?_ (fun _ _ _ h => h) ?_
          rotate_left
          · (intro w hSw; (try dsimp only at hSw); go_simp; first | done | with_reducible rfl)
          (try simp only [Act.put, List.setIfInBounds_toArray, List.set_cons_zero, List.set_cons_succ])
          refine Plan.on (i := 12) (ds := some 158) (j := 11) (d := 157) (v := ?_) rfl rfl rfl rfl rfl rfl ?_ (fun _ _ _ h => h) ?_
          rotate_left
          · (intro w hSw; (try dsimp only at hSw); go_simp; first | done | with_reducible rfl)
          (try simp only [Act.put, List.setIfInBounds_toArray, List.set_cons_zero, List.set_cons_succ])
          refine Plan.on (i := 14) (ds := some 160) (j := 11) (d := 157) (v := ?_) rfl rfl rfl rfl rfl rfl ?_ (fun _ _ _ h => h) ?_
          rotate_left
          · (intro w hSw; (try dsimp only at hSw); go_simp; first | done | with_reducible rfl)
          (try simp only [Act.put, List.setIfInBounds_toArray, List.set_cons_zero, List.set_cons_succ])
          refine Plan.on (i := 15) (ds := some 161) (j := 11) (d := 157) (v := ?_) rfl rfl rfl rfl rfl rfl ?_ (fun _ _ _ h => h) ?_
          rotate_left
          · (intro w hSw; (try dsimp only at hSw); go_simp; first | done | with_reducible rfl)
          (try simp only [Act.put, List.setIfInBounds_toArray, List.set_cons_zero, List.set_cons_succ])
          refine Plan.on (i := 16) (ds := some 162) (j := 11) (d := 157) (v := ?_) rfl rfl rfl rfl rfl rfl ?_ (fun _ _ _ h => h) ?_
          rotate_left
          · (intro w hSw; (try dsimp only at hSw); go_simp; first | done | with_reducible rfl)
          (try simp only [Act.put, List.setIfInBounds_toArray, List.set_cons_zero, List.set_cons_succ])
          refine Plan.on (i := 17) (ds := some 163) (j := 11) (d := 157) (v := ?_) rfl rfl rfl rfl rfl rfl ?_ (fun _ _ _ h => h) ?_
          rotate_left
          · (intro w hSw; (try dsimp only at hSw); go_simp; first | done | with_reducible rfl)
          (try simp only [Act.put, List.setIfInBounds_toArray, List.set_cons_zero, List.set_cons_succ])
          refine Plan.stop (fun hHeld => ?_)
          refine wpAnyH_ready (rs := [13]) (by decide +kernel) (by simp) ?_
          refine AllReadyH.cons (o := _) rfl ?_ AllReadyH.nil
          intro K hK
          rw [if_pos (wanted_on (j := 11) (d := 157) (by rfl) (by rfl) (by rfl) (by rfl))]
          (go_simp; go_at_call 17; ((with_reducible refine (bletters w.heap.size w.heap.size (gb + 1) gb _ G _ _ _ _ _ _ _ _ w8 (TC.out.below B8.out)).mono ?_); rintro e w9 ⟨v9, rfl, hrow, hb9⟩; have B9 := Lib.hid (onward hb9 B8.out); have L9 := Lib.hid hrow.ltsIn; clear hrow hb9))
          refine hK.out _ _ ?_ (fun hHeld => ?_)
          · (try dsimp only)
            exact HS.out _ B9.out
          clear hK K
          (try simp only [Act.put, List.setIfInBounds_toArray, List.set_cons_zero, List.set_cons_succ])
          refine wpAnyH_ready (rs := [18]) (by decide +kernel) (by simp) ?_
          refine AllReadyH.cons (o := _) rfl ?_ AllReadyH.nil
          intro K hK
          rw [if_pos (wanted_on (j := 11) (d := 157) (by rfl) (by rfl) (by rfl) (by rfl))]
          (go_simp; go_at_call 16; ((with_reducible refine (same_any w.heap.size _ _ R' R' _ L9.out (RSC.out.ltsIn.below B9.out)).mono ?_); rintro e w10 ⟨rfl, n10, hw10⟩; have B10 : Hid (Below wc.heap.size wc w10) := (by rw [hw10]; exact World.below_drewN B9.out n10); rw [sameB_self]; clear hw10))
          refine hK.out _ _ ?_ (fun hHeld => ?_)
          · (try dsimp only)
            exact HS.out _ B10.out
          clear hK K
          (try simp only [Act.put, List.setIfInBounds_toArray, List.set_cons_zero, List.set_cons_succ])
          refine Plan.start (plan := [19, 20]) (fuel := 0) (by decide +kernel) (by assumption) ?_
          refine Plan.on (i := 19) (ds := some 165) (j := 11) (d := 157) (v := ?_) rfl rfl rfl rfl rfl rfl ?_ (fun _ _ _ h => h) ?_
          rotate_left
          · (intro w hSw; (try dsimp only at hSw); go_simp; first | done | with_reducible rfl)
          (try simp only [Act.put, List.setIfInBounds_toArray, List.set_cons_zero, List.set_cons_succ])
          refine Plan.free (i := 20) (ds := some 166) (v := ?_) rfl rfl rfl ?_ (fun _ _ _ h => h) ?_
          rotate_left
          · (intro w hSw; (try dsimp only at hSw); go_simp; first | done | with_reducible rfl)
          (try simp only [Act.put, List.setIfInBounds_toArray, List.set_cons_zero, List.set_cons_succ])
          refine Plan.stop (fun hHeld => ?_)
          refine wpAnyH_done (by decide +kernel) ?_ _
          go_wp2_with fail
          go_roundw
          case rel => exact ⟨k + 1, R', e1, e2, e3, by omega, by go_num, (TC.out.below B10.out).drop (fun k hk => by cases hk), BC.out.trans (B10.out.mono BC.out.size)⟩
          case measure => simp [intOf]; omega
        exact AllReadyH.nil
    · obtain rfl : k = A.length := by omega
      clear hlt
      go_wp2_with fail
      refine (goes_any _).mono ?_
      rintro e w3 ⟨rfl, hb⟩
      have HB := Lib.hid (onward hb BR.out)
      clear hb
      go_wp2_with fail
      go_ret
      exact ⟨rfl, HB.out⟩
end Go.Proofs.Ytgkefciojoffgaa
