/- The walk of the law JournalPlays. (Printed by gen_jxg.py.) -/
import Derived.Test.YtecbnhmnhcpcmaaGreatDoorPkJournalPlays43
import Derived.Test.YtecbnhmnhcpcmaaGreatDoorPkJournalPlays45
import Derived.Test.YtecbnhmnhcpcmaaGreatDoorPkJournalPlays23
import Derived.Test.YtecbnhmnhcpcmaaGreatDoorPkJournalPlays24
import Derived.Test.YtecbnhmnhcpcmaaGreatDoorPkJournalPlays25
/-! The walk of the law JournalPlays. (Printed by gen_jxg.py.) -/
namespace Go.Proofs.YtecbnhmnhcpcmaaGreatDoor
open Go.RowKit Go.WideMaps Go.Maps
set_option linter.unusedVariables false
set_option linter.unusedSimpArgs false
set_option maxRecDepth 100000
theorem plays_jn {w : World} {p b1 b2 n : Nat} {D : DM} {RL : List Po} (hM : MemS w p b1 b2 (-1) n D (.map [])) (h : Tied D RL) (hn : RL.length ≤ 60) : JnlS w p b1 b2 n D (.map []) := ⟨hM, h.jn.isM, h.jn.wf, by rw [h.jn.last]; omega⟩
theorem tied_bal {D : DM} {RL : List Po} (h : Tied D RL) {s : ByteArray} (hs : accB s = true) : balV D s = (ram RL s, 0) := by
  have h1 := h.bals s
  unfold bal at h1
  have h2 : (balV D s).2 = 0 := by
    unfold balV
    rw [if_pos hs]
    exact (h.jn.wf.num (.inl (balK_head s))).1
  exact Prod.ext h1 h2
theorem tied_num {D : DM} {RL : List Po} (h : Tied D RL) : numAt D [113] = ((RL.length : Int), 0) := by
  have h1 := h.jn.last
  obtain ⟨h2, h3, -⟩ := h.jn.wf.num (.inr rfl : ([113] : Bs).head? = some 98 ∨ ([113] : Bs) = [113])
  unfold lastN at h1
  exact Prod.ext (by rw [← h1]; omega) h2
theorem wr_u {n : Nat} (h : n ≤ 100) : IntKind.u64.wrap (n : Int) = (n : Int) := by
  have e : ∀ z : Int, IntKind.u64.wrap z = z % 18446744073709551616 := fun _ => rfl
  rw [e]; omega
theorem wr_u1 {n : Nat} (h : n ≤ 100) : IntKind.u64.wrap ((n : Int) + 1) = (n : Int) + 1 := by
  have e : ∀ z : Int, IntKind.u64.wrap z = z % 18446744073709551616 := fun _ => rfl
  rw [e]; omega
def PEnd (w : World) (e : Ending) (w' : World) : Prop := e = .returned (.bool true) ∧ Below w.heap.size w w'
theorem tied_len {D : DM} {RL : List Po} (h : Tied D RL) : ∀ p ∈ RL, p.ps.length ≤ 40 := fun p hp => by
  obtain ⟨i, hi, rfl⟩ := List.getElem_of_mem hp
  have := posts_yes (h.rows i RL[i] (List.getElem?_eq_getElem hi)).may
  omega
/-- what the two posts answer, and what is then behind -/
theorem plays_both {D : DM} {RL RL' : List Po} {t : Int} {ten : Nat} {L : List Pt} {r : Int × Int × DM} {E : Int} (h : Tied D RL) (hn : RL.length ≤ 60) (ht : Acct.inInt t) (hten : ten < 4294967296) (hi : ∀ q ∈ L, Acct.inInt q.n) (hr : postO D t ten L = r) (hE : rpE RL t L = E)
    (h1 : E ≠ 0 → RL' = RL) (h2 : E = 0 → ∃ lv', RL' = RL ++ [⟨RL.length + 1, t, ten, L, lv'⟩]) : r.1 = (if E = 0 then ((RL.length : Int) + 1) else 0) ∧ r.2.1 = E ∧ Tied r.2.2 RL' ∧ RL'.length ≤ RL.length + 1 := by
  subst hr hE
  rcases tied_post h (by omega) t ten L ht hten hi with ⟨he, hp⟩ | ⟨he, hp, hT⟩
  · rw [hp, if_neg he, h1 he]
    exact ⟨rfl, rfl, h, by omega⟩
  · obtain ⟨lv, rfl⟩ := h2 he
    rw [hp, if_pos he]
    exact ⟨rfl, he.symm, hT lv, by simp⟩
set_option maxHeartbeats 8000000 in
theorem plays_law (lv : Value) (L : List Ac) (other : ByteArray) (sq : Nat) (w : World) (hE : EnvA w) (hl : RowsIn w lv 3 (L.map Ac.cells)) (ho : ∀ a ∈ L, a.ok w) (hsq : sq < 18446744073709551616) : Calls Tryz.prog 3 #[lv, .string other, .int .u64 sq] w (PEnd w) := by
  have HE := Lib.hid hE
  have HL := Lib.hid hl
  have HO := Lib.hid ho
  have HSQ := Lib.hid hsq
  obtain ⟨a, c, rfl⟩ := ac_form hl
  clear hl hE ho hsq
  go_enter Tryz.func3, Tryz.ntmps3
  go_wp2_with fail
  refine (great_any _ L w HL.out HO.out).mono ?_
  rintro e w1' ⟨b, rfl, hb, rfl⟩
  cases b with
  | true =>
    clear hb
    go_wp2_with fail
    go_ret
    exact ⟨rfl, Below.refl _ _⟩
  | false =>
  obtain ⟨h60, hsm⟩ := hb rfl
  have HS := Lib.hid hsm
  have H60 := Lib.hid h60
  clear hb hsm h60
  by_cases ho1 : 100 < other.size
  · have d1 : decide (100 < (other.size : Int)) = true := decide_eq_true (by omega)
    clear ho1
    go_wp2_with fail
    go_ret
    exact ⟨rfl, Below.refl _ _⟩
  have d1 : decide (100 < (other.size : Int)) = false := decide_eq_false (by omega)
  have HOT : Hid (other.size ≤ 100) := Nat.le_of_not_lt ho1
  clear ho1
  go_wp2_with fail
  refine (new_any (-1) w).mono ?_
  rintro e w1 ⟨p, b1, b2, rfl, hm, hb, hp, hb1, hb2⟩
  have M1 := Lib.hid hm
  have B1 := Lib.hid hb
  have HP : Hid (w.heap.size ≤ p ∧ w.heap.size ≤ b1 ∧ w.heap.size ≤ b2) := ⟨hp, hb1, hb2⟩
  clear hm hb hp hb1 hb2
  obtain ⟨w3, hw3⟩ : ∃ W, W = ((w1.alloc (.cells #[.slice none 0 0] 30)).alloc (.cells #[.string other] 9)) := ⟨_, rfl⟩
  have q3 := two_blocks w1 #[.slice none 0 0] #[.string other] 30 9
  rw [← hw3] at q3
  obtain ⟨h31, h32, h33, h34⟩ := q3
  have B3 : Hid (Below w.heap.size w w3) := onward h31 B1.out
  have M3 := Lib.hid (M1.out.below h31)
  have J3 : Hid (JR w1.heap.size w3 w1.heap.size (.slice none 0 0) []) := ⟨h32, World.ownsRow_nil _ _ _ _, (fun p hp => by cases hp), Nat.le_refl _, (fun i p h => by simp at h)⟩
  have N3 : Hid (w3.ownsRow w1.heap.size 9 1 (.slice (some ⟨w1.heap.size + 1, 0, none⟩) 1 1) ([other] : List ByteArray).length (([other] : List ByteArray).map Value.string)) := ⟨rfl, .inr ⟨_, 1, _, rfl, by omega, h33, Nat.le_refl _, by unfold maxLen; omega, rfl, rfl⟩⟩
  have S1 : Hid (w.heap.size ≤ w1.heap.size) := B1.out.size
  have S3 : Hid (w1.heap.size ≤ w3.heap.size) := h31.size
  clear h31 h32 h33 h34 M1
  go_wp2_with fail
  rw [← hw3]
  clear hw3
  obtain ⟨i0, hi, hz0, hz1, hz2⟩ := info_parts infoStr
  obtain ⟨jp, hjp⟩ : ∃ j, j = w1.heap.size := ⟨_, rfl⟩
  rw [← hjp] at S1 S3 J3 N3 ⊢
  clear hjp
  go_loopw [9, 10] (fun nv iv wr => ∃ (i n : Nat) (D : DM) (RL : List Po) (rv : Value) (N : List ByteArray), i ≤ L.length ∧ n ≤ 42 * i ∧ RL.length ≤ i ∧ N.length ≤ 1 + 40 * i ∧ iv = .int .i64 i ∧ Hid (Tied D RL) ∧ Hid (MemS wr p b1 b2 (-1) n D (.map [])) ∧ Hid (JR jp wr jp rv RL) ∧ Hid (wr.ownsRow jp 9 1 nv N.length (N.map Value.string)) ∧ Hid (∀ s ∈ N, s.size ≤ 100) ∧ Hid (Below w.heap.size w wr)) (fun _ iv _ => L.length - (intOf iv).toNat)
  case atStart => exact ⟨0, 0, .map [], [], _, [other], by omega, by omega, by simp, by simp, rfl, tied_empty, M3.out, J3.out, N3.out, fun s hs => by simp at hs; subst hs; exact HOT.out, B3.out⟩
  case round =>
    obtain ⟨i, n, D, RL, rv, N, hi1, hn1, hr1, hN1, rfl, TR, MR, JR1, NR, SR, BR⟩ := hrel
    by_cases hlt : i < L.length
    · obtain ⟨g, o, rfl, y0, y1, y2⟩ := ac_cells (HL.out.below BR.out) i hlt
      have hz : (i : Int) < (L.length : Int) := by omega
      have hsz := H60.out
      obtain ⟨R1, ⟨R2, R3⟩, R4, R5⟩ := HO.out L[i] (List.getElem_mem hlt)
      obtain ⟨S4, S2⟩ := HS.out L[i] (List.getElem_mem hlt)
      have HI : Hid (L[i]? = some L[i]) := List.getElem?_eq_getElem hlt
      generalize L[i] = ac at *
      obtain ⟨t, tn0, pv, ps⟩ := ac
      dsimp only at y0 y1 y2 R1 R2 R3 R4 R5 S4 S2
      obtain ⟨tn, rfl⟩ : ∃ k : Nat, tn0 = k := ⟨tn0.toNat, by omega⟩
      obtain ⟨pa, pc, rfl⟩ := pt_form R1
      have RX := Lib.hid R1
      have PS : Hid (∀ q ∈ ps, q.a.size ≤ 100 ∧ Acct.inInt q.n) := fun q hq => ⟨S2 q hq, R5 q hq⟩
      have HT : Hid (Acct.inInt t) := R4
      have s1 : tn < 4294967296 := by omega
      have JS := Lib.hid (plays_jn MR.out TR.out (by omega))
      have KS : Hid (∀ W, Below wr.heap.size wr W → W.cell? ⟨g, o + i * 3, none⟩ = some (.int .i64 t) ∧ W.cell? ⟨g, o + i * 3 + 1, none⟩ = some (.int .u32 tn) ∧ W.cell? ⟨g, o + i * 3 + 2, none⟩ = some (.slice pa ps.length pc)) := by
        have q0 := y0
        have q1 := y1
        have q2 := y2
        exact fun W hb => ⟨stays hb q0, stays hb q1, stays hb q2⟩
      have YS : Hid (wr.cell? ⟨g, o + i * 3, none⟩ = some (.int .i64 t) ∧ wr.cell? ⟨g, o + i * 3 + 1, none⟩ = some (.int .u32 tn) ∧ wr.cell? ⟨g, o + i * 3 + 2, none⟩ = some (.slice pa ps.length pc)) := ⟨y0, y1, y2⟩
      clear R1 R2 R3 R4 R5 S2 y0 y1 y2
      go_upto_region 9 with fail
      refine wp_region_held_drew (S := (fun W => W.cell? ⟨g, o + i * 3, none⟩ = some (.int .i64 t) ∧ W.cell? ⟨g, o + i * 3 + 1, none⟩ = some (.int .u32 tn) ∧ W.cell? ⟨g, o + i * 3 + 2, none⟩ = some (.slice pa ps.length pc))) (by kernel_rfl) ?_ (fun hHeld => ?_)
      · (try dsimp only)
        exact KS.out _ ((Below.refl _ _).drew)
      refine Plan.start (plan := [0, 1, 2, 3, 4, 5, 6, 7, 8, 9, 10, 11, 12, 13, 14, 15, 16]) (fuel := 6) (by decide +kernel) (by assumption) ?_
      refine Plan.free (i := 0) (ds := some 48) (v := ?_) rfl rfl rfl ?_ (fun _ _ _ h => h) ?_
      rotate_left
      · (intro w hSw; (try dsimp only at hSw); go_simp; first | done | with_reducible rfl)
      (try simp only [Act.put, List.setIfInBounds_toArray, List.set_cons_zero, List.set_cons_succ])
      refine Plan.free (i := 1) (ds := some 49) (v := ?_) rfl rfl rfl ?_ (fun _ _ _ h => h) ?_
      rotate_left
      · (intro w hSw; (try dsimp only at hSw); go_simp; first | done | with_reducible rfl)
      (try simp only [Act.put, List.setIfInBounds_toArray, List.set_cons_zero, List.set_cons_succ])
      refine Plan.free (i := 2) (ds := some 50) (v := ?_) rfl rfl rfl ?_ (fun _ _ _ h => h) ?_
      rotate_left
      · (intro w hSw; (try dsimp only at hSw); go_simp; first | done | with_reducible rfl)
      (try simp only [Act.put, List.setIfInBounds_toArray, List.set_cons_zero, List.set_cons_succ])
      refine Plan.free (i := 3) (ds := some 51) (v := ?_) rfl rfl rfl ?_ (fun _ _ _ h => h) ?_
      rotate_left
      · (intro w hSw; (try dsimp only at hSw); go_simp; first | done | with_reducible rfl)
      (try simp only [Act.put, List.setIfInBounds_toArray, List.set_cons_zero, List.set_cons_succ])
      refine Plan.free (i := 4) (ds := some 52) (v := ?_) rfl rfl rfl ?_ (fun _ _ _ h => h) ?_
      rotate_left
      · (intro w hSw; (try dsimp only at hSw); go_simp; first | done | with_reducible rfl)
      (try simp only [Act.put, List.setIfInBounds_toArray, List.set_cons_zero, List.set_cons_succ])
      refine Plan.free (i := 5) (ds := some 53) (v := ?_) rfl rfl rfl ?_ (fun _ _ _ h => h) ?_
      rotate_left
      · (intro w hSw; (try dsimp only at hSw); go_simp; first | done | with_reducible rfl)
      (try simp only [Act.put, List.setIfInBounds_toArray, List.set_cons_zero, List.set_cons_succ])
      refine Plan.free (i := 6) (ds := some 54) (v := ?_) rfl rfl rfl ?_ (fun _ _ _ h => h) ?_
      rotate_left
      · (intro w hSw; (try dsimp only at hSw); go_simp; first | done | with_reducible rfl)
      (try simp only [Act.put, List.setIfInBounds_toArray, List.set_cons_zero, List.set_cons_succ])
      refine Plan.free (i := 7) (ds := some 55) (v := ?_) rfl rfl rfl ?_ (fun _ _ _ h => h) ?_
      rotate_left
      · (intro w hSw; (try dsimp only at hSw); go_simp; first | done | with_reducible rfl)
      (try simp only [Act.put, List.setIfInBounds_toArray, List.set_cons_zero, List.set_cons_succ])
      refine Plan.free (i := 8) (ds := some 56) (v := ?_) rfl rfl rfl ?_ (fun _ _ _ h => h) ?_
      rotate_left
      · (intro w hSw; (try dsimp only at hSw); go_simp; first | done | with_reducible rfl)
      (try simp only [Act.put, List.setIfInBounds_toArray, List.set_cons_zero, List.set_cons_succ])
      refine Plan.free (i := 9) (ds := some 57) (v := ?_) rfl rfl rfl ?_ (fun _ _ _ h => h) ?_
      rotate_left
      · (intro w hSw; (try dsimp only at hSw); go_simp; first | done | with_reducible rfl)
      (try simp only [Act.put, List.setIfInBounds_toArray, List.set_cons_zero, List.set_cons_succ])
      refine Plan.free (i := 10) (ds := some 58) (v := ?_) rfl rfl rfl ?_ (fun _ _ _ h => h) ?_
      rotate_left
      · (intro w hSw; (try dsimp only at hSw); go_simp; first | done | with_reducible rfl)
      (try simp only [Act.put, List.setIfInBounds_toArray, List.set_cons_zero, List.set_cons_succ])
      refine Plan.free (i := 11) (ds := some 59) (v := ?_) rfl rfl rfl ?_ (fun _ _ _ h => h) ?_
      rotate_left
      · (intro w hSw; (try dsimp only at hSw); go_simp; first | done | with_reducible rfl)
      (try simp only [Act.put, List.setIfInBounds_toArray, List.set_cons_zero, List.set_cons_succ])
      refine Plan.free (i := 12) (ds := some 60) (v := ?_) rfl rfl rfl ?_ (fun _ _ _ h => h) ?_
      rotate_left
      · (intro w hSw; (try dsimp only at hSw); go_simp; first | done | with_reducible rfl)
      (try simp only [Act.put, List.setIfInBounds_toArray, List.set_cons_zero, List.set_cons_succ])
      refine Plan.free (i := 13) (ds := some 61) (v := ?_) rfl rfl rfl ?_ (fun _ _ _ h => h) ?_
      rotate_left
      · (intro w hSw; (try dsimp only at hSw); go_simp; first | done | with_reducible rfl)
      (try simp only [Act.put, List.setIfInBounds_toArray, List.set_cons_zero, List.set_cons_succ])
      refine Plan.free (i := 14) (ds := some 62) (v := ?_) rfl rfl rfl ?_ (fun _ _ _ h => h) ?_
      rotate_left
      · (intro w hSw; (try dsimp only at hSw); go_simp; first | done | with_reducible rfl)
      (try simp only [Act.put, List.setIfInBounds_toArray, List.set_cons_zero, List.set_cons_succ])
      refine Plan.free (i := 15) (ds := some 63) (v := ?_) rfl rfl rfl ?_ (fun _ _ _ h => h) ?_
      rotate_left
      · (intro w hSw; (try dsimp only at hSw); go_simp; first | done | with_reducible rfl)
      (try simp only [Act.put, List.setIfInBounds_toArray, List.set_cons_zero, List.set_cons_succ])
      refine Plan.free (i := 16) (ds := some 64) (v := ?_) rfl rfl rfl ?_ (fun _ _ _ h => h) ?_
      rotate_left
      · (intro w hSw; (try dsimp only at hSw); go_simp; first | done | with_reducible rfl)
      (try simp only [Act.put, List.setIfInBounds_toArray, List.set_cons_zero, List.set_cons_succ])
      refine Plan.stop (fun hHeld => ?_)
      refine wpAnyH_ready (rs := [17]) (by decide +kernel) (by simp) ?_
      refine AllReadyH.cons (o := _) rfl ?_ AllReadyH.nil
      intro K hK
      rw [if_pos (wanted_none (by rfl))]
      (go_simp; go_at_call 10; refine (jn_post t tn (.slice pa ps.length pc) ps _ (HE.out.below BR.out.drew) (plays_jn (MR.out.below ((Below.refl _ _).drew)) TR.out (by omega)) (by omega) (RX.out.below BR.out.drew) S4 s1 PS.out).mono ?_; rintro e w4 ⟨rfl, hm, ht⟩; have M4 := Lib.hid hm; have T4 : Hid (Turned b1 wr w4) := (Turned.of_below ((Below.refl _ _).drew) MR.out.now.isM).trans ht; have B4 : Hid (Below w.heap.size w w4) := BR.out.trans (T4.out.below BR.out.size HP.out.2.1); clear hm ht)
      refine hK.out _ _ ?_ (fun hHeld => ?_)
      · (try dsimp only)
        exact ⟨T4.out.cell YS.out.1, T4.out.cell YS.out.2.1, T4.out.cell YS.out.2.2⟩
      clear hK K
      (try simp only [Act.put, List.setIfInBounds_toArray, List.set_cons_zero, List.set_cons_succ])
      refine Plan.start (plan := [18, 19, 20, 21, 22]) (fuel := 0) (by decide +kernel) (by assumption) ?_
      refine Plan.free (i := 18) (ds := some 47) (v := ?_) rfl rfl rfl ?_ (fun _ _ _ h => h) ?_
      rotate_left
      · (intro w hSw; (try dsimp only at hSw); go_simp; first | done | with_reducible rfl)
      (try simp only [Act.put, List.setIfInBounds_toArray, List.set_cons_zero, List.set_cons_succ])
      refine Plan.free (i := 19) (ds := some 66) (v := ?_) rfl rfl rfl ?_ (fun _ _ _ h => h) ?_
      rotate_left
      · (intro w hSw; (try dsimp only at hSw); go_simp; first | done | with_reducible rfl)
      (try simp only [Act.put, List.setIfInBounds_toArray, List.set_cons_zero, List.set_cons_succ])
      refine Plan.free (i := 20) (ds := some 67) (v := ?_) rfl rfl rfl ?_ (fun _ _ _ h => h) ?_
      rotate_left
      · (intro w hSw; (try dsimp only at hSw); go_simp; first | done | with_reducible rfl)
      (try simp only [Act.put, List.setIfInBounds_toArray, List.set_cons_zero, List.set_cons_succ])
      refine Plan.free (i := 21) (ds := some 11) (v := ?_) rfl rfl rfl ?_ (fun _ _ _ h => h) ?_
      rotate_left
      · (intro w hSw; (try dsimp only at hSw); go_simp; first | done | with_reducible rfl)
      (try simp only [Act.put, List.setIfInBounds_toArray, List.set_cons_zero, List.set_cons_succ])
      refine Plan.free (i := 22) (ds := some 12) (v := ?_) rfl rfl rfl ?_ (fun _ _ _ h => h) ?_
      rotate_left
      · (intro w hSw; (try dsimp only at hSw); go_simp; first | done | with_reducible rfl)
      (try simp only [Act.put, List.setIfInBounds_toArray, List.set_cons_zero, List.set_cons_succ])
      refine Plan.stop (fun hHeld => ?_)
      refine wpAnyH_done (by decide +kernel) ?_ _
      have J4 := Lib.hid (JR1.out.turned T4.out)
      have N4 := Lib.hid (T4.out.owns NR.out)
      have Y4 : Hid (w4.cell? ⟨g, o + i * 3, none⟩ = some (.int .i64 t) ∧ w4.cell? ⟨g, o + i * 3 + 1, none⟩ = some (.int .u32 tn) ∧ w4.cell? ⟨g, o + i * 3 + 2, none⟩ = some (.slice pa ps.length pc)) := ⟨T4.out.cell YS.out.1, T4.out.cell YS.out.2.1, T4.out.cell YS.out.2.2⟩
      have KS4 : Hid (∀ W, Below w4.heap.size w4 W → W.cell? ⟨g, o + i * 3, none⟩ = some (.int .i64 t) ∧ W.cell? ⟨g, o + i * 3 + 1, none⟩ = some (.int .u32 tn) ∧ W.cell? ⟨g, o + i * 3 + 2, none⟩ = some (.slice pa ps.length pc)) := fun W hb => ⟨stays hb Y4.out.1, stays hb Y4.out.2.1, stays hb Y4.out.2.2⟩
      have HIN : Hid (∀ q ∈ ps, Acct.inInt q.n) := fun q hq => (PS.out q hq).2
      have TL := Lib.hid (tied_len TR.out)
      have RP := Lib.hid (fun (W : World) (hb : Below w4.heap.size w4 W) => rpost_any t tn (.slice pa ps.length pc) ps W (J4.out.below hb) (by omega) TL.out ((RX.out.below B4.out).below hb) S4 PS.out)
      obtain ⟨r, hr⟩ : ∃ r, postO D t tn ps = r := ⟨_, rfl⟩
      obtain ⟨E, hE⟩ : ∃ E, rpE RL t ps = E := ⟨_, rfl⟩
      have HB := Lib.hid (fun (RL' : List Po) (h1 : E ≠ 0 → RL' = RL) (h2 : E = 0 → ∃ lv', RL' = RL ++ [⟨RL.length + 1, t, tn, ps, lv'⟩]) => plays_both TR.out (by omega) HT.out s1 HIN.out hr hE h1 h2)
      rw [hr] at M4 ⊢
      rw [hE] at RP
      clear hr hE KS YS
      go_upto_region 10 with fail
      refine wp_region_held_drew (S := (fun W => W.cell? ⟨g, o + i * 3, none⟩ = some (.int .i64 t) ∧ W.cell? ⟨g, o + i * 3 + 1, none⟩ = some (.int .u32 tn) ∧ W.cell? ⟨g, o + i * 3 + 2, none⟩ = some (.slice pa ps.length pc))) (by kernel_rfl) ?_ (fun hHeld => ?_)
      · (try dsimp only)
        exact KS4.out _ ((Below.refl _ _).drew)
      refine Plan.start (plan := [0, 1, 2, 3, 4, 5, 6, 7, 8, 9, 10, 11, 12, 13, 14, 15]) (fuel := 6) (by decide +kernel) (by assumption) ?_
      refine Plan.free (i := 0) (ds := some 69) (v := ?_) rfl rfl rfl ?_ (fun _ _ _ h => h) ?_
      rotate_left
      · (intro w hSw; (try dsimp only at hSw); go_simp; first | done | with_reducible rfl)
      (try simp only [Act.put, List.setIfInBounds_toArray, List.set_cons_zero, List.set_cons_succ])
      refine Plan.free (i := 1) (ds := some 70) (v := ?_) rfl rfl rfl ?_ (fun _ _ _ h => h) ?_
      rotate_left
      · (intro w hSw; (try dsimp only at hSw); go_simp; first | done | with_reducible rfl)
      (try simp only [Act.put, List.setIfInBounds_toArray, List.set_cons_zero, List.set_cons_succ])
      refine Plan.free (i := 2) (ds := some 71) (v := ?_) rfl rfl rfl ?_ (fun _ _ _ h => h) ?_
      rotate_left
      · (intro w hSw; (try dsimp only at hSw); go_simp; first | done | with_reducible rfl)
      (try simp only [Act.put, List.setIfInBounds_toArray, List.set_cons_zero, List.set_cons_succ])
      refine Plan.free (i := 3) (ds := some 72) (v := ?_) rfl rfl rfl ?_ (fun _ _ _ h => h) ?_
      rotate_left
      · (intro w hSw; (try dsimp only at hSw); go_simp; first | done | with_reducible rfl)
      (try simp only [Act.put, List.setIfInBounds_toArray, List.set_cons_zero, List.set_cons_succ])
      refine Plan.free (i := 4) (ds := some 73) (v := ?_) rfl rfl rfl ?_ (fun _ _ _ h => h) ?_
      rotate_left
      · (intro w hSw; (try dsimp only at hSw); go_simp; first | done | with_reducible rfl)
      (try simp only [Act.put, List.setIfInBounds_toArray, List.set_cons_zero, List.set_cons_succ])
      refine Plan.free (i := 5) (ds := some 74) (v := ?_) rfl rfl rfl ?_ (fun _ _ _ h => h) ?_
      rotate_left
      · (intro w hSw; (try dsimp only at hSw); go_simp; first | done | with_reducible rfl)
      (try simp only [Act.put, List.setIfInBounds_toArray, List.set_cons_zero, List.set_cons_succ])
      refine Plan.free (i := 6) (ds := some 75) (v := ?_) rfl rfl rfl ?_ (fun _ _ _ h => h) ?_
      rotate_left
      · (intro w hSw; (try dsimp only at hSw); go_simp; first | done | with_reducible rfl)
      (try simp only [Act.put, List.setIfInBounds_toArray, List.set_cons_zero, List.set_cons_succ])
      refine Plan.free (i := 7) (ds := some 76) (v := ?_) rfl rfl rfl ?_ (fun _ _ _ h => h) ?_
      rotate_left
      · (intro w hSw; (try dsimp only at hSw); go_simp; first | done | with_reducible rfl)
      (try simp only [Act.put, List.setIfInBounds_toArray, List.set_cons_zero, List.set_cons_succ])
      refine Plan.free (i := 8) (ds := some 77) (v := ?_) rfl rfl rfl ?_ (fun _ _ _ h => h) ?_
      rotate_left
      · (intro w hSw; (try dsimp only at hSw); go_simp; first | done | with_reducible rfl)
      (try simp only [Act.put, List.setIfInBounds_toArray, List.set_cons_zero, List.set_cons_succ])
      refine Plan.free (i := 9) (ds := some 78) (v := ?_) rfl rfl rfl ?_ (fun _ _ _ h => h) ?_
      rotate_left
      · (intro w hSw; (try dsimp only at hSw); go_simp; first | done | with_reducible rfl)
      (try simp only [Act.put, List.setIfInBounds_toArray, List.set_cons_zero, List.set_cons_succ])
      refine Plan.free (i := 10) (ds := some 79) (v := ?_) rfl rfl rfl ?_ (fun _ _ _ h => h) ?_
      rotate_left
      · (intro w hSw; (try dsimp only at hSw); go_simp; first | done | with_reducible rfl)
      (try simp only [Act.put, List.setIfInBounds_toArray, List.set_cons_zero, List.set_cons_succ])
      refine Plan.free (i := 11) (ds := some 80) (v := ?_) rfl rfl rfl ?_ (fun _ _ _ h => h) ?_
      rotate_left
      · (intro w hSw; (try dsimp only at hSw); go_simp; first | done | with_reducible rfl)
      (try simp only [Act.put, List.setIfInBounds_toArray, List.set_cons_zero, List.set_cons_succ])
      refine Plan.free (i := 12) (ds := some 81) (v := ?_) rfl rfl rfl ?_ (fun _ _ _ h => h) ?_
      rotate_left
      · (intro w hSw; (try dsimp only at hSw); go_simp; first | done | with_reducible rfl)
      (try simp only [Act.put, List.setIfInBounds_toArray, List.set_cons_zero, List.set_cons_succ])
      refine Plan.free (i := 13) (ds := some 82) (v := ?_) rfl rfl rfl ?_ (fun _ _ _ h => h) ?_
      rotate_left
      · (intro w hSw; (try dsimp only at hSw); go_simp; first | done | with_reducible rfl)
      (try simp only [Act.put, List.setIfInBounds_toArray, List.set_cons_zero, List.set_cons_succ])
      refine Plan.free (i := 14) (ds := some 83) (v := ?_) rfl rfl rfl ?_ (fun _ _ _ h => h) ?_
      rotate_left
      · (intro w hSw; (try dsimp only at hSw); go_simp; first | done | with_reducible rfl)
      (try simp only [Act.put, List.setIfInBounds_toArray, List.set_cons_zero, List.set_cons_succ])
      refine Plan.free (i := 15) (ds := some 84) (v := ?_) rfl rfl rfl ?_ (fun _ _ _ h => h) ?_
      rotate_left
      · (intro w hSw; (try dsimp only at hSw); go_simp; first | done | with_reducible rfl)
      (try simp only [Act.put, List.setIfInBounds_toArray, List.set_cons_zero, List.set_cons_succ])
      refine Plan.stop (fun hHeld => ?_)
      refine wpAnyH_ready (rs := [16]) (by decide +kernel) (by simp) ?_
      refine AllReadyH.cons (o := _) rfl ?_ AllReadyH.nil
      intro K hK
      rw [if_pos (wanted_none (by rfl))]
      (go_simp; go_at_call 11; refine (RP.out _ ((Below.refl _ _).drew)).mono ?_; rintro e w5 ⟨rv', RL', rfl, h1, h2, hj, hbs⟩; obtain ⟨k1, k2, k3, k4⟩ := HB.out RL' h1 h2; have J5 := Lib.hid hj; have M5 := Lib.hid (hbs.mem (M4.out.below ((Below.refl _ _).drew))); have N5 := Lib.hid (hbs.own (by decide) (by decide) (ownsRow_below N4.out ((Below.refl _ _).drew))); have B5 : Hid (Below w.heap.size w w5) := (B4.out.drew.trans ((hbs.below (Nat.le_of_lt (lt_of_block J4.out.box))).mono S1.out)); have Y5 : Hid (RowsIn w5 (.slice (some ⟨g, o, none⟩) L.length c) 3 (L.map Ac.cells)) := HL.out.below B5.out; have T5 := Lib.hid k3; have K1 := Lib.hid k1; have K2 := Lib.hid k2; have K4 := Lib.hid k4; clear h1 h2 hj hbs k1 k2 k3 k4 HB RP)
      refine hK.out _ _ ?_ (fun hHeld => ?_)
      · (try dsimp only)
        exact ac_at Y5.out HI.out
      clear hK K
      (try simp only [Act.put, List.setIfInBounds_toArray, List.set_cons_zero, List.set_cons_succ])
      refine Plan.start (plan := [17, 18, 19, 20, 21]) (fuel := 0) (by decide +kernel) (by assumption) ?_
      refine Plan.free (i := 17) (ds := some 68) (v := ?_) rfl rfl rfl ?_ (fun _ _ _ h => h) ?_
      rotate_left
      · (intro w hSw; (try dsimp only at hSw); go_simp; first | done | with_reducible rfl)
      (try simp only [Act.put, List.setIfInBounds_toArray, List.set_cons_zero, List.set_cons_succ])
      refine Plan.free (i := 18) (ds := some 86) (v := ?_) rfl rfl rfl ?_ (fun _ _ _ h => h) ?_
      rotate_left
      · (intro w hSw; (try dsimp only at hSw); go_simp; first | done | with_reducible rfl)
      (try simp only [Act.put, List.setIfInBounds_toArray, List.set_cons_zero, List.set_cons_succ])
      refine Plan.free (i := 19) (ds := some 87) (v := ?_) rfl rfl rfl ?_ (fun _ _ _ h => h) ?_
      rotate_left
      · (intro w hSw; (try dsimp only at hSw); go_simp; first | done | with_reducible rfl)
      (try simp only [Act.put, List.setIfInBounds_toArray, List.set_cons_zero, List.set_cons_succ])
      refine Plan.free (i := 20) (ds := some 13) (v := ?_) rfl rfl rfl ?_ (fun _ _ _ h => h) ?_
      rotate_left
      · (intro w hSw; (try dsimp only at hSw); go_simp; first | done | with_reducible rfl)
      (try simp only [Act.put, List.setIfInBounds_toArray, List.set_cons_zero, List.set_cons_succ])
      refine Plan.free (i := 21) (ds := some 14) (v := ?_) rfl rfl rfl ?_ (fun _ _ _ h => h) ?_
      rotate_left
      · (intro w hSw; (try dsimp only at hSw); go_simp; first | done | with_reducible rfl)
      (try simp only [Act.put, List.setIfInBounds_toArray, List.set_cons_zero, List.set_cons_succ])
      refine Plan.stop (fun hHeld => ?_)
      refine wpAnyH_done (by decide +kernel) ?_ _
      rw [K1.out, K2.out]
      generalize (if E = 0 then ((RL.length : Int) + 1) else 0) = q at *
      generalize r.2.2 = D' at *
      clear K1 K2 M4 N4 J4 T4 KS4 Y4 B4 TR MR JR1 NR BR JS TL
      go_wp2_with fail
      go_loopw [9, 15] (fun mv kv wv => ∃ (k : Nat) (N' : List ByteArray), k ≤ ps.length ∧ N'.length ≤ N.length + k ∧ kv = .int .i64 k ∧ Hid (MemS wv p b1 b2 (-1) (n + 42) D' (.map [])) ∧ Hid (JR jp wv jp rv' RL') ∧ Hid (wv.ownsRow jp 9 1 mv N'.length (N'.map Value.string)) ∧ Hid (∀ s ∈ N', s.size ≤ 100) ∧ Hid (Below w.heap.size w wv)) (fun _ kv _ => ps.length - (intOf kv).toNat)
      case atStart => exact ⟨0, N, by omega, by omega, rfl, M5.out, J5.out, N5.out, SR.out, B5.out⟩
      case round =>
        obtain ⟨k, N', hk, hN', rfl, MV, JV, NV, SV, BV⟩ := hrel
        obtain ⟨-, -, y2⟩ := ac_at (HL.out.below BV.out) HI.out
        dsimp only at y2
        by_cases hkl : k < ps.length
        · have hzk : (k : Int) < (ps.length : Int) := by omega
          obtain ⟨g', o', rfl, x0, -⟩ := pt_cells (RX.out.below (BV.out)) k hkl
          have hsk := (PS.out ps[k] (List.getElem_mem hkl)).1
          generalize ps[k] = pk at *
          obtain ⟨s, n1⟩ := pk
          dsimp only at x0 hsk
          have SV2 : Hid (∀ x ∈ N' ++ [s], x.size ≤ 100) := fun x hx => by
            rcases List.mem_append.1 hx with h | h
            · exact SV.out x h
            · simp at h; subst h; exact hsk
          obtain ⟨ma, mc, rfl⟩ := jown_form NV.out
          have NA := Lib.hid (NV.out.alloc (.cells #[.string s] 9))
          have MA := Lib.hid (MV.out.below (below_alloc wr (.cells #[.string s] 9)))
          have JA := Lib.hid (JV.out.below (below_alloc wr (.cells #[.string s] 9)))
          have BA : Hid (Below w.heap.size w (wr.alloc (.cells #[.string s] 9))) := onward (below_alloc _ _) BV.out
          have hjw := lt_of_block JV.out.box
          clear hsk MV JV NV SV
          go_wp2_with (at_builtin; refine wpList_append_own _ rfl (.tmp 106) (.tmp 116) 31 rfl jp 9 i0 _ 1 16 Tryz.underlying31 hi hz0 hz1 hz2 rfl (by decide) _ _ _ rfl NA.out ⟨wr.heap.size, 0, none⟩ 1 1 [.string s] rfl rfl (new_cells _ _ _) (one_str s) (by unfold maxLen; omega) (by omega) (by simp; omega) ?_)
          intro v6 w6 hown hgr _
          have M6 := Lib.hid (strg_mem hgr NA.out MA.out)
          have J6 := Lib.hid (strg_jr hgr NA.out JA.out)
          have N6 : Hid (w6.ownsRow jp 9 1 v6 (N' ++ [s]).length ((N' ++ [s]).map Value.string)) := by
            show World.ownsRow _ _ _ _ _ _ _
            rw [List.length_append, List.map_append]
            exact hown
          have B6 : Hid (Below w.heap.size w w6) := BA.out.grown hgr BA.out.size (fun k hk => Nat.le_trans S1.out (NA.out.lt k hk).1)
          clear hown hgr NA MA JA BA hjw x0 y2
          go_wp2_with fail
          go_roundw
          case rel => exact ⟨k + 1, N' ++ [s], by omega, by rw [List.length_append, List.length_singleton]; omega, by go_num, M6.out, J6.out, N6.out, SV2.out, B6.out⟩
          case measure => simp [intOf]; omega
        · obtain rfl : k = ps.length := by omega
          have dk : decide ((ps.length : Int) < (ps.length : Int)) = false := decide_eq_false (by omega)
          have RL1 := K4.out
          clear K4
          go_wp2_with fail
          go_roundw
          case rel => exact ⟨i + 1, n + 42, D', RL', rv', N', by omega, by omega, by omega, by omega, by go_num, T5.out, MV.out, JV.out, NV.out, SV.out, BV.out⟩
          case measure => simp [intOf]; omega
    · obtain rfl : i = L.length := by omega
      have dl : decide ((L.length : Int) < (L.length : Int)) = false := decide_eq_false (by omega)
      obtain ⟨na, nc, rfl⟩ := jown_form NR.out
      obtain ⟨ra, rc, rfl⟩ := jown_form JR1.out.list
      have W4 := Lib.hid (Below.refl wr.heap.size wr)
      have H61 := H60.out
      have TL := Lib.hid (tied_len TR.out)
      have BXX := Lib.hid (fun (s : ByteArray) (hs : s.size ≤ 100) (W : World) (hb : Below wr.heap.size wr W) => bal_any s W (HE.out.below (onward hb BR.out)) (MR.out.below hb) (by omega))
      have RXX := Lib.hid (fun (s : ByteArray) (W : World) (hb : Below wr.heap.size wr W) => rbal_any s W (JR1.out.below hb) (by omega) TL.out)
      obtain ⟨w4, hw4⟩ : ∃ W, W = wr := ⟨_, rfl⟩
      rw [← hw4] at MR JR1 NR BR W4 BXX RXX ⊢
      clear hw4
      go_wp2_with fail
      go_loopw [16] (fun iv wr => ∃ i : Nat, i ≤ N.length ∧ iv = .int .i64 i ∧ Hid (Below w4.heap.size w4 wr)) (fun iv _ => N.length - (intOf iv).toNat)
      case atStart => exact ⟨0, by omega, rfl, W4.out⟩
      case round =>
        obtain ⟨i, hi2, rfl, BW⟩ := hrel
        by_cases hl2 : i < N.length
        · have hz : (i : Int) < (N.length : Int) := by omega
          obtain ⟨g, -, rfl, hcl⟩ := str_cell NR.out i hl2
          have hsz := SR.out N[i] (List.getElem_mem hl2)
          generalize N[i] = s at *
          have y0 := hcl wr BW.out
          have HC := Lib.hid hcl
          have PX := Lib.hid (rparseB s wr (by omega))
          have BX := Lib.hid (BXX.out s hsz)
          have RXs := Lib.hid (RXX.out s)
          clear hcl
          go_wp2_with fail
          refine PX.out.mono ?_
          rintro e w5 ⟨x, xv, rfl, hb⟩
          have B5 := Lib.hid (onward hb BW.out)
          have y5 := HC.out _ B5.out
          clear hb PX y0
          go_wp2_with fail
          refine (BX.out _ B5.out).mono ?_
          rintro e w6 ⟨rfl, hb⟩
          have B6 := Lib.hid (onward hb B5.out)
          have y6 := HC.out _ B6.out
          clear hb BX y5
          cases hac : accB s
          · have hbv : balV D s = (0, 1) := by unfold balV; rw [if_neg (by rw [hac]; decide)]
            rw [hbv]
            dsimp only
            clear hbv hac
            go_wp2_with fail
            go_roundw
            case rel => exact ⟨i + 1, by omega, by go_num, B6.out⟩
            case measure => simp [intOf]; omega
          · have hbv : balV D s = (ram RL s, 0) := tied_bal TR.out hac
            have hwr := wrap_bal TR.out s
            rw [hwr] at RXs
            rw [hbv]
            dsimp only
            generalize ram RL s = x at *
            clear hbv hac hwr
            go_wp2_with fail
            refine (RXs.out _ B6.out).mono ?_
            rintro e w7 ⟨rfl, hb⟩
            have B7 := Lib.hid (onward hb B6.out)
            clear hb RXs
            go_wp2_with fail
            go_roundw
            case rel => exact ⟨i + 1, by omega, by go_num, B7.out⟩
            case measure => simp [intOf]; omega
        · obtain rfl : i = N.length := by omega
          have dn : decide ((N.length : Int) < (N.length : Int)) = false := decide_eq_false (by omega)
          have W5 := Lib.hid BW.out
          clear BW
          obtain ⟨w5, hw5⟩ : ∃ W, W = wr := ⟨_, rfl⟩
          rw [← hw5] at W5 ⊢
          clear hw5
          have J0 := Lib.hid JR1.out.box
          have RW := Lib.hid JR1.out.rows
          go_wp2_with fail
          go_loopw [22] (fun iv wr => ∃ i : Nat, i ≤ RL.length ∧ iv = .int .i64 i ∧ Hid (Below w4.heap.size w4 wr)) (fun iv _ => RL.length - (intOf iv).toNat)
          case atStart => exact ⟨0, by omega, rfl, W5.out⟩
          case round =>
            obtain ⟨i, hi3, rfl, BW⟩ := hrel
            have j0 : wr.cell? ⟨jp, 0, none⟩ = some (.slice ra RL.length rc) := by rw [cell_of_row (stays_block BW.out J0.out)]; rfl
            by_cases hl3 : i < RL.length
            · have hz : (i : Int) < (RL.length : Int) := by omega
              obtain ⟨g, o, rfl, -, -, -, -⟩ := po_cells RW.out i hl3
              have KP : Hid (∀ W, Below w4.heap.size w4 W → W.cell? ⟨g, o + i * 4, none⟩ = some (.int .u64 RL[i].s) ∧ W.cell? ⟨g, o + i * 4 + 1, none⟩ = some (.int .i64 RL[i].t) ∧ W.cell? ⟨g, o + i * 4 + 2, none⟩ = some (.int .u32 RL[i].ten) ∧ W.cell? ⟨g, o + i * 4 + 3, none⟩ = some RL[i].lv) := fun W hb => by
                obtain ⟨g', o', e', h⟩ := po_cells (RW.out.below hb) i hl3
                injection e' with e'
                injection e' with e1 e2 _
                subst e1 e2
                exact h
              obtain ⟨k1, k2, k3, k4, k5⟩ := TR.out.rows i RL[i] (List.getElem?_eq_getElem hl3)
              have k6 := JR1.out.parts _ (List.getElem_mem hl3)
              generalize RL[i] = po at *
              obtain ⟨ps, pt, pten, PL, plv⟩ := po
              dsimp only at k1 k2 k3 k4 k5 k6 KP
              subst k1
              obtain ⟨pla, plc, rfl⟩ := jown_form k6
              have PR := Lib.hid k6.rows
              have pok := posts_yes k3
              have GX : Hid (Calls Tryz.prog 15 #[memI p, .int .u64 ((i : Int) + 1)] wr (PostRead (i + 1) pt pten PL wr)) := gets_any wr (MR.out.below BW.out) (i + 1) (by omega) k2 k3 (by omega) k4 k5 (by omega) (fun q hq => ⟨(pok.2.2.2.2.2 q hq).1, (pok.2.2.2.2.2 q hq).2.1, by have := pok.2.2.2.2.2 q hq; unfold Acct.inInt; omega⟩)
              have hP40 : Hid (PL.length ≤ 40) := by have := pok.2.2.2.2.1; show _ ≤ _; omega
              have hwu := wr_ui (n := i) (by omega)
              clear k2 k3 k4 k5 k6 pok
              go_wp2_with fail
              refine GX.out.mono ?_
              rintro e w6 ⟨glv, rfl, ho, hb⟩
              obtain ⟨ga, gc, rfl⟩ := ownP_slice ho rfl
              have GR := Lib.hid ho.rows
              have B6 := Lib.hid (onward hb BW.out)
              clear ho hb GX hwu j0
              obtain ⟨w7, hw7⟩ : ∃ W, W = w6.alloc (.cells #[.int .u64 ((i : Int) + 1), .int .i64 pt, .int .u32 pten, .slice ga PL.length gc] 49) := ⟨_, rfl⟩
              have h7 : w7.heap[w6.heap.size]? = some (.cells #[.int .u64 ((i : Int) + 1), .int .i64 pt, .int .u32 pten, .slice ga PL.length gc] 49 (0, 0)) := by rw [hw7]; exact alloc_block _ _ _ _
              have hb7 : Below w6.heap.size w6 w7 := by rw [hw7]; exact below_alloc _ _
              have H7 := Lib.hid h7
              have B7 := Lib.hid (onward hb7 B6.out)
              have GR7 := Lib.hid (GR.out.below hb7)
              have PR7 := Lib.hid (PR.out.below B7.out)
              have KX : Hid (∀ W, Below w7.heap.size w7 W → (W.cell? ⟨w6.heap.size, 0, none⟩ = some (.int .u64 ((i : Int) + 1)) ∧ W.cell? ⟨w6.heap.size, 1, none⟩ = some (.int .i64 pt) ∧ W.cell? ⟨w6.heap.size, 2, none⟩ = some (.int .u32 pten) ∧ W.cell? ⟨w6.heap.size, 3, none⟩ = some (.slice ga PL.length gc)) ∧ W.cell? ⟨jp, 0, none⟩ = some (.slice (some ⟨g, o, none⟩) RL.length rc) ∧ W.cell? ⟨g, o + i * 4, none⟩ = some (.int .u64 ((i : Int) + 1)) ∧ W.cell? ⟨g, o + i * 4 + 1, none⟩ = some (.int .i64 pt) ∧ W.cell? ⟨g, o + i * 4 + 2, none⟩ = some (.int .u32 pten) ∧ W.cell? ⟨g, o + i * 4 + 3, none⟩ = some (.slice pla PL.length plc)) := fun W hb => ⟨post_cells (stays_block hb H7.out), by rw [cell_of_row (stays_block (onward hb B7.out) J0.out)]; rfl, KP.out W (onward hb B7.out)⟩
              have SPX := Lib.hid (fun (W : World) (hb : Below w7.heap.size w7 W) => samep_any (s := i + 1) (t := pt) (ten := pten) (.slice ga PL.length gc) (.slice pla PL.length plc) PL W (GR7.out.below hb) (PR7.out.below hb) hP40.out)
              clear h7 hb7 GR GR7 PR7 KP
              go_upto_region 31 with fail
              rw [← hw7]
              clear hw7
              refine wp_region_held_drew (S := (fun W => (W.cell? ⟨w6.heap.size, 0, none⟩ = some (.int .u64 ((i : Int) + 1)) ∧ W.cell? ⟨w6.heap.size, 1, none⟩ = some (.int .i64 pt) ∧ W.cell? ⟨w6.heap.size, 2, none⟩ = some (.int .u32 pten) ∧ W.cell? ⟨w6.heap.size, 3, none⟩ = some (.slice ga PL.length gc)) ∧ W.cell? ⟨jp, 0, none⟩ = some (.slice (some ⟨g, o, none⟩) RL.length rc) ∧ W.cell? ⟨g, o + i * 4, none⟩ = some (.int .u64 ((i : Int) + 1)) ∧ W.cell? ⟨g, o + i * 4 + 1, none⟩ = some (.int .i64 pt) ∧ W.cell? ⟨g, o + i * 4 + 2, none⟩ = some (.int .u32 pten) ∧ W.cell? ⟨g, o + i * 4 + 3, none⟩ = some (.slice pla PL.length plc))) (by kernel_rfl) ?_ (fun hHeld => ?_)
              · (try dsimp only)
                exact KX.out _ ((Below.refl _ _).drew)
              refine Plan.start (plan := [0, 1, 2, 3, 4, 5, 6, 7, 8, 9, 10]) (fuel := 3) (by decide +kernel) (by assumption) ?_
              refine Plan.free (i := 0) (ds := some 181) (v := ?_) rfl rfl rfl ?_ (fun _ _ _ h => h) ?_
              rotate_left
              · (intro w hSw; (try dsimp only at hSw); go_simp; first | done | with_reducible rfl)
              (try simp only [Act.put, List.setIfInBounds_toArray, List.set_cons_zero, List.set_cons_succ])
              refine Plan.free (i := 1) (ds := some 182) (v := ?_) rfl rfl rfl ?_ (fun _ _ _ h => h) ?_
              rotate_left
              · (intro w hSw; (try dsimp only at hSw); go_simp; first | done | with_reducible rfl)
              (try simp only [Act.put, List.setIfInBounds_toArray, List.set_cons_zero, List.set_cons_succ])
              refine Plan.free (i := 2) (ds := some 183) (v := ?_) rfl rfl rfl ?_ (fun _ _ _ h => h) ?_
              rotate_left
              · (intro w hSw; (try dsimp only at hSw); go_simp; first | done | with_reducible rfl)
              (try simp only [Act.put, List.setIfInBounds_toArray, List.set_cons_zero, List.set_cons_succ])
              refine Plan.on (i := 3) (ds := some 184) (j := 2) (d := 183) (v := ?_) rfl rfl rfl rfl rfl rfl ?_ (fun _ _ _ h => h) ?_
              rotate_left
              · (intro w hSw; (try dsimp only at hSw); go_simp; first | done | with_reducible rfl)
              (try simp only [Act.put, List.setIfInBounds_toArray, List.set_cons_zero, List.set_cons_succ])
              refine Plan.on (i := 4) (ds := some 185) (j := 2) (d := 183) (v := ?_) rfl rfl rfl rfl rfl rfl ?_ (fun _ _ _ h => h) ?_
              rotate_left
              · (intro w hSw; (try dsimp only at hSw); go_simp; first | done | with_reducible rfl)
              (try simp only [Act.put, List.setIfInBounds_toArray, List.set_cons_zero, List.set_cons_succ])
              refine Plan.on (i := 5) (ds := some 186) (j := 2) (d := 183) (v := ?_) rfl rfl rfl rfl rfl rfl ?_ (fun _ _ _ h => h) ?_
              rotate_left
              · (intro w hSw; (try dsimp only at hSw); go_simp; first | done | with_reducible rfl)
              (try simp only [Act.put, List.setIfInBounds_toArray, List.set_cons_zero, List.set_cons_succ])
              refine Plan.on (i := 6) (ds := some 187) (j := 2) (d := 183) (v := ?_) rfl rfl rfl rfl rfl rfl ?_ (fun _ _ _ h => h) ?_
              rotate_left
              · (intro w hSw; (try dsimp only at hSw); go_simp; first | done | with_reducible rfl)
              (try simp only [Act.put, List.setIfInBounds_toArray, List.set_cons_zero, List.set_cons_succ])
              refine Plan.on (i := 7) (ds := some 188) (j := 2) (d := 183) (v := ?_) rfl rfl rfl rfl rfl rfl ?_ (fun _ _ _ h => h) ?_
              rotate_left
              · (intro w hSw; (try dsimp only at hSw); go_simp; first | done | with_reducible rfl)
              (try simp only [Act.put, List.setIfInBounds_toArray, List.set_cons_zero, List.set_cons_succ])
              refine Plan.on (i := 8) (ds := some 189) (j := 2) (d := 183) (v := ?_) rfl rfl rfl rfl rfl rfl ?_ (fun _ _ _ h => h) ?_
              rotate_left
              · (intro w hSw; (try dsimp only at hSw); go_simp; first | done | with_reducible rfl)
              (try simp only [Act.put, List.setIfInBounds_toArray, List.set_cons_zero, List.set_cons_succ])
              refine Plan.on (i := 9) (ds := some 190) (j := 2) (d := 183) (v := ?_) rfl rfl rfl rfl rfl rfl ?_ (fun _ _ _ h => h) ?_
              rotate_left
              · (intro w hSw; (try dsimp only at hSw); go_simp; first | done | with_reducible rfl)
              (try simp only [Act.put, List.setIfInBounds_toArray, List.set_cons_zero, List.set_cons_succ])
              refine Plan.on (i := 10) (ds := some 191) (j := 2) (d := 183) (v := ?_) rfl rfl rfl rfl rfl rfl ?_ (fun _ _ _ h => h) ?_
              rotate_left
              · (intro w hSw; (try dsimp only at hSw); go_simp; first | done | with_reducible rfl)
              (try simp only [Act.put, List.setIfInBounds_toArray, List.set_cons_zero, List.set_cons_succ])
              refine Plan.stop (fun hHeld => ?_)
              refine wpAnyH_ready (rs := [11]) (by decide +kernel) (by simp) ?_
              refine AllReadyH.cons (o := _) rfl ?_ AllReadyH.nil
              intro K hK
              rw [if_pos (wanted_on (j := 2) (d := 183) (by rfl) (by rfl) (by rfl) (by rfl))]
              (go_simp; go_at_call 16; refine (SPX.out _ ((Below.refl _ _).drew)).mono ?_; rintro e w8 ⟨rfl, hb⟩; have B8r : Hid (Below w7.heap.size w7 w8) := onward hb ((Below.refl _ _).drew); have B8 : Hid (Below w4.heap.size w4 w8) := onward B8r.out B7.out; clear hb)
              refine hK.out _ _ ?_ (fun hHeld => ?_)
              · (try dsimp only)
                exact KX.out _ B8r.out
              clear hK K
              (try simp only [Act.put, List.setIfInBounds_toArray, List.set_cons_zero, List.set_cons_succ])
              refine Plan.start (plan := [12, 13]) (fuel := 0) (by decide +kernel) (by assumption) ?_
              refine Plan.on (i := 12) (ds := some 193) (j := 2) (d := 183) (v := ?_) rfl rfl rfl rfl rfl rfl ?_ (fun _ _ _ h => h) ?_
              rotate_left
              · (intro w hSw; (try dsimp only at hSw); go_simp; first | done | with_reducible rfl)
              (try simp only [Act.put, List.setIfInBounds_toArray, List.set_cons_zero, List.set_cons_succ])
              refine Plan.free (i := 13) (ds := some 194) (v := ?_) rfl rfl rfl ?_ (fun _ _ _ h => h) ?_
              rotate_left
              · (intro w hSw; (try dsimp only at hSw); go_simp; first | done | with_reducible rfl)
              (try simp only [Act.put, List.setIfInBounds_toArray, List.set_cons_zero, List.set_cons_succ])
              refine Plan.stop (fun hHeld => ?_)
              refine wpAnyH_done (by decide +kernel) ?_ _
              clear SPX KX H7
              go_wp2_with fail
              go_roundw
              case rel => exact ⟨i + 1, by omega, by go_num, B8.out⟩
              case measure => simp [intOf]; omega
            · obtain rfl : i = RL.length := by omega
              have dr : decide ((RL.length : Int) < (RL.length : Int)) = false := decide_eq_false (by omega)
              have HLN := Lib.hid (last_any wr (MR.out.below BW.out))
              have hnn : numAt D [113] = ((RL.length : Int), 0) := tied_num TR.out
              rw [hnn] at HLN
              have hwu : IntKind.u64.wrap (RL.length : Int) = (RL.length : Int) := wr_u (by omega)
              have hwu2 : IntKind.u64.wrap ((RL.length : Int) + 1) = (RL.length : Int) + 1 := wr_u1 (by omega)
              clear hnn
              go_wp2_with fail
              refine HLN.out.mono ?_
              rintro e w6 ⟨rfl, hb⟩
              have B6 := Lib.hid (onward hb BW.out)
              have j6 : w6.cell? ⟨jp, 0, none⟩ = some (.slice ra RL.length rc) := by rw [cell_of_row (stays_block B6.out J0.out)]; rfl
              clear hb HLN j0
              obtain ⟨x, hx, hx2, hx3⟩ : ∃ x : Nat, (max (sq : Int) ((RL.length : Int) + 1)) = (x : Int) ∧ RL.length < x ∧ x < 18446744073709551616 := ⟨max sq (RL.length + 1), by omega, by omega, by have := HSQ.out; omega⟩
              have GX := Lib.hid (getn_any w6 (MR.out.below B6.out) x hx3 (TR.out.none x hx2 hx3))
              have PX := Lib.hid (fun (W : World) (hb : Below w6.heap.size w6 W) => posts17_any W (HE.out.below (onward hb (onward B6.out BR.out))))
              clear hx2 hx3
              go_wp2_with fail
              refine GX.out.mono ?_
              rintro e w7 ⟨rfl, hb⟩
              have B7 := Lib.hid hb
              clear hb GX hx
              go_wp2_with fail
              refine (PX.out _ (onward (below_alloc _ _) B7.out)).mono ?_
              rintro e w8 ⟨rfl, hb⟩
              have B8 : Hid (Below w.heap.size w w8) := onward hb (onward (below_alloc _ _) (onward B7.out (onward B6.out BR.out)))
              clear hb PX
              go_wp2_with fail
              go_ret
              exact ⟨rfl, B8.out⟩
end Go.Proofs.YtecbnhmnhcpcmaaGreatDoor
