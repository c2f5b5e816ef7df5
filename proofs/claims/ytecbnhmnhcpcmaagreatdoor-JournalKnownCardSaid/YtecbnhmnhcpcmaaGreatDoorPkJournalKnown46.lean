/- The walk of the law JournalKnown. -/
import Derived.Test.YtecbnhmnhcpcmaaGreatDoorPkJournalKnown43
import Derived.Test.YtecbnhmnhcpcmaaGreatDoorPkJournalKnown44
import Derived.Test.YtecbnhmnhcpcmaaGreatDoorPkJournalKnown45
/-! The walk of the law JournalKnown. -/
namespace Go.Proofs.YtecbnhmnhcpcmaaGreatDoor
open Go.RowKit Go.WideMaps Go.Maps
set_option linter.unusedVariables false
set_option linter.unusedSimpArgs false
set_option maxRecDepth 100000
/-- two parts in a block of their own -/
theorem rows2 {w : World} {g : Nat} {p q : Pt} (h : w.heap[g]? = some (.cells #[.string p.a, .int .i64 p.n, .string q.a, .int .i64 q.n] 41 (0, 0))) : RowsIn w (.slice (some ⟨g, 0, none⟩) 2 2) 2 ([p, q].map Pt.cells) :=
  ⟨_, 2, rfl, Nat.le_refl _, by unfold maxLen; omega, fun i hi => ⟨g, 0, rfl, lt_of_block h, fun j hj => by
    rw [cell_of_row h]
    have hi2 : i = 0 ∨ i = 1 := by simp at hi; omega
    have hj2 : j = 0 ∨ j = 1 := by omega
    rcases hi2 with rfl | rfl <;> rcases hj2 with rfl | rfl <;> rfl⟩⟩
theorem rows1 {w : World} {g : Nat} {p : Pt} (h : w.heap[g]? = some (.cells #[.string p.a, .int .i64 p.n] 41 (0, 0))) : RowsIn w (.slice (some ⟨g, 0, none⟩) 1 1) 2 ([p].map Pt.cells) :=
  ⟨_, 1, rfl, Nat.le_refl _, by unfold maxLen; omega, fun i hi => ⟨g, 0, rfl, lt_of_block h, fun j hj => by
    rw [cell_of_row h]
    have hi2 : i = 0 := by simp at hi; omega
    have hj2 : j = 0 ∨ j = 1 := by omega
    subst hi2
    rcases hj2 with rfl | rfl <;> rfl⟩⟩
theorem rows0 (w : World) : RowsIn w (.slice none 0 0) 2 (([] : List Pt).map Pt.cells) := ⟨none, 0, rfl, Nat.le_refl _, Nat.zero_le _, fun i hi => by simp at hi⟩
/-- what a round of the bad ones needs -/
def BadAt (w : World) (v : Value) : Prop := ∃ L : List Pt, RowsIn w v 2 (L.map Pt.cells) ∧ L.length ≤ 40 ∧ (∀ q ∈ L, q.a.size ≤ 100 ∧ Acct.inInt q.n) ∧ ∀ D, postO D 0 1 L = (0, 1, D)
theorem BadAt.below {w w' : World} {v : Value} (h : BadAt w v) (hb : Below w.heap.size w w') : BadAt w' v := by
  obtain ⟨L, h1, h2⟩ := h
  exact ⟨L, h1.below hb, h2⟩
theorem two_ok {a b : ByteArray} {m n : Int} (ha : a.size ≤ 100) (hb : b.size ≤ 100) (hm : Acct.inInt m) (hn : Acct.inInt n) : ∀ q ∈ ([⟨a, m⟩, ⟨b, n⟩] : List Pt), q.a.size ≤ 100 ∧ Acct.inInt q.n := by
  intro q hq
  simp at hq
  rcases hq with rfl | rfl
  · exact ⟨ha, hm⟩
  · exact ⟨hb, hn⟩
theorem BadAt.turned {b : Nat} {w w' : World} {v : Value} (h : BadAt w v) (ht : Turned b w w') : BadAt w' v := by
  obtain ⟨L, h1, h2⟩ := h
  exact ⟨L, ht.rows h1 (pt_rows _), h2⟩
theorem no_ok : ∀ q ∈ ([] : List Pt), q.a.size ≤ 100 ∧ Acct.inInt q.n := fun q hq => by cases hq
theorem in64 {n : Int} (h : decide (-9223372036854775808 ≤ n ∧ n ≤ 9223372036854775807) = true) : Acct.inInt n := by unfold Acct.inInt; exact of_decide_eq_true h
set_option maxHeartbeats 2000000 in
theorem known17_any (w : World) (hE : EnvA w) : Calls Tryz.prog 7 #[] w fun e w' => e = .returned (.bool true) ∧ Below w.heap.size w w' := by
  have HE := Lib.hid hE
  clear hE
  go_enter Tryz.func7, Tryz.ntmps7
  go_wp2_with fail
  refine (new_any (-1) w).mono ?_
  rintro e w1 ⟨p, b1, b2, rfl, hm, hb, hp, hb1, hb2⟩
  have M1 : Hid (MemS w1 p b1 b2 (-1) 0 (.map []) (.map [])) := hm
  have B1 := Lib.hid hb
  have G1 := Lib.hid hb1
  clear hm hb hp hb1 hb2
  go_wp2_with fail
  obtain ⟨w2, hw2⟩ : ∃ W, W = w1.alloc (.cells #[.string kDue, .int .i64 1] 41) := ⟨_, rfl⟩
  rw [← hw2]
  have hb2 : Below w1.heap.size w1 w2 := by rw [hw2]; exact below_alloc _ _
  have X1 : Hid (BadAt w2 (.slice (some ⟨w1.heap.size, 0, none⟩) 1 1)) := ⟨kB1, rows1 (by rw [hw2]; exact alloc_block _ _ _ _), by decide, fun q hq => by simp at hq; subst hq; exact ⟨by decide, by unfold Acct.inInt; decide⟩, kb1⟩
  have B2 : Hid (Below w1.heap.size w1 w2) := hb2
  clear hw2 hb2
  refine (two_any kDue kDue 1 w2 (by decide) (by decide)).mono ?_
  rintro e w3 ⟨v2, rfl, hr, hb⟩
  obtain ⟨a2, c2, rfl⟩ := pt_form hr
  have X2 : Hid (BadAt w3 (.slice a2 2 c2)) := ⟨kB2, hr, by decide, two_ok (by decide) (by decide) (in64 (by decide)) (in64 (by decide)), kb2⟩
  have B3 : Hid (Below w2.heap.size w2 w3) := hb
  clear hr hb
  go_wp2_with fail
  refine (two_any kDue kCash 0 w3 (by decide) (by decide)).mono ?_
  rintro e w4 ⟨v3, rfl, hr, hb⟩
  obtain ⟨a3, c3, rfl⟩ := pt_form hr
  have X3 : Hid (BadAt w4 (.slice a3 2 c3)) := ⟨kB3, hr, by decide, two_ok (by decide) (by decide) (in64 (by decide)) (in64 (by decide)), kb3⟩
  have B4 : Hid (Below w3.heap.size w3 w4) := hb
  clear hr hb
  go_wp2_with fail
  refine (two_any kDUE kCash 1 w4 (by decide) (by decide)).mono ?_
  rintro e w5 ⟨v4, rfl, hr, hb⟩
  obtain ⟨a4, c4, rfl⟩ := pt_form hr
  have X4 : Hid (BadAt w5 (.slice a4 2 c4)) := ⟨kB4, hr, by decide, two_ok (by decide) (by decide) (in64 (by decide)) (in64 (by decide)), kb4⟩
  have B5 : Hid (Below w4.heap.size w4 w5) := hb
  clear hr hb
  go_wp2_with fail
  refine (two_any kDue kCash 4611686018427387905 w5 (by decide) (by decide)).mono ?_
  rintro e w6 ⟨v5, rfl, hr, hb⟩
  obtain ⟨a5, c5, rfl⟩ := pt_form hr
  have X5 : Hid (BadAt w6 (.slice a5 2 c5)) := ⟨kB5, hr, by decide, two_ok (by decide) (by decide) (in64 (by decide)) (in64 (by decide)), kb5⟩
  have B6 : Hid (Below w5.heap.size w5 w6) := hb
  clear hr hb
  obtain ⟨w7, hw7⟩ : ∃ W, W = w6.alloc (.cells #[.slice none 0 0, .slice (some ⟨w1.heap.size, 0, none⟩) 1 1, .slice a2 2 c2, .slice a3 2 c3, .slice a4 2 c4, .slice a5 2 c5] 36) := ⟨_, rfl⟩
  have hb7 : Below w6.heap.size w6 w7 := by rw [hw7]; exact below_alloc _ _
  have O7 : w7.heap[w6.heap.size]? = some (.cells #[.slice none 0 0, .slice (some ⟨w1.heap.size, 0, none⟩) 1 1, .slice a2 2 c2, .slice a3 2 c3, .slice a4 2 c4, .slice a5 2 c5] 36 (0, 0)) := by rw [hw7]; exact alloc_block _ _ _ _
  have K57 := onward hb7 B6.out
  have K47 := onward K57 B5.out
  have K37 := onward K47 B4.out
  have K27 := onward K37 B3.out
  have K17 := onward K27 B2.out
  have M7 := Lib.hid (M1.out.below K17)
  have B7 : Hid (Below w.heap.size w w7) := onward K17 B1.out
  have XS : Hid (∀ k, k < 6 → ∃ a n c, w7.cell? ⟨w6.heap.size, k, none⟩ = some (.slice a n c) ∧ BadAt w7 (.slice a n c)) := by
    intro k hk
    have h6 : k = 0 ∨ k = 1 ∨ k = 2 ∨ k = 3 ∨ k = 4 ∨ k = 5 := by omega
    rcases h6 with rfl | rfl | rfl | rfl | rfl | rfl
    · exact ⟨_, _, _, by rw [cell_of_row O7]; rfl, ⟨[], rows0 w7, by decide, no_ok, kb0⟩⟩
    · exact ⟨_, _, _, by rw [cell_of_row O7]; rfl, X1.out.below K27⟩
    · exact ⟨_, _, _, by rw [cell_of_row O7]; rfl, X2.out.below K37⟩
    · exact ⟨_, _, _, by rw [cell_of_row O7]; rfl, X3.out.below K47⟩
    · exact ⟨_, _, _, by rw [cell_of_row O7]; rfl, X4.out.below K57⟩
    · exact ⟨_, _, _, by rw [cell_of_row O7]; rfl, X5.out.below hb7⟩
  clear hb7 O7 K57 K47 K37 K27 K17 X1 X2 X3 X4 X5 B2 B3 B4 B5 B6 M1 B1
  go_wp2_with fail
  rw [← hw7]
  clear hw7
  go_loopw [3] (fun iv wr => ∃ k : Nat, k ≤ 6 ∧ iv = .int .i64 k ∧ Hid (Turned b1 w7 wr) ∧ Hid (MemS wr p b1 b2 (-1) (42 * k) (.map []) (.map []))) (fun iv _ => 6 - (intOf iv).toNat)
  case atStart => exact ⟨0, by omega, rfl, .refl M7.out.now.isM, M7.out⟩
  case round =>
    obtain ⟨k, hk, rfl, TR, MR⟩ := hrel
    have BR : Hid (Below w.heap.size w wr) := B7.out.trans (TR.out.below B7.out.size G1.out)
    have ER := Lib.hid (HE.out.below BR.out)
    by_cases hlt : k < 6
    · have hz : (k : Int) < 6 := by omega
      obtain ⟨a, n, c, x0, hbad⟩ := XS.out k hlt
      have x1 := TR.out.cell x0
      obtain ⟨L, hl, h40, hok, hpo⟩ := hbad.turned TR.out
      have PX := Lib.hid (jn_post 0 1 (.slice a n c) L wr ER.out ⟨MR.out, isMap_empty, wf_empty, by decide⟩ (by omega) hl h40 (by decide) hok)
      rw [hpo] at PX
      clear x0 hbad hl h40 hok hpo
      go_wp2_with fail
      refine PX.out.mono ?_
      rintro e w8 ⟨rfl, hm, ht⟩
      have M8 : Hid (MemS w8 p b1 b2 (-1) (42 * (k + 1)) (.map []) (.map [])) := hm
      have T8 := Lib.hid (TR.out.trans ht)
      clear hm ht PX x1
      go_wp2_with fail
      go_roundw
      case rel => exact ⟨k + 1, by omega, by go_num, T8.out, M8.out⟩
      case measure => simp [intOf]; omega
    · obtain rfl : k = 6 := by omega
      have B8 := BR
      have E8 := ER
      have M8 := MR
      clear TR hlt hk
      go_wp2_with fail
      refine (two_any kDue kCash 1 wr (by decide) (by decide)).mono ?_
      rintro e w9 ⟨v9, rfl, hr, hb⟩
      have B9 : Hid (Below w.heap.size w w9) := onward hb B8.out
      have M9 := Lib.hid (M8.out.below hb)
      have PX := Lib.hid (jn_post (-1) 1 v9 kP1 w9 (HE.out.below B9.out) ⟨M9.out, isMap_empty, wf_empty, by decide⟩ (by decide) hr (by decide) (by decide) (two_ok (by decide) (by decide) (in64 (by decide)) (in64 (by decide))))
      rw [kb6] at PX
      clear hr hb
      go_wp2_with fail
      refine PX.out.mono ?_
      rintro e w10 ⟨rfl, hm, ht⟩
      have B10 : Hid (Below w.heap.size w w10) := B9.out.trans (ht.below B9.out.size G1.out)
      have M10 : Hid (MemS w10 p b1 b2 (-1) 294 (.map []) (.map [])) := hm
      clear hm ht PX M9 B9
      go_wp2_with fail
      obtain ⟨w11, hW⟩ : ∃ W, W = w10.alloc (.cells #[.string kDue, .int .i64 1, .string kCash, .int .i64 1] 41) := ⟨_, rfl⟩
      have hb : Below w10.heap.size w10 w11 := by rw [hW]; exact below_alloc _ _
      have hr : RowsIn w11 (.slice (some ⟨w10.heap.size, 0, none⟩) 2 2) 2 (kS1.map Pt.cells) := rows2 (p := ⟨kDue, 1⟩) (q := ⟨kCash, 1⟩) (by rw [hW]; exact alloc_block _ _ _ _)
      have B11 : Hid (Below w.heap.size w w11) := onward hb B10.out
      have M11 := Lib.hid (M10.out.below hb)
      have PX := Lib.hid (jn_post 0 1 (.slice (some ⟨w10.heap.size, 0, none⟩) 2 2) kS1 w11 (HE.out.below B11.out) ⟨M11.out, isMap_empty, wf_empty, by decide⟩ (by decide) hr (by decide) (by decide) (two_ok (by decide) (by decide) (in64 (by decide)) (in64 (by decide))))
      rw [kb7] at PX
      clear hr hb
      go_wp2_with fail
      rw [← hW]
      clear hW
      refine PX.out.mono ?_
      rintro e w12 ⟨rfl, hm, ht⟩
      have B12 : Hid (Below w.heap.size w w12) := B11.out.trans (ht.below B11.out.size G1.out)
      have M12 : Hid (MemS w12 p b1 b2 (-1) 336 (.map []) (.map [])) := hm
      clear hm ht PX M11 B11
      go_wp2_with fail
      refine (two_any kDue kCash 4611686018427387904 w12 (by decide) (by decide)).mono ?_
      rintro e w13 ⟨v13, rfl, hr, hb⟩
      have B13 : Hid (Below w.heap.size w w13) := onward hb B12.out
      have M13 := Lib.hid (M12.out.below hb)
      have PX := Lib.hid (jn_post 0 1 v13 kP2 w13 (HE.out.below B13.out) ⟨M13.out, isMap_empty, wf_empty, by decide⟩ (by decide) hr (by decide) (by decide) (two_ok (by decide) (by decide) (in64 (by decide)) (in64 (by decide))))
      rw [kpost2] at PX
      clear hr hb
      go_wp2_with fail
      refine PX.out.mono ?_
      rintro e w14 ⟨rfl, hm, ht⟩
      have B14 : Hid (Below w.heap.size w w14) := B13.out.trans (ht.below B13.out.size G1.out)
      have M14 : Hid (MemS w14 p b1 b2 (-1) 378 kD1 (.map [])) := hm
      clear hm ht PX M13 B13
      go_wp2_with fail
      refine (two_any kDue kCash 1 w14 (by decide) (by decide)).mono ?_
      rintro e w15 ⟨v15, rfl, hr, hb⟩
      have B15 : Hid (Below w.heap.size w w15) := onward hb B14.out
      have M15 := Lib.hid (M14.out.below hb)
      have PX := Lib.hid (jn_post 0 1 v15 kP1 w15 (HE.out.below B15.out) ⟨M15.out, kjn1.isM, kjn1.wf, by rw [kjn1.last]; decide⟩ (by decide) hr (by decide) (by decide) (two_ok (by decide) (by decide) (in64 (by decide)) (in64 (by decide))))
      rw [kpost1] at PX
      clear hr hb
      go_wp2_with fail
      refine PX.out.mono ?_
      rintro e w16 ⟨rfl, hm, ht⟩
      have B16 : Hid (Below w.heap.size w w16) := B15.out.trans (ht.below B15.out.size G1.out)
      have M16 : Hid (MemS w16 p b1 b2 (-1) 420 kD1 (.map [])) := hm
      clear hm ht PX M15 B15
      go_wp2_with fail
      refine (two_any kCash kDue 4611686018427387904 w16 (by decide) (by decide)).mono ?_
      rintro e w17 ⟨v17, rfl, hr, hb⟩
      have B17 : Hid (Below w.heap.size w w17) := onward hb B16.out
      have M17 := Lib.hid (M16.out.below hb)
      have PX := Lib.hid (jn_post 0 0 v17 kP3 w17 (HE.out.below B17.out) ⟨M17.out, kjn1.isM, kjn1.wf, by rw [kjn1.last]; decide⟩ (by decide) hr (by decide) (by decide) (two_ok (by decide) (by decide) (in64 (by decide)) (in64 (by decide))))
      rw [kpost3] at PX
      clear hr hb
      go_wp2_with fail
      refine PX.out.mono ?_
      rintro e w18 ⟨rfl, hm, ht⟩
      have B18 : Hid (Below w.heap.size w w18) := B17.out.trans (ht.below B17.out.size G1.out)
      have M18 : Hid (MemS w18 p b1 b2 (-1) 462 kD2 (.map [])) := hm
      clear hm ht PX M17 B17
      go_wp2_with fail
      have HSC : scanL kD2 [98] = [] := kscan M18.out.now.strD rfl
      have SX := Lib.hid (sums_any w18 M18.out (by decide) (Nat.le_trans (pairsR_le kjn2.isM _ _) M18.out.now.size_le) (by rw [HSC]; exact fun y hy => by cases hy))
      have HSL : sumsL kD2 = [] := by unfold sumsL; rw [HSC]; rfl
      have HSO : sumsO [] = (0, 0, 0) := by decide
      rw [HSL, HSO] at SX
      clear HSC HSL HSO
      refine SX.out.mono ?_
      rintro e w19 ⟨rfl, hb⟩
      have B19 : Hid (Below w.heap.size w w19) := onward hb B18.out
      have M19 := Lib.hid (M18.out.below hb)
      clear hb SX
      go_wp2_with fail
      refine (getn_any w19 M19.out 0 (by decide) kget).mono ?_
      rintro e w20 ⟨rfl, hb⟩
      have B20 : Hid (Below w.heap.size w w20) := onward hb B19.out
      clear hb
      obtain ⟨wz, hz⟩ : ∃ W, W = w20.alloc (.cells #[.int .u64 0, .int .i64 0, .int .u32 0, .slice none 0 0] 49) := ⟨_, rfl⟩
      have hbz : Below w20.heap.size w20 wz := by rw [hz]; exact below_alloc _ _
      have BZ : Hid (Below w.heap.size w wz) := onward hbz B20.out
      go_wp2_with fail
      rw [← hz]
      clear hz hbz
      refine (neg_any (.slice none 0 0) [] wz (rows0 wz) (by decide)).mono ?_
      rintro e wy ⟨vy, rfl, hy, hb⟩
      obtain ⟨ay, cy, rfl⟩ := jown_form hy
      have BY : Hid (Below w.heap.size w wy) := onward hb BZ.out
      clear hy hb
      go_wp2_with fail
      refine (posts17_any wy (HE.out.below BY.out)).mono ?_
      rintro e wx ⟨rfl, hb⟩
      have BX : Hid (Below w.heap.size w wx) := onward hb BY.out
      clear hb
      go_wp2_with fail
      go_ret
      exact ⟨rfl, BX.out⟩
end Go.Proofs.YtecbnhmnhcpcmaaGreatDoor
