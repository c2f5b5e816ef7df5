/- The walks of RenderApart, RenderReads, RenderBack. -/
import Derived.Test.YtmppkhjjlgngkaaDoorRnO
namespace Go.Proofs.YtmppkhjjlgngkaaDoor
open Go.RowKit Civ Ren Go.Shelf
set_option linter.unusedVariables false
set_option linter.unusedSimpArgs false
theorem ln_form {w : World} {lv : Value} {L : List Ren.Ln} (h : RowsIn w lv 5 (L.map Ren.Ln.cells)) : ∃ a c, lv = .slice a L.length c := by
  obtain ⟨a, c, e, -, -⟩ := rows_form h
  rw [List.length_map] at e
  exact ⟨a, c, e⟩
theorem ba_ne {a b : List UInt8} (h : a ≠ b) : (⟨a.toArray⟩ : ByteArray) ≠ ⟨b.toArray⟩ := fun e => h (by simpa using congrArg (fun x : ByteArray => x.data.toList) e)
theorem goesR_tail (w w1 : World) (hE : EnvR w) (hb : Below w.heap.size w w1) : Calls Tryd.prog 12 #[] w1 fun e w' => e = .returned (.bool true) ∧ Below w.heap.size w w' :=
  (goesR_any w1 (hE.below hb)).mono fun _ _ ⟨h, b⟩ => ⟨h, onward b hb⟩
set_option maxHeartbeats 8000000 in
set_option maxRecDepth 1000000 in
theorem rapart_any (v x : Ren.Inv) (l1 l2 : Value) (w : World) (hE : EnvR w) (h1 : RowsIn w l1 5 (v.ls.map Ren.Ln.cells)) (h2 : RowsIn w l2 5 (x.ls.map Ren.Ln.cells)) (k1 : v.ok) (k2 : x.ok) : Calls Tryd.prog 5 #[v.val l1, x.val l2] w fun e w' => e = .returned (.bool true) ∧ Below w.heap.size w w' := by
  have M1 := Lib.hid (fun (W : World) (hb : Below w.heap.size w W) => mayR_any v l1 W k1 (h1.below hb))
  have M2 := Lib.hid (fun (W : World) (hb : Below w.heap.size w W) => mayR_any x l2 W k2 (h2.below hb))
  have T1 := Lib.hid (fun (W : World) (hb : Below w.heap.size w W) => rtext_any v l1 W (hE.below hb).env (h1.below hb) k1)
  have T2 := Lib.hid (fun (W : World) (hb : Below w.heap.size w W) => rtext_any x l2 W (hE.below hb).env (h2.below hb) k2)
  have SI := Lib.hid (fun (W : World) (hb : Below w.heap.size w W) => sameI_any v x l1 l2 W (h1.below hb) (h2.below hb))
  have GO := Lib.hid (fun (W : World) (hb : Below w.heap.size w W) => goesR_tail w W hE hb)
  have EQ : Hid (mayB v = true → mayB x = true → (textL v = textL x ↔ v = x)) := fun e1 e2 => ⟨fun h => body_inj k1 k2 e1 e2 (by rw [← text_may e1, ← text_may e2]; exact h), fun h => by rw [h]⟩
  obtain ⟨a1, c1, rfl⟩ := ln_form h1
  obtain ⟨a2, c2, rfl⟩ := ln_form h2
  clear h1 h2 hE k1 k2
  obtain ⟨no, te, mo, ls, tot, cr⟩ := v
  obtain ⟨no2, te2, mo2, ls2, tot2, cr2⟩ := x
  show Calls Tryd.prog 5 #[.agg #[.int .u32 no, .int .u32 te, .int .i64 mo, .slice a1 ls.length c1, .int .i64 tot, .int .i64 cr], .agg #[.int .u32 no2, .int .u32 te2, .int .i64 mo2, .slice a2 ls2.length c2, .int .i64 tot2, .int .i64 cr2]] w _
  obtain ⟨b2, g1, g2, -⟩ := two_blocks w #[.int .u32 no, .int .u32 te, .int .i64 mo, .slice a1 ls.length c1, .int .i64 tot, .int .i64 cr] #[.int .u32 no2, .int .u32 te2, .int .i64 mo2, .slice a2 ls2.length c2, .int .i64 tot2, .int .i64 cr2] 25 25
  have B0 := Lib.hid b2
  have G1 := Lib.hid g1
  have G2 := Lib.hid g2
  clear b2 g1 g2
  by_cases n1 : 80 < ls.length
  · have d1 : decide ((80 : Int) < (ls.length : Int)) = true := decide_eq_true (by omega)
    go_enter Tryd.func5, Tryd.ntmps5
    go_wp2_with fail
    go_ret
    exact ⟨rfl, B0.out⟩
  have d1 : decide ((80 : Int) < (ls.length : Int)) = false := decide_eq_false (by omega)
  by_cases n2 : 80 < ls2.length
  · have d2 : decide ((80 : Int) < (ls2.length : Int)) = true := decide_eq_true (by omega)
    go_enter Tryd.func5, Tryd.ntmps5
    go_wp2_with fail
    go_ret
    exact ⟨rfl, B0.out⟩
  have d2 : decide ((80 : Int) < (ls2.length : Int)) = false := decide_eq_false (by omega)
  go_enter Tryd.func5, Tryd.ntmps5
  go_wp2_with fail
  generalize (w.alloc (.cells #[.int .u32 no, .int .u32 te, .int .i64 mo, .slice a1 ls.length c1, .int .i64 tot, .int .i64 cr] 25)).alloc (.cells #[.int .u32 no2, .int .u32 te2, .int .i64 mo2, .slice a2 ls2.length c2, .int .i64 tot2, .int .i64 cr2] 25) = W0 at *
  refine (M1.out _ B0.out).mono ?_
  rintro e w1 ⟨rfl, hb⟩
  have B1 := Lib.hid (onward hb B0.out)
  have Y1 := Lib.hid hb
  clear hb
  obtain ⟨-, x0, x1, x2, x3, x4, x5⟩ := cells6 (stays_block Y1.out G1.out)
  obtain ⟨-, y0, y1, y2, y3, y4, y5⟩ := cells6 (stays_block Y1.out G2.out)
  cases m1 : mayB ⟨no, te, mo, ls, tot, cr⟩
  · go_wp2_with fail
    go_ret
    exact ⟨rfl, B1.out⟩
  go_wp2_with fail
  clear x0 x1 x2 x3 x4 x5 y0 y1 y2 y3 y4 y5
  refine (M2.out _ B1.out).mono ?_
  rintro e w2 ⟨rfl, hb⟩
  have B2 := Lib.hid (onward hb B1.out)
  have Y2 := Lib.hid (onward hb Y1.out)
  clear hb
  obtain ⟨-, x0, x1, x2, x3, x4, x5⟩ := cells6 (stays_block Y2.out G1.out)
  obtain ⟨-, y0, y1, y2, y3, y4, y5⟩ := cells6 (stays_block Y2.out G2.out)
  cases m2 : mayB ⟨no2, te2, mo2, ls2, tot2, cr2⟩
  · go_wp2_with fail
    go_ret
    exact ⟨rfl, B2.out⟩
  have EQ2 := Lib.hid (EQ.out m1 m2)
  clear EQ m1 m2 M1 M2
  go_wp2_with fail
  clear x0 x1 x2 x3 x4 x5 y0 y1 y2 y3 y4 y5
  refine (T1.out _ B2.out).mono ?_
  rintro e w3 ⟨rfl, hb⟩
  have B3 := Lib.hid (onward hb B2.out)
  have Y3 := Lib.hid (onward hb Y2.out)
  clear hb
  obtain ⟨-, x0, x1, x2, x3, x4, x5⟩ := cells6 (stays_block Y3.out G1.out)
  obtain ⟨-, y0, y1, y2, y3, y4, y5⟩ := cells6 (stays_block Y3.out G2.out)
  generalize (if mayB _ = true then (0 : Int) else 1) = f1
  generalize textL ⟨no, te, mo, ls, tot, cr⟩ = t1 at *
  go_wp2_with fail
  clear x0 x1 x2 x3 x4 x5 y0 y1 y2 y3 y4 y5
  refine (T2.out _ B3.out).mono ?_
  rintro e w4 ⟨rfl, hb⟩
  have B4 := Lib.hid (onward hb B3.out)
  have Y4 := Lib.hid (onward hb Y3.out)
  clear hb
  obtain ⟨-, x0, x1, x2, x3, x4, x5⟩ := cells6 (stays_block Y4.out G1.out)
  obtain ⟨-, y0, y1, y2, y3, y4, y5⟩ := cells6 (stays_block Y4.out G2.out)
  generalize (if mayB _ = true then (0 : Int) else 1) = f2
  generalize textL ⟨no2, te2, mo2, ls2, tot2, cr2⟩ = t2 at *
  by_cases hq : t1 = t2
  · have HX := Lib.hid (EQ2.out.1 hq)
    clear EQ2
    subst hq
    go_wp2_with fail
    clear x0 x1 x2 x3 x4 x5 y0 y1 y2 y3 y4 y5
    refine (SI.out _ B4.out).mono ?_
    rintro e w5 ⟨t, rfl, ht, hb⟩
    have B5 := Lib.hid (onward hb B4.out)
    clear hb
    obtain rfl : t = true := ht.2 HX.out
    clear ht
    go_wp2_with fail
    refine (GO.out _ B5.out).mono ?_
    rintro e w6 ⟨rfl, hb⟩
    have B6 := Lib.hid hb
    clear hb
    go_wp2
    go_ret
    exact ⟨rfl, B6.out⟩
  · have hn := ba_ne hq
    have HQ := Lib.hid (fun h => hq (EQ2.out.2 h))
    clear hq EQ2
    generalize (⟨t1.toArray⟩ : ByteArray) = u1 at *
    generalize (⟨t2.toArray⟩ : ByteArray) = u2 at *
    have hn2 := toList_ne hn
    go_wp2_with fail
    clear x0 x1 x2 x3 x4 x5 y0 y1 y2 y3 y4 y5
    refine (SI.out _ B4.out).mono ?_
    rintro e w5 ⟨t, rfl, ht, hb⟩
    have B5 := Lib.hid (onward hb B4.out)
    clear hb
    have htf : t = false := by
      cases t
      · rfl
      · exact absurd (ht.1 rfl) HQ.out
    subst htf
    clear ht
    go_wp2_with fail
    refine (GO.out _ B5.out).mono ?_
    rintro e w6 ⟨rfl, hb⟩
    have B6 := Lib.hid hb
    clear hb
    go_wp2
    go_ret
    exact ⟨rfl, B6.out⟩
end Go.Proofs.YtmppkhjjlgngkaaDoor
