/- The walk of RenderBack. -/
import Derived.Test.YtmppkhjjlgngkaaDoorRnQ
namespace Go.Proofs.YtmppkhjjlgngkaaDoor
open Go.RowKit Civ Ren Go.Shelf
set_option linter.unusedVariables false
set_option maxRecDepth 100000
set_option linter.unusedSimpArgs false
def NoneI (w : World) (e : Ending) (w' : World) : Prop := e = .returned (.tuple #[.agg zeroI, .int .i64 21]) ∧ Below w.heap.size w w'
theorem parse_no {s : ByteArray} (w : World) (hE : EnvR w) (hs : s.size ≤ 1000000) (hn : parseR s.data.toList = none) : Calls Tryd.prog 10 #[.string s] w (NoneI w) := by
  refine (rparse_ba s w hE hs).mono fun e w' ⟨hb, hm⟩ => ?_
  rw [hn] at hm
  exact ⟨hm, hb⟩
theorem parse_yes {s : ByteArray} {v : Ren.Inv} (w : World) (hE : EnvR w) (hs : s.size ≤ 1000000) (hy : parseR s.data.toList = some v) : Calls Tryd.prog 10 #[.string s] w fun e w' => ∃ lv, RowsIn w' lv 5 (v.ls.map Ren.Ln.cells) ∧ e = .returned (.tuple #[v.val lv, .int .i64 0]) ∧ Below w.heap.size w w' := by
  refine (rparse_ba s w hE hs).mono fun e w' ⟨hb, hm⟩ => ?_
  rw [hy] at hm
  obtain ⟨lv, hl, he⟩ := hm
  exact ⟨lv, hl, he, hb⟩
/-- what a told invoice's text is, and three that are none -/
structure Back (v : Ren.Inv) (u : ByteArray) : Prop where
  pos : 1 ≤ u.size
  le : u.size ≤ 10000
  same : parseR u.data.toList = some v
  less : parseR (u.extract 0 (u.size - 1)).data.toList = none
  more : parseR (u ++ ⟨#[10]⟩).data.toList = none
  blank : parseR ((⟨#[32]⟩ : ByteArray) ++ u).data.toList = none
theorem back_of (v : Ren.Inv) (hok : v.ok) (hm : mayB v = true) : Back v ⟨(textL v).toArray⟩ := by
  rw [text_may hm]
  have hl := body_len v hok hm
  have hne := body_ne v
  have h1 : 1 ≤ (bodyL v).length := by
    cases h : bodyL v with
    | nil => exact absurd h hne
    | cons x r => simp
  refine ⟨(by show 1 ≤ (bodyL v).toArray.size; rw [List.size_toArray]; exact h1), (by show (bodyL v).toArray.size ≤ _; rw [List.size_toArray]; exact hl), by simpa using parseR_back v hok hm, ?_, ?_, ?_⟩
  · have := parseR_less v
    have e : ((⟨(bodyL v).toArray⟩ : ByteArray).extract 0 ((⟨(bodyL v).toArray⟩ : ByteArray).size - 1)).data.toList = (bodyL v).take ((bodyL v).length - 1) := by
      rw [ByteArray.data_extract]
      simp [ByteArray.size]
      exact List.dropLast_eq_take
    rw [e]
    exact this
  · have := parseR_more v
    have e : ((⟨(bodyL v).toArray⟩ : ByteArray) ++ ⟨#[10]⟩).data.toList = bodyL v ++ [10] := by simp
    rw [e]
    exact this
  · have := parseR_blank (bodyL v)
    have e : ((⟨#[32]⟩ : ByteArray) ++ ⟨(bodyL v).toArray⟩).data.toList = 32 :: bodyL v := by simp
    rw [e]
    exact this
set_option maxHeartbeats 8000000 in
set_option maxRecDepth 1000000 in
theorem rback_any (v : Ren.Inv) (l1 : Value) (w : World) (hE : EnvR w) (h1 : RowsIn w l1 5 (v.ls.map Ren.Ln.cells)) (k1 : v.ok) : Calls Tryd.prog 3 #[v.val l1] w fun e w' => e = .returned (.bool true) ∧ Below w.heap.size w w' := by
  have M1 := Lib.hid (fun (W : World) (hb : Below w.heap.size w W) => mayR_any v l1 W k1 (h1.below hb))
  have T1 := Lib.hid (fun (W : World) (hb : Below w.heap.size w W) => rtext_any v l1 W (hE.below hb).env (h1.below hb) k1)
  have SI := Lib.hid (fun (W : World) (hb : Below w.heap.size w W) (lv : Value) (hl : RowsIn W lv 5 (v.ls.map Ren.Ln.cells)) => sameI_any v v l1 lv W (h1.below hb) hl)
  have GO := Lib.hid (fun (W : World) (hb : Below w.heap.size w W) => goesR_tail w W hE hb)
  have BK : Hid (mayB v = true → Back v ⟨(textL v).toArray⟩) := back_of v k1
  have HE := Lib.hid hE
  obtain ⟨a1, c1, rfl⟩ := ln_form h1
  clear h1 hE k1
  obtain ⟨no, te, mo, ls, tot, cr⟩ := v
  show Calls Tryd.prog 3 #[.agg #[.int .u32 no, .int .u32 te, .int .i64 mo, .slice a1 ls.length c1, .int .i64 tot, .int .i64 cr]] w _
  have B0 := Lib.hid (below_alloc w (.cells #[.int .u32 no, .int .u32 te, .int .i64 mo, .slice a1 ls.length c1, .int .i64 tot, .int .i64 cr] 25))
  have G1 := Lib.hid (heap_alloc_new w (.cells #[.int .u32 no, .int .u32 te, .int .i64 mo, .slice a1 ls.length c1, .int .i64 tot, .int .i64 cr] 25))
  by_cases n1 : 80 < ls.length
  · have d1 : decide ((80 : Int) < (ls.length : Int)) = true := decide_eq_true (by omega)
    go_enter Tryd.func3, Tryd.ntmps3
    go_wp2_with fail
    go_ret
    exact ⟨rfl, B0.out⟩
  have d1 : decide ((80 : Int) < (ls.length : Int)) = false := decide_eq_false (by omega)
  go_enter Tryd.func3, Tryd.ntmps3
  go_wp2_with fail
  generalize w.alloc (.cells #[.int .u32 no, .int .u32 te, .int .i64 mo, .slice a1 ls.length c1, .int .i64 tot, .int .i64 cr] 25) = W0 at *
  refine (M1.out _ B0.out).mono ?_
  rintro e w1 ⟨rfl, hb⟩
  have B1 := Lib.hid (onward hb B0.out)
  have Y1 := Lib.hid hb
  clear hb
  obtain ⟨-, x0, x1, x2, x3, x4, x5⟩ := cells6 (stays_block Y1.out G1.out)
  cases m1 : mayB ⟨no, te, mo, ls, tot, cr⟩
  · go_wp2_with fail
    go_ret
    exact ⟨rfl, B1.out⟩
  rw [if_pos m1] at T1
  have BK2 := Lib.hid (BK.out m1)
  clear M1 BK m1
  go_wp2_with fail
  clear x0 x1 x2 x3 x4 x5
  refine (T1.out _ B1.out).mono ?_
  rintro e w2 ⟨rfl, hb⟩
  have B2 := Lib.hid (onward hb B1.out)
  have Y2 := Lib.hid (onward hb Y1.out)
  clear hb T1
  generalize (⟨(textL ⟨no, te, mo, ls, tot, cr⟩).toArray⟩ : ByteArray) = u at *
  have u1 := BK2.out.pos
  have u2 := BK2.out.le
  have P1 := Lib.hid (fun (W : World) (hb : Below w.heap.size w W) => parse_yes W (HE.out.below hb) (by omega) BK2.out.same)
  have P2 := Lib.hid (fun (W : World) (hb : Below w.heap.size w W) => parse_no (s := u.extract 0 (u.size - 1)) W (HE.out.below hb) (by rw [ByteArray.size_extract]; omega) BK2.out.less)
  have P3 := Lib.hid (fun (W : World) (hb : Below w.heap.size w W) => parse_no (s := u ++ ⟨#[10]⟩) W (HE.out.below hb) (by rw [ByteArray.size_append]; show u.size + 1 ≤ _; omega) BK2.out.more)
  have P4 := Lib.hid (fun (W : World) (hb : Below w.heap.size w W) => parse_no (s := (⟨#[32]⟩ : ByteArray) ++ u) W (HE.out.below hb) (by rw [ByteArray.size_append]; show 1 + u.size ≤ _; omega) BK2.out.blank)
  have hs1 : IntKind.i64.wrap ((u.size : Int) - 1) = (u.size : Int) - 1 := IntWalk.i64_in _ (by omega)
  have hs2 : ((u.size : Int) - 1).toNat = u.size - 1 := by omega
  go_wp2_with fail
  refine (P1.out _ B2.out).mono ?_
  rintro e w3 ⟨lv, hl, rfl, hb⟩
  obtain ⟨a3, c3, rfl⟩ := ln_form hl
  have L3 := Lib.hid hl
  have B3 := Lib.hid (onward hb B2.out)
  have Y3 := Lib.hid (onward hb Y2.out)
  clear hb hl P1
  have hv : Ren.Inv.val ⟨no, te, mo, ls, tot, cr⟩ (.slice a3 ls.length c3) = .agg #[.int .u32 no, .int .u32 te, .int .i64 mo, .slice a3 ls.length c3, .int .i64 tot, .int .i64 cr] := rfl
  rw [hv]
  clear hv
  have C4 := Lib.hid (below_alloc w3 (.cells #[.int .u32 no, .int .u32 te, .int .i64 mo, .slice a3 ls.length c3, .int .i64 tot, .int .i64 cr] 25))
  have G4 := Lib.hid (stays_block C4.out (stays_block Y3.out G1.out))
  obtain ⟨-, x0, x1, x2, x3, x4, x5⟩ := cells6 G4.out
  have d2 : decide ((u.size : Int) < 1) = false := decide_eq_false (by omega)
  go_wp2_with fail
  clear x0 x1 x2 x3 x4 x5
  generalize w3.alloc (.cells #[.int .u32 no, .int .u32 te, .int .i64 mo, .slice a3 ls.length c3, .int .i64 tot, .int .i64 cr] 25) = W4 at *
  refine (SI.out _ (onward C4.out B3.out) _ (L3.out.below C4.out)).mono ?_
  rintro e w5 ⟨t, rfl, ht, hb⟩
  obtain rfl : t = true := ht.2 (by trivial)
  have B5 := Lib.hid (onward hb (onward C4.out B3.out))
  clear hb ht SI L3 C4 G4
  go_wp2_with fail
  refine (P2.out _ B5.out).mono ?_
  rintro e w6 ⟨rfl, hb⟩
  have B6 := Lib.hid (onward (below_alloc w6 (.cells zeroI 25)) (onward hb B5.out))
  clear hb P2
  go_wp2_with fail
  generalize w6.alloc (.cells zeroI 25) = W6 at *
  refine (P3.out _ B6.out).mono ?_
  rintro e w7 ⟨rfl, hb⟩
  have B7 := Lib.hid (onward (below_alloc w7 (.cells zeroI 25)) (onward hb B6.out))
  clear hb P3
  go_wp2_with fail
  generalize w7.alloc (.cells zeroI 25) = W7 at *
  refine (P4.out _ B7.out).mono ?_
  rintro e w8 ⟨rfl, hb⟩
  have B8 := Lib.hid (onward (below_alloc w8 (.cells zeroI 25)) (onward hb B7.out))
  clear hb P4
  go_wp2_with fail
  generalize w8.alloc (.cells zeroI 25) = W8 at *
  refine (GO.out _ B8.out).mono ?_
  rintro e w9 ⟨rfl, hb⟩
  have B9 := Lib.hid hb
  clear hb
  go_wp2
  go_ret
  exact ⟨rfl, B9.out⟩
end Go.Proofs.YtmppkhjjlgngkaaDoor
