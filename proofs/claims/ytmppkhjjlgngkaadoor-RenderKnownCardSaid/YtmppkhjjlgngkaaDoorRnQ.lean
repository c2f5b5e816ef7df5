/- The walk of RenderReads. -/
import Derived.Test.YtmppkhjjlgngkaaDoorRnP
namespace Go.Proofs.YtmppkhjjlgngkaaDoor
open Go.RowKit Civ Ren Go.Shelf
set_option linter.unusedVariables false
set_option maxRecDepth 100000
set_option linter.unusedSimpArgs false
theorem ba_of (s : ByteArray) : (⟨s.data.toList.toArray⟩ : ByteArray) = s := by simp
theorem rparse_ba (s : ByteArray) (w : World) (hE : EnvR w) (hs : s.size ≤ 1000000) : Calls Tryd.prog 10 #[.string s] w (ParseI s.data.toList w) := by
  have := rparse_any s.data.toList w hE (by rw [Array.length_toList]; exact hs)
  rw [ba_of] at this
  exact this
theorem rows_nil (w : World) : RowsIn w (.slice none 0 0) 5 (([] : List Ren.Ln).map Ren.Ln.cells) := ⟨none, 0, rfl, Nat.le_refl _, Nat.zero_le _, fun i hi => by simp at hi⟩
set_option maxHeartbeats 8000000 in
set_option maxRecDepth 1000000 in
theorem rreads_any (s : ByteArray) (w : World) (hE : EnvR w) : Calls Tryd.prog 4 #[.string s] w fun e w' => e = .returned (.bool true) ∧ Below w.heap.size w w' := by
  have GO := Lib.hid (fun (W : World) (hb : Below w.heap.size w W) => goesR_tail w W hE hb)
  have HE := Lib.hid hE
  by_cases n1 : 5000 < s.size
  · have d1 : decide ((5000 : Int) < (s.size : Int)) = true := decide_eq_true (by omega)
    go_enter Tryd.func4, Tryd.ntmps4
    go_wp2_with fail
    go_ret
    exact ⟨rfl, Below.refl _ _⟩
  have d1 : decide ((5000 : Int) < (s.size : Int)) = false := decide_eq_false (by omega)
  have PX := Lib.hid (rparse_ba s w hE (by omega))
  clear hE n1
  go_enter Tryd.func4, Tryd.ntmps4
  go_wp2_with fail
  refine PX.out.mono ?_
  rintro e w1 ⟨hb, hm⟩
  clear PX
  cases hp : parseR s.data.toList with
  | none =>
    rw [hp] at hm
    have hm' : e = .returned (.tuple #[.agg zeroI, .int .i64 21]) := hm
    subst hm'
    have ba := below_alloc w1 (.cells zeroI 25)
    have B2 := Lib.hid (onward ba hb)
    have SI := Lib.hid (sameI_any zeroV zeroV (.slice none 0 0) (.slice none 0 0) (w1.alloc (.cells zeroI 25)) (rows_nil _) (rows_nil _))
    clear hb ba hp hm
    go_wp2_with fail
    refine SI.out.mono ?_
    rintro e w3 ⟨t, rfl, ht, hb⟩
    obtain rfl : t = true := ht.2 (by trivial)
    have B3 := Lib.hid (onward hb B2.out)
    clear hb ht SI
    go_wp2_with fail
    refine (GO.out _ B3.out).mono ?_
    rintro e w4 ⟨rfl, hb⟩
    have B4 := Lib.hid hb
    clear hb
    go_wp2
    go_ret
    exact ⟨rfl, B4.out⟩
  | some v =>
    rw [hp] at hm
    obtain ⟨lv, hl, rfl⟩ := hm
    obtain ⟨hok, hmay, hbody, htext⟩ := parseR_is hp
    obtain ⟨a, c, rfl⟩ := ln_form hl
    have TX := Lib.hid (fun (W : World) (hw : Below w1.heap.size w1 W) => rtext_any v _ W ((HE.out.below hb).below hw).env (hl.below hw) hok)
    rw [htext, ba_of, if_pos hmay] at TX
    have MX := Lib.hid (fun (W : World) (hw : Below w1.heap.size w1 W) => mayR_any v _ W hok (hl.below hw))
    rw [hmay] at MX
    have B1 := Lib.hid hb
    clear hb hp hok hmay hbody htext hl
    obtain ⟨no, te, mo, ls, tot, cr⟩ := v
    have hv : Ren.Inv.val ⟨no, te, mo, ls, tot, cr⟩ (.slice a ls.length c) = .agg #[.int .u32 no, .int .u32 te, .int .i64 mo, .slice a ls.length c, .int .i64 tot, .int .i64 cr] := rfl
    rw [hv]
    have C2 := Lib.hid (below_alloc w1 (.cells #[.int .u32 no, .int .u32 te, .int .i64 mo, .slice a ls.length c, .int .i64 tot, .int .i64 cr] 25))
    have G2 := Lib.hid (heap_alloc_new w1 (.cells #[.int .u32 no, .int .u32 te, .int .i64 mo, .slice a ls.length c, .int .i64 tot, .int .i64 cr] 25))
    clear hv
    go_wp2_with fail
    generalize w1.alloc (.cells #[.int .u32 no, .int .u32 te, .int .i64 mo, .slice a ls.length c, .int .i64 tot, .int .i64 cr] 25) = W2 at *
    refine (TX.out _ C2.out).mono ?_
    rintro e w3 ⟨rfl, hb⟩
    have C3 := Lib.hid (onward hb C2.out)
    obtain ⟨-, x0, x1, x2, x3, x4, x5⟩ := cells6 (stays_block hb G2.out)
    clear hb TX
    go_wp2_with fail
    clear x0 x1 x2 x3 x4 x5
    refine (MX.out _ C3.out).mono ?_
    rintro e w4 ⟨rfl, hb⟩
    have B4 := Lib.hid (onward (onward hb C3.out) B1.out)
    clear hb
    go_wp2_with fail
    refine (GO.out _ B4.out).mono ?_
    rintro e w5 ⟨rfl, hb⟩
    have B5 := Lib.hid hb
    clear hb
    go_wp2
    go_ret
    exact ⟨rfl, B5.out⟩
end Go.Proofs.YtmppkhjjlgngkaaDoor
