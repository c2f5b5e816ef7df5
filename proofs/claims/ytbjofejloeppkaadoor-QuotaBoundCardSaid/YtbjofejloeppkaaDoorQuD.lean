/- The walks of quota.Admit and the law's own small functions. -/
import Derived.Test.YtbjofejloeppkaaDoorQuC
namespace Go.Proofs.YtbjofejloeppkaaDoor
open Go.RowKit Go.Shelf Acct
set_option linter.unusedVariables false
set_option linter.unusedSimpArgs false
/-- what is had: ten numbers -/
structure Hv where
  (dl du dh ro us he fr ou ov pk : Int)
def Hv.val (h : Hv) : Value := .agg #[.int .i64 h.dl, .int .i64 h.du, .int .i64 h.dh, .int .i64 h.ro, .int .i64 h.us, .int .i64 h.he, .int .i64 h.fr, .int .i64 h.ou, .int .i64 h.ov, .int .i64 h.pk]
def nar (n : Int) : Prop := 0 ≤ n ∧ n ≤ 1152921504606846976
def Hv.ok (h : Hv) : Prop := nar h.dl ∧ nar h.du ∧ nar h.dh ∧ nar h.ro ∧ nar h.us ∧ nar h.he ∧ nar h.fr ∧ nar h.ou ∧ nar h.ov ∧ nar h.pk
/-- what Admit answers: 0, 1 (ErrArg) or 40 (ErrQuota) -/
def admitI (h : Hv) (n : Int) : Int := if n < 1 ∨ 1099511627776 < n then 1 else if 0 < h.dl ∧ h.dl < h.du + h.dh + n then 40 else if h.ro + h.pk + h.ov < h.fr + h.ou + h.he + n then 40 else 0
set_option maxHeartbeats 4000000 in
set_option maxRecDepth 10000000 in
theorem admit_any (h : Hv) (n : Int) (w : World) (hh : h.ok) (hn : inInt n) : Calls Tryd.prog 7 #[h.val, .int .i64 n] w fun e w' => e = .returned (.int .i64 (admitI h n)) ∧ Below w.heap.size w w' := by
  obtain ⟨dl, du, dh, ro, us, he, fr, ou, ov, pk⟩ := h
  unfold Hv.ok nar at hh
  unfold inInt at hn
  simp only at hh
  show Calls Tryd.prog 7 #[.agg #[.int .i64 dl, .int .i64 du, .int .i64 dh, .int .i64 ro, .int .i64 us, .int .i64 he, .int .i64 fr, .int .i64 ou, .int .i64 ov, .int .i64 pk], .int .i64 n] w _
  have HB := Lib.hid (below_alloc w (.cells #[.int .i64 dl, .int .i64 du, .int .i64 dh, .int .i64 ro, .int .i64 us, .int .i64 he, .int .i64 fr, .int .i64 ou, .int .i64 ov, .int .i64 pk] 23))
  by_cases h1 : n < 1 ∨ 1099511627776 < n
  all_goals
    go_enter Tryd.func7, Tryd.ntmps7
    go_wp2_with fail
    all_goals
      go_ret
      refine ⟨ret_int ?_, HB.out⟩
      unfold admitI
      simp only
      repeat' split
      all_goals omega
end Go.Proofs.YtbjofejloeppkaaDoor
