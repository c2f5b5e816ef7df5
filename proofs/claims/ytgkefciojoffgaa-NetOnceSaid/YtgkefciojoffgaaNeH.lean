/- The walk of the net's 'at': what is done with the k-th letter. -/
import Derived.Test.YtgkefciojoffgaaNeF
namespace Go.Proofs.Ytgkefciojoffgaa
open Go.RowKit
set_option linter.unusedVariables false
set_option linter.unusedSimpArgs false
attribute [local go_sem ↓] Go.wp_at_zero Go.wp_at_succ
set_option maxHeartbeats 1000000 in
theorem at_nil (k : Int) (fv : Value) (w : World) : Calls Try.prog 26 #[.pointer none, .int .i64 k, fv] w fun e w' => e = .returned (.int .i64 8) ∧ w = w' := by
  go_enter Try.func26, Try.ntmps26
  go_wp2_with fail
  go_ret
  exact ⟨rfl, rfl⟩
set_option maxHeartbeats 1000000 in
theorem at_arg (pn : Nat) (G : Int) (v : Value) (L : List Lt) (c0 c1 c2 c3 : Bool) (k : Int) (fv : Value) (w : World) (hN : NetV w pn G v L c0 c1 c2 c3) (hk : k < 0 ∨ (L.length : Int) ≤ k) : Calls Try.prog 26 #[.pointer (some ⟨pn, 0, none⟩), .int .i64 k, fv] w fun e w' => e = .returned (.int .i64 1) ∧ w = w' := by
  obtain ⟨z0, n0, n1, -⟩ := net_cells hN.1
  obtain ⟨a, c, rfl⟩ := net_form hN.2
  clear hN
  by_cases h : k < 0
  · clear hk
    go_enter Try.func26, Try.ntmps26
    go_wp2_with fail
    go_ret
    exact ⟨rfl, rfl⟩
  · have hk : (L.length : Int) ≤ k := by omega
    go_enter Try.func26, Try.ntmps26
    go_wp2_with fail
    go_ret
    exact ⟨rfl, rfl⟩
set_option maxHeartbeats 1000000 in
theorem at_go (F : Nat) (first capt : Array Value) (pn : Nat) (G : Int) (v : Value) (L : List Lt) (c0 c1 c2 c3 : Bool) (k : Nat) (w : World) (hN : NetV w pn G v L c0 c1 c2 c3) (hk : k < L.length) (hF : ∀ (A : Array Value) (w : World), (callFunc F A).run Try.prog w = .ok (.enter F A) w) (P : Int → World → Prop) (hc : Calls Try.prog F (first.push L[k].val ++ capt) w fun e w' => ∃ r, e = .returned (.int .i64 r) ∧ P r w') :
    Calls Try.prog 26 #[.pointer (some ⟨pn, 0, none⟩), .int .i64 k, .func (.func F) first capt] w fun e w' => ∃ r, e = .returned (.int .i64 r) ∧ P r w' := by
  obtain ⟨z0, n0, n1, -⟩ := net_cells hN.1
  obtain ⟨g, cap, cur, rfl, hg, h3, h4, h5, h6, h7⟩ := own_open hN.2 (by omega)
  obtain ⟨r0, r1, r2⟩ := row_letter (n := 0) (cap := 0) h3 h7 k hk
  unfold maxLen at h5
  have hk' : ¬ ((L.length : Int) ≤ k) := by omega
  have HC := Lib.hid hc
  clear hN hc h3 h6 h7
  go_enter Try.func26, Try.ntmps26
  go_wp2_with fail
  refine (HC.out).mono ?_
  rintro e w' ⟨r, rfl, hp⟩
  go_wp2_with fail
  go_ret
  exact ⟨r, rfl, hp⟩
end Go.Proofs.Ytgkefciojoffgaa
