/- The walks of the net's Drop, Hold, Double. -/
import Derived.Test.YtgkefciojoffgaaNeH
namespace Go.Proofs.Ytgkefciojoffgaa
open Go.RowKit
set_option linter.unusedVariables false
set_option linter.unusedSimpArgs false
attribute [local go_sem ↓] Go.wp_at_zero Go.wp_at_succ
theorem NetEnd.from {B pn : Nat} {G : Int} {v : Value} {L' : List Lt} {c0 c1 c2 c3 : Bool} {w w2 w' : World} (Bd : Below w.heap.size w w2) (h : NetEnd B pn G v L' c0 c1 c2 c3 w2 w') : NetEnd B pn G v L' c0 c1 c2 c3 w w' := by
  obtain ⟨v', h1, h2, h3, h4⟩ := h
  refine ⟨v', h1, h2, (Kept.of_below Bd _).trans h3, ?_⟩
  rcases h4 with h | h
  · exact .inl h
  · exact .inr fun k hk => Nat.le_trans Bd.size (h k hk)
theorem NetV.len_row {w : World} {pn : Nat} {G : Int} {v : Value} {L : List Lt} {c0 c1 c2 c3 : Bool} (h : NetV w pn G v L c0 c1 c2 c3) : True := trivial
/-- two captured variables, boxed -/
theorem two_boxes (w : World) (x y : Value) (T U : Nat) : Below w.heap.size w ((w.alloc (.cells #[x] T)).alloc (.cells #[y] U)) ∧ Box ((w.alloc (.cells #[x] T)).alloc (.cells #[y] U)) w.heap.size x T ∧ Box ((w.alloc (.cells #[x] T)).alloc (.cells #[y] U)) (w.heap.size + 1) y U := by
  have b1 := below_alloc w (.cells #[x] T)
  have b2 := below_alloc (w.alloc (.cells #[x] T)) (.cells #[y] U)
  refine ⟨onward b2 b1, stays_block b2 (heap_alloc_new w _), ?_⟩
  have := heap_alloc_new (w.alloc (.cells #[x] T)) (.cells #[y] U)
  have e : (w.alloc (.cells #[x] T)).heap.size = w.heap.size + 1 := by simp
  rw [e] at this
  exact this
set_option maxHeartbeats 1000000 in
theorem drop_nil (k : Int) (w : World) : Calls Try.prog 12 #[.pointer none, .int .i64 k] w fun e w' => e = .returned (.int .i64 8) ∧ Below w.heap.size w w' := by
  have hb := (two_boxes w (.pointer none) (.int .i64 k) 22 3).1
  have HB := Lib.hid hb
  clear hb
  go_enter Try.func12, Try.ntmps12
  go_wp2_with fail
  refine (at_nil k _ _).mono ?_
  rintro e w' ⟨rfl, rfl⟩
  go_wp2_with fail
  go_ret
  exact ⟨rfl, HB.out⟩
set_option maxHeartbeats 1000000 in
theorem drop_no (pn : Nat) (G : Int) (v : Value) (L : List Lt) (c0 c1 c2 c3 : Bool) (k : Int) (w : World) (hN : NetV w pn G v L c0 c1 c2 c3) (hk : k < 0 ∨ (L.length : Int) ≤ k) :
    Calls Try.prog 12 #[.pointer (some ⟨pn, 0, none⟩), .int .i64 k] w fun e w' => e = .returned (.int .i64 1) ∧ Below w.heap.size w w' := by
  have hb := (two_boxes w (.pointer (some ⟨pn, 0, none⟩)) (.int .i64 k) 22 3).1
  have HN := Lib.hid (hN.below hb)
  have HK := Lib.hid hk
  have HB := Lib.hid hb
  clear hb hN hk
  go_enter Try.func12, Try.ntmps12
  go_wp2_with fail
  refine (at_arg pn G v L c0 c1 c2 c3 k _ _ HN.out HK.out).mono ?_
  rintro e w' ⟨rfl, rfl⟩
  go_wp2_with fail
  go_ret
  exact ⟨rfl, HB.out⟩
set_option maxHeartbeats 1000000 in
theorem drop_yes (B pn : Nat) (G : Int) (v : Value) (L : List Lt) (c0 c1 c2 c3 : Bool) (k : Nat) (w : World) (hBp : B ≤ pn) (hN : NetV w pn G v L c0 c1 c2 c3) (hL : LtsAt B w L) (hk : k < L.length) (hll : L.length ≤ 4096) :
    Calls Try.prog 12 #[.pointer (some ⟨pn, 0, none⟩), .int .i64 k] w fun e w' => e = .returned (.int .i64 0) ∧ NetEnd B pn G v (L.eraseIdx k) c0 c1 c2 c3 w w' := by
  obtain ⟨hb, x1, x2⟩ := two_boxes w (.pointer (some ⟨pn, 0, none⟩)) (.int .i64 k) 22 3
  have hc := drop1_any B pn w.heap.size (w.heap.size + 1) k G v L c0 c1 c2 c3 L[k].f L[k].t L[k].bv _ hBp (hN.below hb) (hL.step (.of_below hb)) hk x1 x2 (by omega)
  have hA := Lib.hid (at_go 27 #[] #[.pointer (some ⟨w.heap.size, 0, none⟩), .pointer (some ⟨w.heap.size + 1, 0, none⟩)] pn G v L c0 c1 c2 c3 k _ (hN.below hb) hk (fun _ _ => rfl) (fun r w' => r = 0 ∧ NetEnd B pn G v (L.eraseIdx k) c0 c1 c2 c3 _ w') (hc.mono fun e w' h => ⟨0, h.1, rfl, h.2⟩))
  have HB := Lib.hid hb
  clear hb hN hL hc x1 x2
  go_enter Try.func12, Try.ntmps12
  go_wp2_with fail
  refine (hA.out).mono ?_
  rintro e w' ⟨r, rfl, rfl, hr⟩
  have HR := Lib.hid hr
  clear hr
  go_wp2_with fail
  go_ret
  exact ⟨rfl, HR.out.from HB.out⟩
end Go.Proofs.Ytgkefciojoffgaa
