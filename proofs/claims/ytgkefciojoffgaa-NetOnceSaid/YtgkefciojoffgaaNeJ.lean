/- The walks of the net's Hold, Double, Cut, New. -/
import Derived.Test.YtgkefciojoffgaaNeI
namespace Go.Proofs.Ytgkefciojoffgaa
open Go.RowKit
set_option linter.unusedVariables false
set_option linter.unusedSimpArgs false
attribute [local go_sem ↓] Go.wp_at_zero Go.wp_at_succ
set_option maxHeartbeats 1000000 in
theorem hold_nil (k : Int) (w : World) : Calls Try.prog 14 #[.pointer none, .int .i64 k] w fun e w' => e = .returned (.int .i64 8) ∧ Below w.heap.size w w' := by
  have hb := (two_boxes w (.pointer none) (.int .i64 k) 22 3).1
  have HB := Lib.hid hb
  clear hb
  go_enter Try.func14, Try.ntmps14
  go_wp2_with fail
  refine (at_nil k _ _).mono ?_
  rintro e w' ⟨rfl, rfl⟩
  go_wp2_with fail
  go_ret
  exact ⟨rfl, HB.out⟩
set_option maxHeartbeats 1000000 in
theorem hold_no (pn : Nat) (G : Int) (v : Value) (L : List Lt) (c0 c1 c2 c3 : Bool) (k : Int) (w : World) (hN : NetV w pn G v L c0 c1 c2 c3) (hk : k < 0 ∨ (L.length : Int) ≤ k) :
    Calls Try.prog 14 #[.pointer (some ⟨pn, 0, none⟩), .int .i64 k] w fun e w' => e = .returned (.int .i64 1) ∧ Below w.heap.size w w' := by
  have hb := (two_boxes w (.pointer (some ⟨pn, 0, none⟩)) (.int .i64 k) 22 3).1
  have HN := Lib.hid (hN.below hb)
  have HK := Lib.hid hk
  have HB := Lib.hid hb
  clear hb hN hk
  go_enter Try.func14, Try.ntmps14
  go_wp2_with fail
  refine (at_arg pn G v L c0 c1 c2 c3 k _ _ HN.out HK.out).mono ?_
  rintro e w' ⟨rfl, rfl⟩
  go_wp2_with fail
  go_ret
  exact ⟨rfl, HB.out⟩
set_option maxHeartbeats 1000000 in
theorem hold_yes (B pn : Nat) (G : Int) (v : Value) (L : List Lt) (c0 c1 c2 c3 : Bool) (k : Nat) (w : World) (hBp : B ≤ pn) (hN : NetV w pn G v L c0 c1 c2 c3) (hL : LtsAt B w L) (hk : k < L.length) (hll : L.length ≤ 4096) :
    Calls Try.prog 14 #[.pointer (some ⟨pn, 0, none⟩), .int .i64 k] w fun e w' => e = .returned (.int .i64 0) ∧ NetEnd B pn G v (L.eraseIdx k ++ [L[k]]) c0 c1 c2 c3 w w' := by
  obtain ⟨hb, x1, x2⟩ := two_boxes w (.pointer (some ⟨pn, 0, none⟩)) (.int .i64 k) 22 3
  have hc := hold1_any B pn w.heap.size (w.heap.size + 1) k G v L c0 c1 c2 c3 L[k].f L[k].t L[k].bv L[k].bs _ hBp (hN.below hb) (hL.step (.of_below hb)) (hL.step (.of_below hb) L[k] (List.getElem_mem hk)) hk x1 x2 (by omega)
  have hA := Lib.hid (at_go 29 #[] #[.pointer (some ⟨w.heap.size, 0, none⟩), .pointer (some ⟨w.heap.size + 1, 0, none⟩)] pn G v L c0 c1 c2 c3 k _ (hN.below hb) hk (fun _ _ => rfl) (fun r w' => r = 0 ∧ NetEnd B pn G v (L.eraseIdx k ++ [L[k]]) c0 c1 c2 c3 _ w') (hc.mono fun e w' h => ⟨0, h.1, rfl, h.2⟩))
  have HB := Lib.hid hb
  clear hb hN hL hc x1 x2
  go_enter Try.func14, Try.ntmps14
  go_wp2_with fail
  refine (hA.out).mono ?_
  rintro e w' ⟨r, rfl, rfl, hr⟩
  have HR := Lib.hid hr
  clear hr
  go_wp2_with fail
  go_ret
  exact ⟨rfl, HR.out.from HB.out⟩
set_option maxHeartbeats 1000000 in
theorem double_nil (k : Int) (w : World) : Calls Try.prog 11 #[.pointer none, .int .i64 k] w fun e w' => e = .returned (.int .i64 8) ∧ w = w' := by
  go_enter Try.func11, Try.ntmps11
  go_wp2_with fail
  refine (at_nil k _ _).mono ?_
  rintro e w' ⟨rfl, rfl⟩
  go_wp2_with fail
  go_ret
  exact ⟨rfl, rfl⟩
set_option maxHeartbeats 1000000 in
theorem double_arg (pn : Nat) (G : Int) (v : Value) (L : List Lt) (c0 c1 c2 c3 : Bool) (k : Int) (w : World) (hN : NetV w pn G v L c0 c1 c2 c3) (hk : k < 0 ∨ (L.length : Int) ≤ k) :
    Calls Try.prog 11 #[.pointer (some ⟨pn, 0, none⟩), .int .i64 k] w fun e w' => e = .returned (.int .i64 1) ∧ w = w' := by
  have HN := Lib.hid hN
  have HK := Lib.hid hk
  clear hN hk
  go_enter Try.func11, Try.ntmps11
  go_wp2_with fail
  refine (at_arg pn G v L c0 c1 c2 c3 k _ _ HN.out HK.out).mono ?_
  rintro e w' ⟨rfl, rfl⟩
  go_wp2_with fail
  go_ret
  exact ⟨rfl, rfl⟩
set_option maxHeartbeats 1000000 in
theorem double_no (B pn : Nat) (G : Int) (v : Value) (L : List Lt) (c0 c1 c2 c3 : Bool) (k : Nat) (w : World) (hN : NetV w pn G v L c0 c1 c2 c3) (hL : LtsAt B w L) (hk : k < L.length) (hf : i64 L[k].f) (ht : i64 L[k].t) (hbl : L[k].bs.length ≤ 4096) (hs : sendI G L[k].f L[k].t L[k].bs.length L.length ≠ 0) (hll : L.length ≤ 4096) :
    Calls Try.prog 11 #[.pointer (some ⟨pn, 0, none⟩), .int .i64 k] w fun e w' => e = .returned (.int .i64 (sendI G L[k].f L[k].t L[k].bs.length L.length)) ∧ Below w.heap.size w w' := by
  have hc := send_no B pn G v L c0 c1 c2 c3 L[k].f L[k].t L[k].bv L[k].bs w hN (hL L[k] (List.getElem_mem hk)) hf ht hs hll (by omega)
  have hA := Lib.hid (at_go 9 #[.pointer (some ⟨pn, 0, none⟩)] #[] pn G v L c0 c1 c2 c3 k w hN hk (fun _ _ => rfl) (fun r w' => r = sendI G L[k].f L[k].t L[k].bs.length L.length ∧ Below w.heap.size w w') (hc.mono fun e w' h => ⟨_, h.1, rfl, h.2⟩))
  clear hN hL hc hs hf ht hbl
  generalize sendI G L[k].f L[k].t L[k].bs.length L.length = s at *
  go_enter Try.func11, Try.ntmps11
  go_wp2_with fail
  refine (hA.out).mono ?_
  rintro e w' ⟨r, rfl, rfl, hr⟩
  have HR := Lib.hid hr
  clear hr
  go_wp2_with fail
  go_ret
  exact ⟨rfl, HR.out⟩
set_option maxHeartbeats 1000000 in
theorem double_yes (B pn : Nat) (G : Int) (v : Value) (L : List Lt) (c0 c1 c2 c3 : Bool) (k : Nat) (w : World) (hBp : B ≤ pn) (hN : NetV w pn G v L c0 c1 c2 c3) (hL : LtsAt B w L) (hk : k < L.length) (hf : i64 L[k].f) (ht : i64 L[k].t) (hs : sendI G L[k].f L[k].t L[k].bs.length L.length = 0) :
    Calls Try.prog 11 #[.pointer (some ⟨pn, 0, none⟩), .int .i64 k] w fun e w' => e = .returned (.int .i64 0) ∧ ∃ bv', New w.heap.size bv' ∧ NetEnd B pn G v (L ++ [⟨L[k].f, L[k].t, bv', L[k].bs⟩]) c0 c1 c2 c3 w w' := by
  have hc := send_yes B pn G v L c0 c1 c2 c3 L[k].f L[k].t L[k].bv L[k].bs w hBp hN hL (hL L[k] (List.getElem_mem hk)) hf ht hs
  have hA := Lib.hid (at_go 9 #[.pointer (some ⟨pn, 0, none⟩)] #[] pn G v L c0 c1 c2 c3 k w hN hk (fun _ _ => rfl) (fun r w' => r = 0 ∧ ∃ bv', New w.heap.size bv' ∧ NetEnd B pn G v (L ++ [⟨L[k].f, L[k].t, bv', L[k].bs⟩]) c0 c1 c2 c3 w w') (hc.mono fun e w' h => ⟨_, h.1, rfl, h.2⟩))
  clear hN hL hc hs hf ht
  go_enter Try.func11, Try.ntmps11
  go_wp2_with fail
  refine (hA.out).mono ?_
  rintro e w' ⟨r, rfl, rfl, hr⟩
  have HR := Lib.hid hr
  clear hr
  go_wp2_with fail
  go_ret
  exact ⟨rfl, HR.out⟩
set_option maxHeartbeats 1000000 in
theorem cut_nil (g : Int) (b : Bool) (w : World) : Calls Try.prog 10 #[.pointer none, .int .i64 g, .bool b] w fun e w' => e = .returned (.int .i64 8) ∧ w = w' := by
  go_enter Try.func10, Try.ntmps10
  go_wp2_with fail
  go_ret
  exact ⟨rfl, rfl⟩
set_option maxHeartbeats 1000000 in
theorem cut_no (pn : Nat) (G : Int) (v : Value) (L : List Lt) (c0 c1 c2 c3 : Bool) (g : Int) (b : Bool) (w : World) (hN : NetV w pn G v L c0 c1 c2 c3) (hg : g < 1 ∨ G < g) :
    Calls Try.prog 10 #[.pointer (some ⟨pn, 0, none⟩), .int .i64 g, .bool b] w fun e w' => e = .returned (.int .i64 1) ∧ w = w' := by
  obtain ⟨z0, n0, -⟩ := net_cells hN.1
  clear hN
  by_cases h : g < 1
  · clear hg
    go_enter Try.func10, Try.ntmps10
    go_wp2_with fail
    go_ret
    exact ⟨rfl, rfl⟩
  · have hg : G < g := by omega
    go_enter Try.func10, Try.ntmps10
    go_wp2_with fail
    go_ret
    exact ⟨rfl, rfl⟩
set_option maxHeartbeats 1000000 in
theorem cut_yes (B pn : Nat) (G : Int) (v : Value) (L : List Lt) (c0 c1 c2 c3 : Bool) (g : Int) (b : Bool) (w : World) (hBp : B ≤ pn) (hN : NetV w pn G v L c0 c1 c2 c3) (hL : LtsAt B w L) (hg : 1 ≤ g) (hG : g ≤ G) (h3 : G ≤ 3) :
    Calls Try.prog 10 #[.pointer (some ⟨pn, 0, none⟩), .int .i64 g, .bool b] w fun e w' => e = .returned (.int .i64 0) ∧ NetEnd B pn G v L c0 (if g = 1 then b else c1) (if g = 2 then b else c2) (if g = 3 then b else c3) w w' := by
  obtain ⟨z0, n0, n1, n2, n3, n4, n5⟩ := net_cells hN.1
  have fz : ∀ i, w.frozen? ⟨pn, i, none⟩ = false := fun i => free_of_row hN.1
  have hcl : ∀ i, NetEnd B pn G v L c0 (if i = 1 then b else c1) (if i = 2 then b else c2) (if i = 3 then b else c3) w (w.setCell ⟨pn, 2 + i, none⟩ (.bool b)) ∨ ¬ (i = 1 ∨ i = 2 ∨ i = 3) := by
    intro i
    by_cases hi : i = 1 ∨ i = 2 ∨ i = 3
    · refine .inl ⟨v, ⟨?_, ?_⟩, ?_, Kept.setCell _ _ _ (.inl rfl), .inl rfl⟩
      · have := set_block (j := 2 + i) (u := .bool b) hN.1
        rcases hi with rfl | rfl | rfl <;> exact this
      · exact ownsRow_setCell_other (a := ⟨pn, 2 + i, none⟩) hN.2 (fun e => by have := (hN.2.lt _ e).1; exact absurd this (by show ¬ pn + 1 ≤ pn; omega)) _
      · exact hL.step (hN.stp hBp (Kept.setCell _ _ _ (.inl rfl)))
    · exact .inr hi
  have HC := Lib.hid hcl
  have f3 := fz 3
  have f4 := fz 4
  have f5 := fz 5
  clear hcl hN hL fz
  have hgg : g = 1 ∨ g = 2 ∨ g = 3 := by omega
  rcases hgg with rfl | rfl | rfl
  all_goals
    go_enter Try.func10, Try.ntmps10
    go_wp2_with fail
    go_ret
    first
    | exact ⟨rfl, (HC.out 1).resolve_right (by simp)⟩
    | exact ⟨rfl, (HC.out 2).resolve_right (by simp)⟩
    | exact ⟨rfl, (HC.out 3).resolve_right (by simp)⟩
/-- what New leaves -/
theorem new_net (w : World) (G : Int) : NetV (w.alloc (.cells #[.int .i64 G, .slice none 0 0, .bool false, .bool false, .bool false, .bool false] 56)) w.heap.size G (.slice none 0 0) [] false false false false :=
  ⟨heap_alloc_new w _, ⟨rfl, .inl ⟨rfl, rfl⟩⟩⟩
set_option maxHeartbeats 1000000 in
theorem new_no (G : Int) (w : World) (hG : G < 1 ∨ 3 < G) : Calls Try.prog 8 #[.int .i64 G] w fun e w' => e = .returned (.tuple #[.pointer none, .int .i64 1]) ∧ w = w' := by
  by_cases h : G < 1
  · clear hG
    go_enter Try.func8, Try.ntmps8
    go_wp2_with fail
    go_ret2
    exact ⟨rfl, rfl⟩
  · have hG : 3 < G := by omega
    go_enter Try.func8, Try.ntmps8
    go_wp2_with fail
    go_ret2
    exact ⟨rfl, rfl⟩
set_option maxHeartbeats 1000000 in
theorem new_yes (G : Int) (w : World) (h1 : 1 ≤ G) (h3 : G ≤ 3) : Calls Try.prog 8 #[.int .i64 G] w fun e w' => e = .returned (.tuple #[.pointer (some ⟨w.heap.size, 0, none⟩), .int .i64 0]) ∧ w' = w.alloc (.cells #[.int .i64 G, .slice none 0 0, .bool false, .bool false, .bool false, .bool false] 56) := by
  go_enter Try.func8, Try.ntmps8
  go_wp2_with fail
  go_ret2
  exact ⟨rfl, rfl⟩
end Go.Proofs.Ytgkefciojoffgaa
