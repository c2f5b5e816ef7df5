/- The walk of the net's Take. -/
import Derived.Test.YtgkefciojoffgaaNeJ
namespace Go.Proofs.Ytgkefciojoffgaa
open Go.RowKit
set_option linter.unusedVariables false
set_option linter.unusedSimpArgs false
attribute [local go_sem ↓] Go.wp_at_zero Go.wp_at_succ
/-- no letter -/
def letter0 : Value := .agg #[.int .i64 0, .int .i64 0, .slice none 0 0]
/-- two captured variables, boxed, and a result's cell -/
theorem three_boxes (w : World) (x y : Value) (T U V : Nat) (cs : Array Value) : Below w.heap.size w (((w.alloc (.cells #[x] T)).alloc (.cells #[y] U)).alloc (.cells cs V)) ∧ Box (((w.alloc (.cells #[x] T)).alloc (.cells #[y] U)).alloc (.cells cs V)) w.heap.size x T ∧ Box (((w.alloc (.cells #[x] T)).alloc (.cells #[y] U)).alloc (.cells cs V)) (w.heap.size + 1) y U
    ∧ (((w.alloc (.cells #[x] T)).alloc (.cells #[y] U)).alloc (.cells cs V)).heap[w.heap.size + 2]? = some (.cells cs V (0, 0)) := by
  obtain ⟨b2, h1, h2⟩ := two_boxes w x y T U
  have b3 := below_alloc ((w.alloc (.cells #[x] T)).alloc (.cells #[y] U)) (.cells cs V)
  refine ⟨onward b3 b2, h1.below b3, h2.below b3, ?_⟩
  have := heap_alloc_new ((w.alloc (.cells #[x] T)).alloc (.cells #[y] U)) (.cells cs V)
  have e : ((w.alloc (.cells #[x] T)).alloc (.cells #[y] U)).heap.size = w.heap.size + 2 := by simp
  rw [e] at this
  exact this
theorem set3_block {w : World} {po : Nat} {x0 x1 x2 y0 y1 y2 : Value} {T : Nat} (h : w.heap[po]? = some (.cells #[x0, x1, x2] T (0, 0))) : (((w.setCell ⟨po, 0, none⟩ y0).setCell ⟨po, 1, none⟩ y1).setCell ⟨po, 2, none⟩ y2).heap[po]? = some (.cells #[y0, y1, y2] T (0, 0)) := set_block (set_block (set_block h))
theorem set3_below {w w' : World} {po : Nat} (hp : w.heap.size ≤ po) (h : Below w.heap.size w w') (y0 y1 y2 : Value) : Below w.heap.size w (((w'.setCell ⟨po, 0, none⟩ y0).setCell ⟨po, 1, none⟩ y1).setCell ⟨po, 2, none⟩ y2) := ((h.setCell hp _).setCell hp _).setCell hp _
set_option maxHeartbeats 1000000 in
theorem take_nil (k : Int) (w : World) : Calls Try.prog 15 #[.pointer none, .int .i64 k] w fun e w' => e = .returned (.tuple #[letter0, .int .i64 8]) ∧ Below w.heap.size w w' := by
  obtain ⟨hb, -, -, h3⟩ := three_boxes w (.pointer none) (.int .i64 k) 22 3 30 #[.int .i64 0, .int .i64 0, .slice none 0 0]
  have HB := Lib.hid hb
  obtain ⟨z0, q0, q1, q2⟩ := three_cells h3
  clear hb h3
  go_enter Try.func15, Try.ntmps15
  go_wp2_with fail
  refine (at_nil k _ _).mono ?_
  rintro e w' ⟨rfl, rfl⟩
  go_wp2_with fail
  exact bodyPost_ret (v := .tuple #[letter0, .int .i64 8]) (by simp [results, letter0, Try.results15, go_sem]) rfl ⟨rfl, HB.out⟩
set_option maxHeartbeats 1000000 in
theorem take_no (pn : Nat) (G : Int) (v : Value) (L : List Lt) (c0 c1 c2 c3 : Bool) (k : Int) (w : World) (hN : NetV w pn G v L c0 c1 c2 c3) (hk : k < 0 ∨ (L.length : Int) ≤ k) :
    Calls Try.prog 15 #[.pointer (some ⟨pn, 0, none⟩), .int .i64 k] w fun e w' => e = .returned (.tuple #[letter0, .int .i64 1]) ∧ Below w.heap.size w w' := by
  obtain ⟨hb, -, -, h3⟩ := three_boxes w (.pointer (some ⟨pn, 0, none⟩)) (.int .i64 k) 22 3 30 #[.int .i64 0, .int .i64 0, .slice none 0 0]
  have HB := Lib.hid hb
  obtain ⟨z0, q0, q1, q2⟩ := three_cells h3
  have HN := Lib.hid (hN.below hb)
  have HK := Lib.hid hk
  clear hb h3 hN hk
  go_enter Try.func15, Try.ntmps15
  go_wp2_with fail
  refine (at_arg pn G v L c0 c1 c2 c3 k _ _ HN.out HK.out).mono ?_
  rintro e w' ⟨rfl, rfl⟩
  go_wp2_with fail
  exact bodyPost_ret (v := .tuple #[letter0, .int .i64 1]) (by simp [results, letter0, Try.results15, go_sem]) rfl ⟨rfl, HB.out⟩
theorem take_end {B pn po : Nat} {G : Int} {v : Value} {L' : List Lt} {c0 c1 c2 c3 : Bool} {l0 l1 : Int} {l2 : Value} {w w2 w' : World} (hBo : B ≤ po) (Bd : Below w.heap.size w w2) (hpo : w.heap.size ≤ po) (h : TakeEnd B pn po G v L' c0 c1 c2 c3 l0 l1 l2 w2 w') (hpn : pn < w.heap.size) (hv : ∀ k, v.ownBlock = some k → k < w.heap.size) (y0 y1 y2 : Value) :
    NetEnd B pn G v L' c0 c1 c2 c3 w (((w'.setCell ⟨po, 0, none⟩ y0).setCell ⟨po, 1, none⟩ y1).setCell ⟨po, 2, none⟩ y2) := by
  obtain ⟨v', h1, h2, h3, h4, h5⟩ := h
  have k3 : Kept (· = po) w' (((w'.setCell ⟨po, 0, none⟩ y0).setCell ⟨po, 1, none⟩ y1).setCell ⟨po, 2, none⟩ y2) := ((Kept.setCell (S := (· = po)) _ _ _ rfl).trans (Kept.setCell (S := (· = po)) _ _ _ rfl)).trans (Kept.setCell (S := (· = po)) _ _ _ rfl)
  have hpp : pn ≠ po := by omega
  have hvp : ∀ k, v'.ownBlock = some k → k ≠ po := fun k hk => by rw [h4] at hk; have := hv k hk; omega
  have hne : ∀ j, v'.ownBlock ≠ some (⟨po, j, none⟩ : Addr).block := fun j e => hvp _ e rfl
  have K : Kept (Mine pn v) w (((w'.setCell ⟨po, 0, none⟩ y0).setCell ⟨po, 1, none⟩ y1).setCell ⟨po, 2, none⟩ y2) := by
    have hk := ((Kept.of_below Bd (fun k => Mine pn v k ∨ k = po)).trans h3).trans (k3.mono fun k _ h => .inr h)
    refine ⟨hk.os, hk.tape, hk.output, hk.size, fun k hk1 hk2 => hk.block k hk1 fun h => ?_⟩
    rcases h with h | rfl
    · exact hk2 h
    · omega
  refine ⟨v', ⟨(k3.block pn (lt_of_block h1.1) hpp).trans h1.1, ?_⟩, ?_, K, .inl h4⟩
  · exact ownsRow_setCell_other (a := ⟨po, 2, none⟩) (ownsRow_setCell_other (a := ⟨po, 1, none⟩) (ownsRow_setCell_other (a := ⟨po, 0, none⟩) h1.2 (hne 0) _) (hne 1) _) (hne 2) _
  · exact fun l hl => (h2 l hl).step (.of_kept k3 fun k hk => by subst hk; exact ⟨hBo, _, _, _, h5, by decide⟩)
theorem own_lt {w : World} {pn : Nat} {G : Int} {v : Value} {L : List Lt} {c0 c1 c2 c3 : Bool} (h : NetV w pn G v L c0 c1 c2 c3) : ∀ k, v.ownBlock = some k → k < w.heap.size := fun k hk => (h.2.lt k hk).2
set_option maxHeartbeats 1000000 in
theorem take_cut (pn : Nat) (G : Int) (v : Value) (L : List Lt) (c0 c1 c2 c3 : Bool) (k : Nat) (w : World) (hN : NetV w pn G v L c0 c1 c2 c3) (hk : k < L.length) (hf : i64 L[k].f) (ht : i64 L[k].t) (hg : 1 ≤ gateI L[k].f L[k].t ∧ gateI L[k].f L[k].t ≤ 3) (hc : cutAt c1 c2 c3 (gateI L[k].f L[k].t) = true) :
    Calls Try.prog 15 #[.pointer (some ⟨pn, 0, none⟩), .int .i64 k] w fun e w' => e = .returned (.tuple #[letter0, .int .i64 50]) ∧ Below w.heap.size w w' := by
  obtain ⟨hb, x1, x2, h3⟩ := three_boxes w (.pointer (some ⟨pn, 0, none⟩)) (.int .i64 k) 22 3 30 #[.int .i64 0, .int .i64 0, .slice none 0 0]
  have hc := take1_cut (bk := w.heap.size + 1) pn w.heap.size (w.heap.size + 2) G v L c0 c1 c2 c3 L[k].f L[k].t L[k].bv _ (hN.below hb) hf ht hg hc x1
  have hA := Lib.hid (at_go 30 #[] #[.pointer (some ⟨w.heap.size, 0, none⟩), .pointer (some ⟨w.heap.size + 1, 0, none⟩), .pointer (some ⟨w.heap.size + 2, 0, none⟩)] pn G v L c0 c1 c2 c3 k _ (hN.below hb) hk (fun _ _ => rfl) (fun r w' => r = 50 ∧ Below _ _ w') (hc.mono fun e w' h => ⟨50, h.1, rfl, h.2⟩))
  have HB := Lib.hid hb
  have H3 := Lib.hid h3
  have hz : ((w.alloc (.cells #[.pointer (some ⟨pn, 0, none⟩)] 22)).alloc (.cells #[.int .i64 k] 3)).heap.size = w.heap.size + 2 := by simp
  have HZ := Lib.hid hz
  clear hb hN hc x1 x2 h3 hz hg hf ht
  go_enter Try.func15, Try.ntmps15
  go_wp2_with fail
  refine (hA.out).mono ?_
  rintro e w' ⟨r, rfl, rfl, hr⟩
  obtain ⟨z0, q0, q1, q2⟩ := three_cells (stays_block hr H3.out)
  have ff : ∀ i, w'.frozen? ⟨w.heap.size + 2, i, none⟩ = false := fun i => free_of_row (stays_block hr H3.out)
  have f0 := ff 0
  have f1 := ff 1
  have f2 := ff 2
  have HE := Lib.hid (onward hr HB.out)
  clear hr ff
  go_wp2_with fail
  exact bodyPost_ret (v := .tuple #[letter0, .int .i64 50]) (by simp [results, letter0, Try.results15, go_sem, q0, q1, q2]) rfl ⟨rfl, set3_below (by omega) HE.out _ _ _⟩
set_option maxHeartbeats 1000000 in
theorem take_yes (B pn : Nat) (G : Int) (v : Value) (L : List Lt) (c0 c1 c2 c3 : Bool) (k : Nat) (w : World) (hBp : B ≤ pn) (hN : NetV w pn G v L c0 c1 c2 c3) (hL : LtsAt B w L) (hk : k < L.length) (hf : i64 L[k].f) (ht : i64 L[k].t) (hg : 1 ≤ gateI L[k].f L[k].t ∧ gateI L[k].f L[k].t ≤ 3) (hc : cutAt c1 c2 c3 (gateI L[k].f L[k].t) = false) (hll : L.length ≤ 4096) :
    Calls Try.prog 15 #[.pointer (some ⟨pn, 0, none⟩), .int .i64 k] w fun e w' => e = .returned (.tuple #[L[k].val, .int .i64 0]) ∧ NetEnd B pn G v (L.eraseIdx k) c0 c1 c2 c3 w w' := by
  obtain ⟨hb, x1, x2, h3⟩ := three_boxes w (.pointer (some ⟨pn, 0, none⟩)) (.int .i64 k) 22 3 30 #[.int .i64 0, .int .i64 0, .slice none 0 0]
  have hpl := lt_of_block hN.1
  have hvl := own_lt hN
  have hc := take1_yes B pn w.heap.size (w.heap.size + 1) (w.heap.size + 2) k G v L c0 c1 c2 c3 L[k].f L[k].t L[k].bv _ _ _ _ hBp (by omega) (hN.below hb) (hL.step (.of_below hb)) L[k].bs (hL.step (.of_below hb) L[k] (List.getElem_mem hk)) hk hf ht hg hc x1 x2 h3 (fun e => by have := hvl _ e; omega) (by omega)
  have hA := Lib.hid (at_go 30 #[] #[.pointer (some ⟨w.heap.size, 0, none⟩), .pointer (some ⟨w.heap.size + 1, 0, none⟩), .pointer (some ⟨w.heap.size + 2, 0, none⟩)] pn G v L c0 c1 c2 c3 k _ (hN.below hb) hk (fun _ _ => rfl) (fun r w' => r = 0 ∧ TakeEnd B pn (w.heap.size + 2) G v (L.eraseIdx k) c0 c1 c2 c3 L[k].f L[k].t L[k].bv _ w') (hc.mono fun e w' h => ⟨0, h.1, rfl, h.2⟩))
  have HB := Lib.hid hb
  obtain ⟨bv, hbv⟩ : ∃ x, L[k].bv = x := ⟨_, rfl⟩
  have hone := bytes_cell (hL L[k] (List.getElem_mem hk))
  obtain ⟨aa, cc, hform⟩ := (hL L[k] (List.getElem_mem hk)).form
  have HF := Lib.hid hform
  have HV := Lib.hid hvl
  clear hb hN hc x1 x2 h3 hg hf ht hvl hL hone hform
  go_enter Try.func15, Try.ntmps15
  go_wp2_with fail
  refine (hA.out).mono ?_
  rintro e w' ⟨r, rfl, rfl, hr⟩
  have H3 := hr.choose_spec.2.2.2.2
  rw [HF.out] at H3
  obtain ⟨z0, q0, q1, q2⟩ := three_cells H3
  have ff : ∀ i, w'.frozen? ⟨w.heap.size + 2, i, none⟩ = false := fun i => free_of_row H3
  have f0 := ff 0
  have f1 := ff 1
  have f2 := ff 2
  have HR := Lib.hid hr
  clear hr ff H3 hbv
  go_wp2_with fail
  exact bodyPost_ret (v := .tuple #[L[k].val, .int .i64 0]) (by simp [results, Lt.val, Try.results15, go_sem, q0, q1, q2, HF.out]) rfl ⟨rfl, take_end (by omega) HB.out (by omega) HR.out hpl HV.out _ _ _⟩
end Go.Proofs.Ytgkefciojoffgaa
