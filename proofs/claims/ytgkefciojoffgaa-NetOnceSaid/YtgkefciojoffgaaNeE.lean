/- The walks of the net's Drop, Hold, Double (and their closures). -/
import Derived.Test.YtgkefciojoffgaaNeD
namespace Go.Proofs.Ytgkefciojoffgaa
open Go.RowKit
set_option linter.unusedVariables false
set_option linter.unusedSimpArgs false
attribute [local go_sem ↓] Go.wp_at_zero Go.wp_at_succ
theorem cells_len (L : List Lt) : (L.flatMap Lt.cells).length = L.length * 3 := by
  induction L with
  | nil => rfl
  | cons l L ih => rw [List.flatMap_cons, List.length_append, ih]; show 3 + _ = _; simp; omega
theorem cells_take (L : List Lt) (k : Nat) : (L.flatMap Lt.cells).take (k * 3) = (L.take k).flatMap Lt.cells := by
  induction L generalizing k with
  | nil => simp
  | cons l L ih =>
    cases k with
    | zero => simp
    | succ k =>
      rw [List.flatMap_cons, List.take_succ_cons, List.flatMap_cons, ← ih k, show (k + 1) * 3 = l.cells.length + k * 3 from by show _ = 3 + _; omega, List.take_append, List.take_of_length_le (by omega)]
      simp
theorem cells_drop (L : List Lt) (k : Nat) : (L.flatMap Lt.cells).drop (k * 3) = (L.drop k).flatMap Lt.cells := by
  induction L generalizing k with
  | nil => simp
  | cons l L ih =>
    cases k with
    | zero => simp
    | succ k =>
      rw [List.flatMap_cons, List.drop_succ_cons, ← ih k, show (k + 1) * 3 = l.cells.length + k * 3 from by show _ = 3 + _; omega, List.drop_append]
      simp
theorem bytes_cell {B : Nat} {w : World} {v : Value} {bs : List UInt8} (h : BytesAt B w v bs) : v.oneCell' = true := by
  obtain ⟨a, c, rfl, _⟩ := h
  rfl
theorem lts_one {B : Nat} {w : World} {L : List Lt} (h : LtsAt B w L) : ∀ u ∈ L.flatMap Lt.cells, u.oneCell' = true := by
  intro u hu
  obtain ⟨l, hl, hm⟩ := List.mem_flatMap.1 hu
  simp only [Lt.cells, List.mem_cons, List.not_mem_nil, or_false] at hm
  rcases hm with rfl | rfl | rfl
  · rfl
  · rfl
  · exact bytes_cell (h l hl)
/-- a row that holds something, opened -/
theorem own_open {w : World} {base : Nat} {e : TypeId} {size n : Nat} {v : Value} {xs : List Value} (h : w.ownsRow base e size v n xs) (hn : 1 ≤ n) : ∃ g cap cur, v = .slice (some ⟨g, 0, none⟩) n cap ∧ base ≤ g ∧ w.heap[g]? = some (.cells cur e (0, 0)) ∧ n ≤ cap ∧ cap ≤ maxLen ∧ cur.size = cap * size ∧ cur.toList.take (n * size) = xs := by
  obtain ⟨_, ⟨rfl, h0⟩ | ⟨g, cap, cur, h1⟩⟩ := h
  · omega
  · exact ⟨g, cap, cur, h1⟩
/-- the k-th letter's cells -/
theorem row_letter {w : World} {g n cap : Nat} {cur : Array Value} {L : List Lt} (h3 : w.heap[g]? = some (.cells cur 30 (0, 0))) (h6 : cur.toList.take (L.length * 3) = L.flatMap Lt.cells) (k : Nat) (hk : k < L.length) :
    w.cell? ⟨g, k * 3, none⟩ = some (.int .i64 L[k].f) ∧ w.cell? ⟨g, k * 3 + 1, none⟩ = some (.int .i64 L[k].t) ∧ w.cell? ⟨g, k * 3 + 2, none⟩ = some L[k].bv := by
  have hd : ((L.flatMap Lt.cells).drop (k * 3)) = L[k].cells ++ (L.drop (k + 1)).flatMap Lt.cells := by
    rw [cells_drop, List.drop_eq_getElem_cons hk, List.flatMap_cons]
  have hat : ∀ j, j < 3 → cur[k * 3 + j]? = (L[k].cells)[j]? := fun j hj => by
    have h1 : ((L.flatMap Lt.cells).drop (k * 3))[j]? = (L[k].cells)[j]? := by rw [hd, List.getElem?_append_left (by show j < 3; exact hj)]
    rw [List.getElem?_drop, ← h6, List.getElem?_take_of_lt (by omega), Array.getElem?_toList] at h1
    exact h1
  refine ⟨?_, ?_, ?_⟩
  · rw [cell_of_row h3]; exact hat 0 (by omega)
  · rw [cell_of_row h3]; exact hat 1 (by omega)
  · rw [cell_of_row h3]; exact hat 2 (by omega)
theorem erase_cells (L : List Lt) (k : Nat) (hk : k < L.length) : (L.flatMap Lt.cells).take (k * 3) ++ (L.flatMap Lt.cells).drop ((k + 1) * 3) = (L.eraseIdx k).flatMap Lt.cells := by
  rw [cells_take, cells_drop, ← List.flatMap_append, List.eraseIdx_eq_take_drop_succ]
/-- what Delete leaves of the net's row -/
theorem del_row {pn g cap k : Nat} {cur : Array Value} {L : List Lt} {wd w2 : World} {e : Ending} (hg : pn + 1 ≤ g) (h6 : cur.toList.take (L.length * 3) = L.flatMap Lt.cells) (hcs : cur.size = cap * 3) (hn : L.length ≤ cap) (hcap : cap ≤ maxLen) (hk : k < L.length) (hD : DelEnd g L.length cap k cur wd e w2) :
    w2.ownsRow (pn + 1) 30 3 (.slice (some ⟨g, 0, none⟩) (L.length - 1) cap) (L.eraseIdx k).length ((L.eraseIdx k).flatMap Lt.cells) := by
  obtain ⟨_, _, _, cur', h1, h2, h3⟩ := hD
  have hl : (L.eraseIdx k).length = L.length - 1 := List.length_eraseIdx_of_lt hk
  refine ⟨cells_len _, .inr ⟨g, cap, cur', by rw [hl], hg, h1, by rw [hl]; omega, hcap, by rw [h2, hcs], ?_⟩⟩
  rw [hl, h3, h6]
  have e1 : cur.toList.take (k * 3) = (L.flatMap Lt.cells).take (k * 3) := by
    rw [← h6, List.take_take, Nat.min_eq_left (by omega)]
  rw [e1]
  exact erase_cells L k hk
/-- a captured variable -/
def Box (w : World) (b : Nat) (v : Value) (T : Nat) : Prop := w.heap[b]? = some (.cells #[v] T (0, 0))
theorem ne_typed {w : World} {b g T T' : Nat} {cs cs' : Array Value} {fr fr' : Nat × Nat} (h : w.heap[b]? = some (.cells cs T fr)) (h' : w.heap[g]? = some (.cells cs' T' fr')) (hT : T ≠ T') : b ≠ g := by
  rintro rfl
  rw [h] at h'
  injection h' with h'
  injection h' with _ h' _
  exact hT h'
theorem Box.below {w w1 : World} {b : Nat} {v : Value} {T : Nat} (h : Box w b v T) (hb : Below w.heap.size w w1) : Box w1 b v T := stays_block hb h
theorem Box.kept {S : Nat → Prop} {w w1 : World} {b : Nat} {v : Value} {T : Nat} (h : Box w b v T) (hk : Kept S w w1) (hs : ¬ S b) : Box w1 b v T := by
  unfold Box
  rw [hk.block b (lt_of_block h) hs]
  exact h
theorem Box.cell {w : World} {b : Nat} {v : Value} {T : Nat} (h : Box w b v T) : w.cell? ⟨b, 0, none⟩ = some v := by unfold Box at h; simp [World.cell?, h]
theorem del_close {B pn g cap k : Nat} {G : Int} {cur : Array Value} {L : List Lt} {c0 c1 c2 c3 : Bool} {w wd w2 : World} {e : Ending} (hBp : B ≤ pn) (HN : NetV w pn G (.slice (some ⟨g, 0, none⟩) L.length cap) L c0 c1 c2 c3) (HL : LtsAt B w L) (Bd : Below w.heap.size w wd)
    (hrow : w2.ownsRow (pn + 1) 30 3 (.slice (some ⟨g, 0, none⟩) (L.length - 1) cap) (L.eraseIdx k).length ((L.eraseIdx k).flatMap Lt.cells)) (hg : pn + 1 ≤ g) (hD : DelEnd g L.length cap k cur wd e w2) :
    NetEnd B pn G (.slice (some ⟨g, 0, none⟩) L.length cap) (L.eraseIdx k) c0 c1 c2 c3 w (w2.setCell ⟨pn, 1, none⟩ (.slice (some ⟨g, 0, none⟩) (L.length - 1) cap)) := by
  have hkd : Kept (Mine pn (.slice (some ⟨g, 0, none⟩) L.length cap)) wd w2 := hD.2.1.mono fun k _ h => .inr (by rw [h]; rfl)
  have hk : Kept (Mine pn (.slice (some ⟨g, 0, none⟩) L.length cap)) w (w2.setCell ⟨pn, 1, none⟩ (.slice (some ⟨g, 0, none⟩) (L.length - 1) cap)) := ((Kept.of_below Bd _).trans hkd).trans (Kept.setCell _ _ _ (.inl rfl))
  have hpn : w2.heap[pn]? = some (.cells #[.int .i64 G, .slice (some ⟨g, 0, none⟩) L.length cap, .bool c0, .bool c1, .bool c2, .bool c3] 56 (0, 0)) := by
    have h1 := stays_block Bd HN.1
    rw [hD.2.1.block pn (lt_of_block h1) (by omega)]
    exact h1
  refine ⟨.slice (some ⟨g, 0, none⟩) (L.length - 1) cap, ⟨set_block hpn, ?_⟩, ?_, hk, .inl rfl⟩
  · exact ownsRow_setCell_other (a := ⟨pn, 1, none⟩) hrow (fun e => by have := (hrow.lt _ e).1; exact absurd this (by show ¬ pn + 1 ≤ pn; omega)) _
  · intro l hl
    exact (HL l (List.mem_of_mem_eraseIdx hl)).step (HN.stp hBp hk)
set_option maxHeartbeats 4000000 in
set_option maxRecDepth 10000000 in
theorem drop1_any (B pn bn bk k : Nat) (G : Int) (v : Value) (L : List Lt) (c0 c1 c2 c3 : Bool) (lf lt' : Int) (lb : Value) (w : World) (hBp : B ≤ pn) (hN : NetV w pn G v L c0 c1 c2 c3) (hL : LtsAt B w L) (hk : k < L.length) (h1 : Box w bn (.pointer (some ⟨pn, 0, none⟩)) 22) (h2 : Box w bk (.int .i64 k) 3) (hll : L.length ≤ 1000000) :
    Calls Try.prog 27 #[.agg #[.int .i64 lf, .int .i64 lt', lb], .pointer (some ⟨bn, 0, none⟩), .pointer (some ⟨bk, 0, none⟩)] w fun e w' => e = .returned (.int .i64 0) ∧ NetEnd B pn G v (L.eraseIdx k) c0 c1 c2 c3 w w' := by
  obtain ⟨g, cap, cur, rfl, hg, h3, h4, h5, h6, h7⟩ := own_open hN.2 (by omega)
  have BW := Lib.hid (below_alloc w (.cells #[.int .i64 lf, .int .i64 lt', lb] 30))
  have a1 := (h1.below (below_alloc w (.cells #[.int .i64 lf, .int .i64 lt', lb] 30))).cell
  have a2 := (h2.below (below_alloc w (.cells #[.int .i64 lf, .int .i64 lt', lb] 30))).cell
  have hN1 := hN.below (below_alloc w (.cells #[.int .i64 lf, .int .i64 lt', lb] 30))
  obtain ⟨z0, n0, n1, -⟩ := net_cells hN1.1
  have h31 := stays_block (below_alloc w (.cells #[.int .i64 lf, .int .i64 lt', lb] 30)) h3
  have hone := Lib.hid (lts_one hL)
  have HN := Lib.hid hN
  have HN1 := Lib.hid hN1
  have HL := Lib.hid hL
  have H31 := Lib.hid h31
  have H5 := Lib.hid h6
  have H7 := Lib.hid h7
  have hw1 : IntKind.i64.wrap ((k : Int) + 1) = (k : Int) + 1 := IntWalk.i64_in _ (by omega)
  have x1 := Lib.hid (h1.below (below_alloc w (.cells #[.int .i64 lf, .int .i64 lt', lb] 30)))
  have x2 := Lib.hid (h2.below (below_alloc w (.cells #[.int .i64 lf, .int .i64 lt', lb] 30)))
  clear hN hN1 hL h3 h31 h6 h7 h1 h2
  go_enter Try.func27, Try.ntmps27
  go_wp2_with fail
  generalize w.alloc (.cells #[.int .i64 lf, .int .i64 lt', lb] 30) = W at *
  have y1 : bn ≠ g := ne_typed x1.out H31.out (by decide)
  have y2 : bk ≠ g := ne_typed x2.out H31.out (by decide)
  have y3 : pn ≠ g := by omega
  have H31d : Hid (W.drew.heap[g]? = some (.cells cur 30 (0, 0))) := H31.out
  have hone2 : Hid (∀ u ∈ cur.toList.take (L.length * 3), u.oneCell' = true) := by rw [Hid, H7.out]; exact hone.out
  go_region_law (go_simp; go_at_call 28; ((with_reducible refine (delete_any g L.length cap k cur _ H31d.out H5.out hk h4 h5 hone2.out).mono ?_); rintro e w2 hD; have HD := Lib.hid hD; obtain ⟨rfl, hk2, -, -⟩ := hD; have m1 := (Box.kept (w := W.drew) x1.out hk2 y1).cell; have m2 := (Box.kept (w := W.drew) x2.out hk2 y2).cell; have m3 := hk2.cell (w := W.drew) n1 y3; have HV : Hid (w2.heap[pn]? = some (.cells #[.int .i64 G, .slice (some ⟨g, 0, none⟩) L.length cap, .bool c0, .bool c1, .bool c2, .bool c3] 56 (0, 0))) := (hk2.block pn z0 y3).trans HN1.out.1; have m4 : w2.frozen? ⟨pn, 1, none⟩ = false := free_of_row HV.out; clear hk2))
  all_goals
    have hrow := del_row hg H7.out H5.out h4 h5 hk HD.out
    have HZ := Lib.hid (del_close hBp HN.out HL.out (BW.out.drew) hrow hg HD.out)
    clear m1 m2 m3 m4 hrow
    go_wp2
    go_ret
    exact ⟨rfl, HZ.out⟩
end Go.Proofs.Ytgkefciojoffgaa
