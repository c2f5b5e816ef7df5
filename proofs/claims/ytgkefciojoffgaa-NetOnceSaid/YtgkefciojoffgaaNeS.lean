/- The reference's net: New, gate, Cut. -/
import Derived.Test.YtgkefciojoffgaaNeR
namespace Go.Proofs.Ytgkefciojoffgaa
open Go.RowKit
set_option linter.unusedVariables false
set_option linter.unusedSimpArgs false
attribute [local go_sem ↓] Go.wp_at_zero Go.wp_at_succ
/-- the reference's net in block rp: its gates, its letters behind v, its cut links in block gb -/
def RefV (w : World) (rp gb : Nat) (G : Int) (v : Value) (L : List Lt) (c1 c2 c3 : Bool) : Prop :=
  w.heap[rp]? = some (.cells #[.int .i64 G, v, .slice (some ⟨gb, 0, none⟩) 4 4] 49 (0, 0)) ∧ w.heap[gb]? = some (.cells #[.bool false, .bool c1, .bool c2, .bool c3] 4 (0, 0)) ∧ w.ownsRow (rp + 1) 30 3 v L.length (L.flatMap Lt.cells)
theorem RefV.below {w w' : World} {rp gb : Nat} {G : Int} {v : Value} {L : List Lt} {c1 c2 c3 : Bool} (h : RefV w rp gb G v L c1 c2 c3) (hb : Below w.heap.size w w') : RefV w' rp gb G v L c1 c2 c3 := ⟨stays_block hb h.1, stays_block hb h.2.1, ownsRow_below h.2.2 hb⟩
/-- what an act on it may turn -/
def MineR (rp gb : Nat) (v : Value) (k : Nat) : Prop := k = rp ∨ k = gb ∨ v.ownBlock = some k
def RefEnd (B rp gb : Nat) (G : Int) (v : Value) (L' : List Lt) (c1 c2 c3 : Bool) (w w' : World) : Prop :=
  ∃ v', RefV w' rp gb G v' L' c1 c2 c3 ∧ LtsAt B w' L' ∧ Kept (MineR rp gb v) w w' ∧ (v'.ownBlock = v.ownBlock ∨ ∀ k, v'.ownBlock = some k → w.heap.size ≤ k)
theorem RefEnd.same {B rp gb : Nat} {G : Int} {v : Value} {L : List Lt} {c1 c2 c3 : Bool} {w w' : World} (h : RefV w rp gb G v L c1 c2 c3) (hl : LtsAt B w L) (hb : Below w.heap.size w w') : RefEnd B rp gb G v L c1 c2 c3 w w' :=
  ⟨v, h.below hb, hl.step (.of_below hb), Kept.of_below hb _, .inl rfl⟩
theorem RefV.stp {B : Nat} {w w' : World} {rp gb : Nat} {G : Int} {v : Value} {L : List Lt} {c1 c2 c3 : Bool} (h : RefV w rp gb G v L c1 c2 c3) (hB : B ≤ rp) (hBg : B ≤ gb) (hk : Kept (MineR rp gb v) w w') : Stp B w w' :=
  .of_kept hk fun k hm => by
    rcases hm with rfl | rfl | hm
    · exact ⟨hB, _, _, _, h.1, by decide⟩
    · exact ⟨hBg, _, _, _, h.2.1, by decide⟩
    · obtain ⟨h1, cs, h2⟩ := own_typed h.2.2 hm
      exact ⟨by omega, _, _, _, h2, by decide⟩
theorem infoBool : (Try.prog.info? 4).map (fun i => (i.zero, i.size, i.bytes)) = some (some (.bool false), 1, 1) := by kernel_rfl
set_option maxHeartbeats 1000000 in
theorem rnew_any (G : Int) (w : World) : Calls Try.prog 19 #[.int .i64 G] w fun e w' => e = .returned (.pointer (some ⟨w.heap.size + 1, 0, none⟩)) ∧ RefV w' (w.heap.size + 1) w.heap.size G (.slice none 0 0) [] false false false ∧ Below w.heap.size w w' ∧ w'.heap.size = w.heap.size + 2 := by
  have hmk : ∀ w, (Instr.makeSlice 47 (.int .i64 4) (.int .i64 4)).run Try.prog w = .ok (.slice (some ⟨w.heap.size, 0, none⟩) 4 4) (w.alloc (.cells #[.bool false, .bool false, .bool false, .bool false] 4)) := fun w => by
    obtain ⟨i0, hi, hz0, hz1, hz2⟩ := info_parts infoBool
    have := run_make w 47 4 i0 (.bool false) Try.underlying47 hi hz0 .i64 .i64 4 4 (by decide) (by decide) (by rw [hz2]; decide) (by decide)
    rw [hz1, show madeCells (Value.bool false).cells (Int.toNat 4 * 1) = #[.bool false, .bool false, .bool false, .bool false] by kernel_rfl] at this
    exact this
  have b1 := below_alloc w (.cells #[.bool false, .bool false, .bool false, .bool false] 4)
  have b2 := below_alloc (w.alloc (.cells #[.bool false, .bool false, .bool false, .bool false] 4)) (.cells #[.int .i64 G, .slice none 0 0, .slice (some ⟨w.heap.size, 0, none⟩) 4 4] 49)
  have HB := Lib.hid (onward b2 b1)
  have HR : Hid (RefV ((w.alloc (.cells #[.bool false, .bool false, .bool false, .bool false] 4)).alloc (.cells #[.int .i64 G, .slice none 0 0, .slice (some ⟨w.heap.size, 0, none⟩) 4 4] 49)) (w.heap.size + 1) w.heap.size G (.slice none 0 0) [] false false false) := by
    refine ⟨?_, stays_block b2 (heap_alloc_new w _), ⟨rfl, .inl ⟨rfl, rfl⟩⟩⟩
    have := heap_alloc_new (w.alloc (.cells #[.bool false, .bool false, .bool false, .bool false] 4)) (.cells #[.int .i64 G, .slice none 0 0, .slice (some ⟨w.heap.size, 0, none⟩) 4 4] 49)
    have e : (w.alloc (.cells #[.bool false, .bool false, .bool false, .bool false] 4)).heap.size = w.heap.size + 1 := by simp
    rw [e] at this
    exact this
  clear b1 b2
  go_enter Try.func19, Try.ntmps19
  go_wp2_with fail
  go_ret
  exact ⟨rfl, HR.out, HB.out, by simp⟩
theorem ref_cells {w : World} {b : Nat} {T : Nat} {x0 x1 x2 : Value} (h : w.heap[b]? = some (.cells #[x0, x1, x2] T (0, 0))) : b < w.heap.size ∧ w.cell? ⟨b, 0, none⟩ = some x0 ∧ w.cell? ⟨b, 1, none⟩ = some x1 ∧ w.cell? ⟨b, 2, none⟩ = some x2 := three_cells h
/-- the gateway of a letter, or 0 -/
def rgate (G f t : Int) : Int := if f = 0 then (if 1 ≤ t ∧ t ≤ G then t else 0) else if t = 0 then (if 1 ≤ f ∧ f ≤ G then f else 0) else 0
set_option maxHeartbeats 2000000 in
theorem rgate_any (rp : Nat) (G f t : Int) (a : Option Addr) (n c : Nat) (w : World) (hG : w.cell? ⟨rp, 0, none⟩ = some (.int .i64 G)) :
    Calls Try.prog 31 #[.pointer (some ⟨rp, 0, none⟩), .agg #[.int .i64 f, .int .i64 t, .slice a n c]] w fun e w' => e = .returned (.int .i64 (rgate G f t)) ∧ Below w.heap.size w w' := by
  have hG2 : (w.alloc (.cells #[.int .i64 f, .int .i64 t, .slice a n c] 30)).cell? ⟨rp, 0, none⟩ = some (.int .i64 G) := stays (below_alloc _ _) hG
  have BW := Lib.hid (below_alloc w (.cells #[.int .i64 f, .int .i64 t, .slice a n c] 30))
  unfold rgate
  by_cases h0 : f = 0
  · subst h0
    rw [if_pos rfl]
    by_cases h1 : 1 ≤ t
    · by_cases h2 : t ≤ G
      · rw [if_pos ⟨h1, h2⟩]
        go_enter Try.func31, Try.ntmps31
        go_wp2_with fail
        go_ret
        exact ⟨rfl, BW.out⟩
      · rw [if_neg (fun h => h2 h.2)]
        have h2 : G < t := by omega
        go_enter Try.func31, Try.ntmps31
        go_wp2_with fail
        go_ret
        exact ⟨rfl, BW.out⟩
    · rw [if_neg (fun h => h1 h.1)]
      have h1 : t < 1 := by omega
      go_enter Try.func31, Try.ntmps31
      go_wp2_with fail
      go_ret
      exact ⟨rfl, BW.out⟩
  · rw [if_neg h0]
    have e0 : (f == 0) = false := by simp [h0]
    by_cases h1 : t = 0
    · subst h1
      rw [if_pos rfl]
      clear h0
      by_cases h1 : 1 ≤ f
      · by_cases h2 : f ≤ G
        · rw [if_pos ⟨h1, h2⟩]
          go_enter Try.func31, Try.ntmps31
          go_wp2_with fail
          go_ret
          exact ⟨rfl, BW.out⟩
        · rw [if_neg (fun h => h2 h.2)]
          have h2 : G < f := by omega
          go_enter Try.func31, Try.ntmps31
          go_wp2_with fail
          go_ret
          exact ⟨rfl, BW.out⟩
      · rw [if_neg (fun h => h1 h.1)]
        have h1 : f < 1 := by omega
        go_enter Try.func31, Try.ntmps31
        go_wp2_with fail
        go_ret
        exact ⟨rfl, BW.out⟩
    · rw [if_neg h1]
      have e1 : (t != 0) = true := by simp [h1]
      clear h0 h1
      go_enter Try.func31, Try.ntmps31
      go_wp2_with fail
      go_ret
      exact ⟨rfl, BW.out⟩
theorem rgate_gate {G f t : Int} (hG : 1 ≤ G ∧ G ≤ 3) (hf : i64 f) (ht : i64 t) : (rgate G f t = 0 ↔ gateB G f t = false) ∧ (gateB G f t = true → rgate G f t = gateI f t) := by
  unfold rgate gateB gateI i64 at *
  by_cases h0 : f = 0
  · subst h0
    have e : wrap64 (0 + t) = t := by unfold wrap64; omega
    rw [e, if_pos rfl]
    by_cases h1 : t = 0
    · subst h1; simp
    · have : (t == 0) = false := by simp [h1]
      rw [this]
      by_cases h2 : 1 ≤ t ∧ t ≤ G
      · rw [if_pos h2]; simp [h1, h2]
      · rw [if_neg h2]; simp; omega
  · rw [if_neg h0]
    have e0 : (f == 0) = false := by simp [h0]
    by_cases h1 : t = 0
    · subst h1
      have e : wrap64 (f + 0) = f := by unfold wrap64; omega
      rw [e, if_pos rfl, e0]
      by_cases h2 : 1 ≤ f ∧ f ≤ G
      · rw [if_pos h2]; simp [h0, h2]
      · rw [if_neg h2]; simp; omega
    · have e1 : (t == 0) = false := by simp [h1]
      rw [if_neg h1, e0, e1]; simp
set_option maxHeartbeats 2000000 in
theorem rcut_no (rp gb : Nat) (G : Int) (v : Value) (L : List Lt) (c1 c2 c3 : Bool) (g : Int) (b : Bool) (w : World) (hN : RefV w rp gb G v L c1 c2 c3) (hg : g < 1 ∨ G < g) :
    Calls Try.prog 22 #[.pointer (some ⟨rp, 0, none⟩), .int .i64 g, .bool b] w fun e w' => e = .returned (.int .i64 1) ∧ w = w' := by
  obtain ⟨z0, n0, n1, n2⟩ := three_cells hN.1
  clear hN
  by_cases h : g < 1
  · clear hg
    go_enter Try.func22, Try.ntmps22
    go_wp2_with fail
    go_ret
    exact ⟨rfl, rfl⟩
  · have hg : G < g := by omega
    go_enter Try.func22, Try.ntmps22
    go_wp2_with fail
    go_ret
    exact ⟨rfl, rfl⟩
set_option maxHeartbeats 2000000 in
theorem rcut_yes (B rp gb : Nat) (G : Int) (v : Value) (L : List Lt) (c1 c2 c3 : Bool) (g : Int) (b : Bool) (w : World) (hBp : B ≤ rp) (hBg : B ≤ gb) (hN : RefV w rp gb G v L c1 c2 c3) (hL : LtsAt B w L) (hg : 1 ≤ g) (hG : g ≤ G) (h3 : G ≤ 3) :
    Calls Try.prog 22 #[.pointer (some ⟨rp, 0, none⟩), .int .i64 g, .bool b] w fun e w' => e = .returned (.int .i64 0) ∧ RefEnd B rp gb G v L (if g = 1 then b else c1) (if g = 2 then b else c2) (if g = 3 then b else c3) w w' := by
  obtain ⟨z0, n0, n1, n2⟩ := three_cells hN.1
  have gc : ∀ i, w.cell? ⟨gb, i, none⟩ = #[.bool false, .bool c1, .bool c2, .bool c3][i]? := fun i => cell_of_row hN.2.1
  have fz : ∀ i, w.frozen? ⟨gb, i, none⟩ = false := fun i => free_of_row hN.2.1
  have hcl : ∀ i, RefEnd B rp gb G v L (if i = 1 then b else c1) (if i = 2 then b else c2) (if i = 3 then b else c3) w (w.setCell ⟨gb, i, none⟩ (.bool b)) ∨ ¬ (i = 1 ∨ i = 2 ∨ i = 3) := by
    intro i
    by_cases hi : i = 1 ∨ i = 2 ∨ i = 3
    · have hk : Kept (MineR rp gb v) w (w.setCell ⟨gb, i, none⟩ (.bool b)) := Kept.setCell _ _ _ (.inr (.inl rfl))
      have hne : rp ≠ gb := ne_typed hN.1 hN.2.1 (by decide)
      have hk1 : Kept (· = gb) w (w.setCell ⟨gb, i, none⟩ (.bool b)) := Kept.setCell _ _ _ rfl
      refine .inl ⟨v, ⟨(hk1.block rp (lt_of_block hN.1) hne).trans hN.1, ?_, ?_⟩, hL.step (hN.stp hBp hBg hk), hk, .inl rfl⟩
      · have := set_block (j := i) (u := .bool b) hN.2.1
        rcases hi with rfl | rfl | rfl <;> exact this
      · refine ownsRow_setCell_other (a := ⟨gb, i, none⟩) hN.2.2 (fun e => ?_) _
        obtain ⟨_, cs, hcs⟩ := own_typed hN.2.2 e
        exact ne_typed hN.2.1 hcs (by decide) rfl
    · exact .inr hi
  have HC := Lib.hid hcl
  have f1 := fz 1
  have f2 := fz 2
  have f3 := fz 3
  have q1 : w.cell? ⟨gb, 1, none⟩ = some (.bool c1) := gc 1
  have q2 : w.cell? ⟨gb, 2, none⟩ = some (.bool c2) := gc 2
  have q3 : w.cell? ⟨gb, 3, none⟩ = some (.bool c3) := gc 3
  clear hcl hN hL fz gc
  have hgg : g = 1 ∨ g = 2 ∨ g = 3 := by omega
  rcases hgg with rfl | rfl | rfl
  all_goals
    go_enter Try.func22, Try.ntmps22
    go_wp2_with fail
    go_ret
    first
    | exact ⟨rfl, (HC.out 1).resolve_right (by simp)⟩
    | exact ⟨rfl, (HC.out 2).resolve_right (by simp)⟩
    | exact ⟨rfl, (HC.out 3).resolve_right (by simp)⟩
end Go.Proofs.Ytgkefciojoffgaa
