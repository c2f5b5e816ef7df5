/- The walks of packs.Live's closure, and of slices.IndexFunc and DeleteFunc at packs. -/
import Derived.Test.YtcaihncnmjegoaaGreatDoorPkPacksAl13
import Derived.Lib.SlKept
/-! The walks of packs.Live's closure, and of slices.IndexFunc and DeleteFunc at packs. -/
namespace Go.Proofs.YtcaihncnmjegoaaGreatDoor
open Go.RowKit Go.WideMaps Go.Maps
set_option linter.unusedVariables false
set_option linter.unusedSimpArgs false
set_option maxRecDepth 100000
abbrev Lf := Int × Int × Int
/-- is it over, or used up? -/
def deadB (now : Int) (x : Lf) : Bool := decide (x.2.2 ≤ 0) || decide (x.2.1 ≤ now)
def leftA (x : Lf) : Value := .agg #[.int .u32 x.1, .int .i64 x.2.1, .int .i64 x.2.2]
set_option maxHeartbeats 1000000 in
theorem dead_any (now : Int) (x : Lf) (g : Nat) (w : World) (hg : w.cell? ⟨g, 0, none⟩ = some (.int .i64 now)) :
    Calls Tryz.prog 22 #[leftA x, .pointer (some ⟨g, 0, none⟩)] w fun e w' => e = .returned (.bool (deadB now x)) ∧ Below w.heap.size w w' := by
  obtain ⟨a, b, c⟩ := x
  unfold leftA
  have hb := below_alloc w (.cells #[.int .u32 a, .int .i64 b, .int .i64 c] 34)
  have BX := Lib.hid hb
  have hg2 := stays hb hg
  clear hb hg
  unfold deadB
  go_enter Tryz.func22, Tryz.ntmps22
  by_cases h1 : c ≤ 0
  · go_wp2_with fail
    go_ret
    exact ⟨by simp [h1], BX.out⟩
  · by_cases h2 : b ≤ now
    · have h3 : now ≥ b := h2
      go_wp2_with fail
      go_ret
      exact ⟨by simp [h1, h2], BX.out⟩
    · go_wp2_with fail
      go_ret
      exact ⟨by simp [h1, h2], BX.out⟩
theorem lefts_get : ∀ (L : List Lf) (i j : Nat), i < L.length → j < 3 → (leftsC L)[i * 3 + j]? = (leftC L[i]!)[j]?
  | [], i, j, h, _ => by simp at h
  | x :: r, 0, j, _, hj => by
    show (leftC x ++ leftsC r)[0 * 3 + j]? = (leftC x)[j]?
    rw [Nat.zero_mul, Nat.zero_add, List.getElem?_append_left (by exact hj)]
  | x :: r, i + 1, j, h, hj => by
    show (leftC x ++ leftsC r)[(i + 1) * 3 + j]? = _
    have e : (i + 1) * 3 + j = 3 + (i * 3 + j) := by omega
    rw [e, List.getElem?_append_right (by exact Nat.le_add_right 3 _)]
    have e2 : 3 + (i * 3 + j) - (leftC x).length = i * 3 + j := by show 3 + (i * 3 + j) - 3 = _; omega
    rw [e2, lefts_get r i j (by simpa using h) hj]
    congr 1
theorem lefts_set : ∀ (L : List Lf) (i : Nat) (x : Lf), i < L.length → leftsC (L.set i x) = (((leftsC L).set (i * 3) (.int .u32 x.1)).set (i * 3 + 1) (.int .i64 x.2.1)).set (i * 3 + 2) (.int .i64 x.2.2)
  | [], i, x, h => by simp at h
  | y :: r, 0, x, _ => rfl
  | y :: r, i + 1, x, h => by
    show leftC y ++ leftsC (r.set i x) = (((leftC y ++ leftsC r).set ((i + 1) * 3) _).set ((i + 1) * 3 + 1) _).set ((i + 1) * 3 + 2) _
    rw [lefts_set r i x (by simpa using h)]
    have e0 : (i + 1) * 3 = 3 + i * 3 := by omega
    have e1 : (i + 1) * 3 + 1 = 3 + (i * 3 + 1) := by omega
    have e2 : (i + 1) * 3 + 2 = 3 + (i * 3 + 2) := by omega
    have k : ∀ (z : List Value) (m : Nat) (u : Value), (leftC y ++ z).set (3 + m) u = leftC y ++ z.set m u := fun z m u => by
      rw [List.set_append_right _ _ (by exact Nat.le_add_right 3 m)]
      congr 2
      show 3 + m - 3 = m
      omega
    rw [e2, e1, e0, k, k, k]
/-- packs in a row of one's own, by an array -/
abbrev RowL (w : World) (B g cap : Nat) (d : Array Lf) : Prop := w.ownsRow B 34 3 (.slice (some ⟨g, 0, none⟩) d.size cap) d.size (leftsC d.toList)
theorem RowL.cells {w : World} {B g cap : Nat} {d : Array Lf} (h : RowL w B g cap d) {i : Nat} (hi : i < d.size) : w.cell? ⟨g, i * 3, none⟩ = some (.int .u32 d[i]!.1) ∧ w.cell? ⟨g, i * 3 + 1, none⟩ = some (.int .i64 d[i]!.2.1) ∧ w.cell? ⟨g, i * 3 + 2, none⟩ = some (.int .i64 d[i]!.2.2) := by
  have hl : i < d.toList.length := by simpa using hi
  have e : d.toList[i]! = d[i]! := by rw [getElem!_pos d i hi, getElem!_pos d.toList i hl]; simp
  have h0 := lefts_get d.toList i 0 hl (by omega)
  have h1 := lefts_get d.toList i 1 hl (by omega)
  have h2 := lefts_get d.toList i 2 hl (by omega)
  rw [e] at h0 h1 h2
  refine ⟨?_, ?_, ?_⟩
  · rw [h.cellAt (i * 3) (by omega)]; exact h0
  · rw [h.cellAt (i * 3 + 1) (by omega)]; exact h1
  · rw [h.cellAt (i * 3 + 2) (by omega)]; exact h2
theorem RowL.set {w : World} {B g cap : Nat} {d : Array Lf} (h : RowL w B g cap d) {i : Nat} (hi : i < d.size) (x : Lf) :
    RowL (((w.setCell ⟨g, i * 3, none⟩ (.int .u32 x.1)).setCell ⟨g, i * 3 + 1, none⟩ (.int .i64 x.2.1)).setCell ⟨g, i * 3 + 2, none⟩ (.int .i64 x.2.2)) B g cap (d.setIfInBounds i x) ∧ w.grownBy (((w.setCell ⟨g, i * 3, none⟩ (.int .u32 x.1)).setCell ⟨g, i * 3 + 1, none⟩ (.int .i64 x.2.1)).setCell ⟨g, i * 3 + 2, none⟩ (.int .i64 x.2.2)) (some g) := by
  obtain ⟨h1, g1⟩ := h.stored (i * 3) (.int .u32 x.1)
  obtain ⟨h2, g2⟩ := h1.stored (i * 3 + 1) (.int .i64 x.2.1)
  obtain ⟨h3, g3⟩ := h2.stored (i * 3 + 2) (.int .i64 x.2.2)
  refine ⟨?_, (g1.trans g2).trans g3⟩
  unfold RowL
  rw [Array.size_setIfInBounds, Array.toList_setIfInBounds, lefts_set _ _ _ (by simpa using hi)]
  exact h3
theorem RowL.below {w w' : World} {B g cap : Nat} {d : Array Lf} (h : RowL w B g cap d) (hb : Below w.heap.size w w') : RowL w' B g cap d := ownsRow_below h hb
theorem RowL.lt {w : World} {B g cap : Nat} {d : Array Lf} (h : RowL w B g cap d) : B ≤ g ∧ g < w.heap.size := World.ownsRow.lt h g rfl
def IdxEnd (now : Int) (d : Array Lf) (w : World) (e : Ending) (w' : World) : Prop := Below w.heap.size w w' ∧ ((e = .returned (.int .i64 (-1)) ∧ ∀ j, j < d.size → deadB now d[j]! = false) ∨ ∃ k : Nat, k < d.size ∧ e = .returned (.int .i64 k) ∧ deadB now d[k]! = true ∧ ∀ j, j < k → deadB now d[j]! = false)
set_option maxHeartbeats 1000000 in
theorem indexL_any {B g cap gb : Nat} {now : Int} {d : Array Lf} (w : World) (hO : RowL w B g cap d) (hg : w.cell? ⟨gb, 0, none⟩ = some (.int .i64 now)) (hn : d.size ≤ 1000000) :
    Calls Tryz.prog 34 #[.slice (some ⟨g, 0, none⟩) d.size cap, .func (.func 22) #[] #[.pointer (some ⟨gb, 0, none⟩)]] w (IdxEnd now d w) := by
  have HO := Lib.hid hO
  have HG := Lib.hid hg
  have HN := Lib.hid hn
  clear hO hg
  unfold IdxEnd
  go_enter Tryz.func34, Tryz.ntmps34
  go_wp2_with fail
  go_loopw [8] (fun iv wr => ∃ k : Nat, k ≤ d.size ∧ iv = .int .i64 k ∧ Hid (∀ j, j < k → deadB now d[j]! = false) ∧ Hid (Below w.heap.size w wr)) (fun iv _ => d.size - (intOf iv).toNat)
  case atStart => exact ⟨0, by omega, rfl, fun i hi => by omega, Below.refl _ _⟩
  case round =>
    obtain ⟨k, hk, rfl, HA, BR⟩ := hrel
    by_cases hlt : k < d.size
    · have hz : (k : Int) < (d.size : Int) := by omega
      obtain ⟨c0, c1, c2⟩ := (HO.out.below BR.out).cells hlt
      have BX := Lib.hid (dead_any now d[k]! gb wr (stays BR.out HG.out))
      have HY : Hid (∀ b, deadB now d[k]! = b → deadB now d[k]! = b) := fun _ h => h
      obtain ⟨y, hy⟩ : ∃ y, d[k]! = y := ⟨_, rfl⟩
      rw [hy] at c0 c1 c2 BX
      have HYY := Lib.hid hy
      clear hy HY
      obtain ⟨y0, y1, y2⟩ := y
      unfold leftA at BX
      simp only at c0 c1 c2 BX
      generalize hq : deadB now (y0, y1, y2) = bb at *
      have HQ := Lib.hid hq
      clear hq
      go_wp2_with fail
      refine BX.out.mono ?_
      rintro e w2 ⟨rfl, hb⟩
      have B2 := Lib.hid (onward hb BR.out)
      clear hb BX c0 c1 c2
      cases bb
      · have HA2 : Hid (∀ j, j < k + 1 → deadB now d[j]! = false) := fun j hj => by
          rcases Nat.lt_or_ge j k with h | h
          · exact HA.out j h
          · obtain rfl : j = k := by omega
            rw [HYY.out]
            exact HQ.out
        have hnn := HN.out
        go_wp2_with fail
        go_roundw
        case rel => exact ⟨k + 1, by omega, by go_num, HA2.out, B2.out⟩
        case measure => simp [intOf]; omega
      · go_wp2_with fail
        go_ret
        exact ⟨B2.out, .inr ⟨k, hlt, rfl, by rw [HYY.out]; exact HQ.out, HA.out⟩⟩
    · have dk : decide ((k : Int) < ((d.size : Nat) : Int)) = false := decide_eq_false (by omega)
      go_wp2_with fail
      go_ret
      exact ⟨BR.out, .inl ⟨rfl, fun j hj => HA.out j (by omega)⟩⟩
theorem run_clear_rows {P : Program} (w : World) (t e ty : TypeId) (z : Value) (ht : P.underlying t = some (.slice e)) (hv : ∀ w, (zeroValue e).run P w = .ok z w) (n : Nat) (h1 : ∀ u ∈ (Builtin.zeroCells z.cells (n + 1)).toList, u.oneCell' = true) (b o c : Nat)
    (hc : ∀ j, j < (Builtin.zeroCells z.cells (n + 1)).toList.length → (w.cell? ⟨b, o + j, none⟩).isSome = true) (hf : ∀ j, j < (Builtin.zeroCells z.cells (n + 1)).toList.length → w.frozen? ⟨b, o + j, none⟩ = false) :
    (Builtin.clear_ #[t] ty #[.slice (some ⟨b, o, none⟩) (n + 1) c]).run P w = .ok (.tuple #[]) (w.setCells b o (Builtin.zeroCells z.cells (n + 1)).toList) := by
  have hst := run_storeCells_cells (P := P) b o (Builtin.zeroCells z.cells (n + 1)).toList 0 w (by simpa using hc) (by simpa using hf) h1
  simp only [Nat.add_zero] at hst
  simp [Builtin.clear_, run_underlying ht, hv, hst]
theorem zeroLeft (w : World) : (zeroValue 34).run Tryz.prog w = .ok (.agg #[.int .u32 0, .int .i64 0, .int .i64 0]) w := by kernel_rfl
def zLs (n : Nat) : List Value := (Builtin.zeroCells (Value.agg #[.int .u32 0, .int .i64 0, .int .i64 0]).cells n).toList
theorem zLs_len (n : Nat) : (zLs n).length = n * 3 := by simp [zLs, Builtin.zeroCells, Value.cells]
theorem zLs_one (n : Nat) : ∀ u ∈ zLs n, u.oneCell' = true := by
  intro u hu
  simp [zLs, Builtin.zeroCells, Value.cells] at hu
  obtain ⟨i, hi, rfl⟩ := hu
  have : i % 3 = 0 ∨ i % 3 = 1 ∨ i % 3 = 2 := by omega
  rcases this with h | h | h <;> rw [h] <;> rfl
theorem lefts_length (L : List Lf) : (leftsC L).length = L.length * 3 := by
  induction L with
  | nil => rfl
  | cons x r ih => show (leftC x ++ leftsC r).length = _; rw [List.length_append, ih, List.length_cons]; show 3 + _ = _; omega
theorem lefts_take : ∀ (L : List Lf) (i : Nat), leftsC (L.take i) = (leftsC L).take (i * 3)
  | [], i => by simp [leftsC]
  | x :: r, 0 => by simp [leftsC]
  | x :: r, i + 1 => by
    show leftC x ++ leftsC (r.take i) = (leftC x ++ leftsC r).take ((i + 1) * 3)
    rw [lefts_take r i, show (i + 1) * 3 = (leftC x).length + i * 3 from by show _ = 3 + _; omega, List.take_length_add_append]
theorem RowL.cut {w : World} {B g cap : Nat} {d : Array Lf} (h : RowL w B g cap d) {i : Nat} (hi : i ≤ d.size) (vs : List Value) (hv : vs.length = (d.size - i) * 3) :
    (w.setCells g (i * 3) vs).ownsRow B 34 3 (.slice (some ⟨g, 0, none⟩) i cap) i (leftsC (d.toList.take i)) ∧ w.grownBy (w.setCells g (i * 3) vs) (some g) := by
  obtain ⟨hx, ⟨e, _⟩ | ⟨g', cap', cur, e, hb, hg, hnc, hcm, hcs, ht⟩⟩ := h
  · cases e
  · injection e with e1 e2 e3
    injection e1 with e1
    injection e1 with e1 _ _
    subst e1 e3
    have hcl : cur.toList.length = cap * 3 := by rw [Array.length_toList]; exact hcs
    refine ⟨⟨by rw [lefts_length, List.length_take, Array.length_toList]; omega, .inr ⟨g, cap, setL cur (i * 3) vs, rfl, hb, setCells_block _ _ _ _ _ _ hg, by omega, hcm, by rw [setL_size]; exact hcs, ?_⟩⟩, ?_⟩
    · rw [setL_list _ _ _ (by rw [hv, hcs]; omega), List.take_left' (by rw [List.length_take, hcl]; omega), lefts_take, ← ht, List.take_take, Nat.min_eq_left (by omega)]
    · have k := Kept.setCells (S := (· = g)) g rfl vs w (i * 3)
      exact ⟨k.os, k.tape, k.output, k.size, fun b hb hne => k.block b hb (fun e => hne (by rw [e]))⟩
def DelEndL (B g cap : Nat) (now : Int) (d : Array Lf) (w : World) (e : Ending) (w' : World) : Prop := ∃ F, F = d.toList.filter (fun x => !deadB now x) ∧ e = .returned (.slice (some ⟨g, 0, none⟩) F.length cap) ∧ w'.ownsRow B 34 3 (.slice (some ⟨g, 0, none⟩) F.length cap) F.length (leftsC F) ∧ w.grownBy w' (some g)
theorem grown_below {w w' : World} {r : Option Nat} (h : Below w.heap.size w w') : w.grownBy w' r := ⟨h.os, h.tape, h.output, h.size, fun k hk _ => h.block k hk⟩
set_option maxHeartbeats 2000000 in
theorem delL_any {B g cap gb : Nat} {now : Int} {d : Array Lf} (w : World) (hO : RowL w B g cap d) (hg : w.cell? ⟨gb, 0, none⟩ = some (.int .i64 now)) (hne : gb ≠ g) (hn : d.size ≤ 1000000) :
    Calls Tryz.prog 21 #[.slice (some ⟨g, 0, none⟩) d.size cap, .func (.func 22) #[] #[.pointer (some ⟨gb, 0, none⟩)]] w (DelEndL B g cap now d w) := by
  have HO := Lib.hid hO
  have HG := Lib.hid hg
  have HN := Lib.hid hn
  have IX := Lib.hid (indexL_any w hO hg hn)
  have hcap : d.size ≤ cap := by
    obtain ⟨hx, ⟨e, _⟩ | ⟨g', cap', cur, e, hb, hg, hnc, hcm, hcs, ht⟩⟩ := hO
    · cases e
    · injection e with e1 e2 e3
      subst e3
      exact hnc
  clear hO hg
  obtain ⟨kp, HK⟩ : ∃ kp : Nat → Bool, Hid (kp = fun j => !deadB now d[j]!) := ⟨_, rfl⟩
  have hfil : (d.toList.filter fun x => !deadB now x) = Lib.keptUpTo kp d d.size := by rw [HK.out]; exact (Lib.keptUpTo_filter (fun x => !deadB now x) d).symm
  have HFL := Lib.hid hfil
  clear hfil
  go_enter Tryz.func21, Tryz.ntmps21
  go_wp2_with fail
  refine IX.out.mono ?_
  rintro e w1 ⟨hb, ⟨rfl, hall⟩ | ⟨k0, hk0, rfl, ht, hall⟩⟩
  · have HE : Hid (DelEndL B g cap now d w (.returned (.slice (some ⟨g, 0, none⟩) d.size cap)) w1) := by
      have e3 : d.toList.filter (fun x => !deadB now x) = d.toList := by
        rw [HFL.out, Lib.keptUpTo_all kp d _ (fun j hj => by rw [HK.out]; show (!deadB now d[j]!) = true; rw [hall j hj]; rfl), Lib.range_map_get]
      refine ⟨d.toList, e3.symm, by rw [Array.length_toList], ?_, grown_below hb⟩
      rw [Array.length_toList]
      exact HO.out.below hb
    clear hall hb IX
    go_wp2_with fail
    go_ret
    exact HE.out
  · have KI : Hid (Lib.KeptInv kp d (k0 + 1) k0 d) := Lib.KeptInv.start (fun j hj => by rw [HK.out]; show (!deadB now d[j]!) = true; rw [hall j hj]; rfl) (by rw [HK.out]; show (!deadB now d[k0]!) = false; rw [ht]; rfl)
    have O1 := Lib.hid (HO.out.below hb)
    have G1 : Hid (w.grownBy w1 (some g)) := grown_below hb
    clear hall ht hb IX
    have hne1 : ((k0 : Int) == -1) = false := beq_eq_false_iff_ne.2 (by omega)
    go_wp2_with fail
    go_loopw [5, 6, 7] (fun s5 s6 _ wr => ∃ (i j : Nat) (dk : Array Lf), s5 = .int .i64 i ∧ s6 = .int .i64 j ∧ j ≤ d.size ∧ Hid (Lib.KeptInv kp d j i dk) ∧ Hid (RowL wr B g cap dk) ∧ Hid (w.grownBy wr (some g))) (fun _ s6 _ _ => d.size - (intOf s6).toNat)
    case atStart => exact ⟨k0, k0 + 1, d, rfl, by go_num, by omega, KI.out, O1.out, G1.out⟩
    case round =>
      obtain ⟨i, j, dk, rfl, rfl, hjd, I2, O2, G2⟩ := hrel
      have hij := I2.out.lt
      have hds := I2.out.size
      by_cases hlt : j < d.size
      · have hz : (j : Int) < (d.size : Int) := by omega
        have hzj : (j : Int) < (cap : Int) := by omega
        have hzi : (i : Int) < (d.size : Int) := by omega
        obtain ⟨c0, c1, c2⟩ := O2.out.cells (i := j) (by omega)
        rw [I2.out.high j (by omega)] at c0 c1 c2
        obtain ⟨y, hy⟩ : ∃ y, d[j]! = y := ⟨_, rfl⟩
        rw [hy] at c0 c1 c2
        have HY := Lib.hid hy
        clear hy
        obtain ⟨y0, y1, y2⟩ := y
        simp only at c0 c1 c2
        obtain ⟨w4, hw4⟩ : ∃ W, W = wr.alloc (.cells #[.int .u32 y0, .int .i64 y1, .int .i64 y2] 34) := ⟨_, rfl⟩
        have hb4 : Below wr.heap.size wr w4 := by rw [hw4]; exact below_alloc _ _
        have h4 : w4.heap[wr.heap.size]? = some (.cells #[.int .u32 y0, .int .i64 y1, .int .i64 y2] 34 (0, 0)) := by rw [hw4]; exact alloc_block _ _ _ _
        have hgc : wr.cell? ⟨gb, 0, none⟩ = some (.int .i64 now) := G2.out.cell HG.out (fun e => hne (by injection e))
        have BX := Lib.hid (dead_any now (y0, y1, y2) gb w4 (stays hb4 hgc))
        have O4 := Lib.hid (O2.out.below hb4)
        have G4 : Hid (w.grownBy w4 (some g)) := G2.out.trans (grown_below hb4)
        have H4 := Lib.hid h4
        obtain ⟨q0, q1, q2⟩ := box3c h4
        unfold leftA at BX
        simp only at BX
        generalize hq : deadB now (y0, y1, y2) = bb at *
        have HQ := Lib.hid hq
        clear hq hb4 h4 hgc
        go_upto_region 8 with fail
        rw [← hw4]
        clear hw4
        go_wp2_with fail
        refine BX.out.mono ?_
        rintro e w5 ⟨rfl, hb⟩
        obtain ⟨q0, q1, q2⟩ := box3c (stays_block hb H4.out)
        have O5 := Lib.hid (O4.out.below hb)
        have G5 : Hid (w.grownBy w5 (some g)) := G4.out.trans (grown_below hb)
        clear hb BX O4 G4 c0 c1 c2
        cases bb
        · have I3 : Hid (Lib.KeptInv kp d (j + 1) (i + 1) (dk.setIfInBounds i (y0, y1, y2))) := by
            have := I2.out.keep hlt (by rw [HK.out]; show (!deadB now d[j]!) = true; rw [HY.out, HQ.out]; rfl)
            rwa [HY.out] at this
          obtain ⟨d0, d1, d2⟩ := O5.out.cells (i := i) (by omega)
          have f0 := O5.out.frozenAt (i * 3)
          have f1 := O5.out.frozenAt (i * 3 + 1)
          have f2 := O5.out.frozenAt (i * 3 + 2)
          obtain ⟨o6, g6⟩ := O5.out.set (i := i) (by omega) (y0, y1, y2)
          simp only at o6 g6
          obtain ⟨WF, hWF⟩ : ∃ W, W = ((w5.setCell ⟨g, i * 3, none⟩ (.int .u32 y0)).setCell ⟨g, i * 3 + 1, none⟩ (.int .i64 y1)).setCell ⟨g, i * 3 + 2, none⟩ (.int .i64 y2) := ⟨_, rfl⟩
          rw [← hWF] at o6 g6
          have O6 := Lib.hid o6
          have G6 : Hid (w.grownBy WF (some g)) := G5.out.trans g6
          clear o6 g6 O5 G5
          go_upto_region 10 with fail
          rw [← hWF]
          clear hWF
          go_wp2_with fail
          go_roundw
          case rel => exact ⟨i + 1, j + 1, _, by go_num, by go_num, by omega, I3.out, O6.out, G6.out⟩
          case measure => simp [intOf]; omega
        · have I3 : Hid (Lib.KeptInv kp d (j + 1) i dk) := I2.out.skip (by rw [HK.out]; show (!deadB now d[j]!) = false; rw [HY.out, HQ.out]; rfl)
          go_wp2_with fail
          go_roundw
          case rel => exact ⟨i, j + 1, dk, rfl, by go_num, by omega, I3.out, O5.out, G5.out⟩
          case measure => simp [intOf]; omega
      · obtain rfl : j = d.size := by omega
        have dk0 : decide ((d.size : Int) < (d.size : Int)) = false := decide_eq_false (by omega)
        obtain ⟨m, hm⟩ : ∃ m, d.size - i = m + 1 := ⟨d.size - i - 1, by omega⟩
        have hcl : ∀ ty c2, (Builtin.clear_ #[24] ty #[.slice (some ⟨g, i * 3, none⟩) (d.size - i) c2]).run Tryz.prog wr = .ok (.tuple #[]) (wr.setCells g (i * 3) (zLs (d.size - i))) := fun ty c2 => by
          rw [hm]
          have hgl : ∀ q, q < (zLs (m + 1)).length → (wr.cell? ⟨g, i * 3 + q, none⟩).isSome = true := fun q hq => by
            rw [zLs_len] at hq
            rw [O2.out.cellAt (i * 3 + q) (by omega), List.getElem?_eq_getElem (by rw [lefts_length, Array.length_toList]; omega)]
            rfl
          exact run_clear_rows wr _ 34 ty _ Tryz.underlying24 zeroLeft m (zLs_one (m + 1)) g _ c2 hgl (fun q hq => O2.out.frozenAt _)
        obtain ⟨o6, g6⟩ := O2.out.cut (i := i) (by omega) (zLs (d.size - i)) (by rw [zLs_len, hds])
        obtain ⟨WF, hWF⟩ : ∃ W, W = wr.setCells g (i * 3) (zLs (d.size - i)) := ⟨_, rfl⟩
        rw [← hWF] at o6 g6 hcl
        have HE : Hid (DelEndL B g cap now d w (.returned (.slice (some ⟨g, 0, none⟩) i cap)) WF) := by
          have hI := I2.out
          have e1 : d.toList.filter (fun x => !deadB now x) = dk.toList.take i := by
            rw [HFL.out]
            refine List.ext_getElem? fun q => ?_
            by_cases hq : q < i
            · rw [hI.low q hq, List.getElem?_take_of_lt hq, Array.getElem?_toList, Array.getElem?_eq_getElem (by omega), getElem!_pos dk q (by omega)]
            · rw [List.getElem?_eq_none (by rw [hI.len]; omega), List.getElem?_eq_none (by rw [List.length_take]; omega)]
          have e2 : (dk.toList.take i).length = i := by rw [List.length_take, Array.length_toList]; omega
          refine ⟨_, e1.symm, by rw [e2], by rw [e2]; exact o6, G2.out.trans g6⟩
        have hz1 : (i : Int) ≤ (d.size : Int) := by omega
        have hz2 : (i : Int) ≤ (cap : Int) := by omega
        clear o6 g6 O2 G2 hm hWF
        go_wp2_with fail
        go_ret
        exact HE.out
end Go.Proofs.YtcaihncnmjegoaaGreatDoor

