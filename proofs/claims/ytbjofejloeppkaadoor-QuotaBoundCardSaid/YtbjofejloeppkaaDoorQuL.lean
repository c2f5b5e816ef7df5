/- The walk of law 22's QuotaBound. -/
import Derived.Test.YtbjofejloeppkaaDoorQuK
import Derived.Test.YtbjofejloeppkaaDoorQuJ
import Derived.Test.YtbjofejloeppkaaDoorOpn
namespace Go.Proofs.YtbjofejloeppkaaDoor
open Go.RowKit Go.Shelf Acct
set_option linter.unusedVariables false
set_option linter.unusedSimpArgs false
def PlaceAt (w : World) (b : Nat) (sh da mo pl : Int) : Prop := w.heap[b]? = some (.cells #[.int .i64 sh, .int .i64 da, .int .i64 mo, .int .u32 pl] 31 (0, 0))
theorem PlaceAt.below {w w1 : World} {b : Nat} {sh da mo pl : Int} (hh : PlaceAt w b sh da mo pl) (hb : Below w.heap.size w w1) : PlaceAt w1 b sh da mo pl := stays_block hb hh
theorem PlaceAt.all {w : World} {b : Nat} {sh da mo pl : Int} (hh : PlaceAt w b sh da mo pl) : b < w.heap.size ∧ w.cell? ⟨b, 0, none⟩ = some (.int .i64 sh) ∧ w.cell? ⟨b, 1, none⟩ = some (.int .i64 da) ∧ w.cell? ⟨b, 2, none⟩ = some (.int .i64 mo) ∧ w.cell? ⟨b, 3, none⟩ = some (.int .u32 pl) := by
  refine ⟨lt_of_block hh, ?_, ?_, ?_, ?_⟩ <;> (unfold PlaceAt at hh; simp [World.cell?, hh])
theorem HvAt.set9 {w : World} {b : Nat} {h : Hv} (hh : HvAt w b h) (n : Int) : HvAt (w.setCell ⟨b, 9, none⟩ (.int .i64 n)) b { h with pk := n } := set_block hh
theorem PlaceAt.set {w : World} {b b2 j : Nat} {u : Value} {sh da mo pl : Int} (hh : PlaceAt w b sh da mo pl) (hb : b ≠ b2) : PlaceAt (w.setCell ⟨b2, j, none⟩ u) b sh da mo pl := by
  unfold PlaceAt at *
  rw [Below.heap_setCell _ _ _ _ hb]
  exact hh
theorem bound_boxes (w : World) (sh da mo pl : Int) (h : Hv) : PlaceAt ((w.alloc (.cells #[.int .i64 sh, .int .i64 da, .int .i64 mo, .int .u32 pl] 31)).alloc h.cells) w.heap.size sh da mo pl ∧ HvAt ((w.alloc (.cells #[.int .i64 sh, .int .i64 da, .int .i64 mo, .int .u32 pl] 31)).alloc h.cells) (w.heap.size + 1) h ∧ Below w.heap.size w ((w.alloc (.cells #[.int .i64 sh, .int .i64 da, .int .i64 mo, .int .u32 pl] 31)).alloc h.cells) ∧ ((w.alloc (.cells #[.int .i64 sh, .int .i64 da, .int .i64 mo, .int .u32 pl] 31)).alloc h.cells).heap.size = w.heap.size + 2 :=
  ⟨PlaceAt.below (heap_alloc_new _ _) (below_alloc _ _), by have := hv_new (w.alloc (.cells #[.int .i64 sh, .int .i64 da, .int .i64 mo, .int .u32 pl] 31)) h; simpa using this, onward (below_alloc _ _) (below_alloc _ _), by simp⟩
/-- the packs that the law makes -/
def lsOf (ns : List Int) (k : Nat) : List (Int × Int × Int) := (List.range k).map fun (i : Nat) => ((i : Int) + 1, 0, ns.getD i 0)
theorem lsOf_snoc (ns : List Int) (k : Nat) : lsOf ns (k + 1) = lsOf ns k ++ [((k : Int) + 1, 0, ns.getD k 0)] := by unfold lsOf; rw [List.range_succ, List.map_append]; rfl
theorem lsOf_len (ns : List Int) (k : Nat) : (lsOf ns k).length = k := by simp [lsOf]
theorem lsOf_mem {ns : List Int} {x : Int × Int × Int} (hn : ∀ u ∈ ns, 0 ≤ u ∧ u ≤ 4294967295) (hl : ns.length ≤ 8) (h : x ∈ lsOf ns ns.length) : (0 ≤ x.1 ∧ x.1 ≤ 8) ∧ 0 ≤ x.2.2 ∧ x.2.2 ≤ 4294967295 := by
  unfold lsOf at h
  simp only [List.mem_map, List.mem_range] at h
  obtain ⟨i, hi, rfl⟩ := h
  have := hn _ (List.getElem_mem hi)
  simp only [getD_at _ _ _ hi]
  omega
def leftC (x : Int × Int × Int) : List Value := [.int .u32 x.1, .int .i64 x.2.1, .int .i64 x.2.2]
theorem one3 (a b c : Int) : ∀ u : Value, u ∈ [Value.int .u32 a, .int .i64 b, .int .i64 c] → u.oneCell' = true := by
  intro u hu
  simp only [List.mem_cons, List.not_mem_nil, or_false] at hu
  rcases hu with rfl | rfl | rfl <;> rfl
theorem infoLeft : (Tryd.prog.info? 37).map (fun i => (i.zero, i.size, i.bytes)) = some (some (.agg #[.int .u32 0, .int .i64 0, .int .i64 0]), 3, 24) := by kernel_rfl
set_option maxHeartbeats 4000000 in
set_option maxRecDepth 10000000 in
theorem bound_long (t sh da mo pl dl du dh ro us he fr ou ov pk n : Int) (a : Option Addr) (c : Nat) (ns : List Int) (w : World) (hP : Pow w) (hl : 8 < ns.length) : Calls Tryd.prog 5 #[.int .u32 t, .agg #[.int .i64 sh, .int .i64 da, .int .i64 mo, .int .u32 pl], .agg #[.int .i64 dl, .int .i64 du, .int .i64 dh, .int .i64 ro, .int .i64 us, .int .i64 he, .int .i64 fr, .int .i64 ou, .int .i64 ov, .int .i64 pk], .slice a ns.length c, .int .i64 n] w fun e w' => e = .returned (.bool true) ∧ Below w.heap.size w w' := by
  have G0 := bound_boxes w sh da mo pl ⟨dl, du, dh, ro, us, he, fr, ou, ov, pk⟩
  unfold Hv.cells at G0
  simp only at G0
  have D0 := Lib.hid G0.2.2.1
  clear G0
  go_enter Tryd.func5, Tryd.ntmps5
  go_wp2_with fail
  go_ret
  exact ⟨rfl, D0.out⟩
set_option maxHeartbeats 4000000 in
set_option maxRecDepth 10000000 in
theorem bound_open (t sh da mo pl dl du dh ro us he fr ou ov pk n : Int) (a : Option Addr) (c : Nat) (ns : List Int) (w : World) (hP : Pow w) (hl : ns.length ≤ 8) (ho : Hv.any ⟨dl, du, dh, ro, us, he, fr, ou, ov, pk⟩ = true) : Calls Tryd.prog 5 #[.int .u32 t, .agg #[.int .i64 sh, .int .i64 da, .int .i64 mo, .int .u32 pl], .agg #[.int .i64 dl, .int .i64 du, .int .i64 dh, .int .i64 ro, .int .i64 us, .int .i64 he, .int .i64 fr, .int .i64 ou, .int .i64 ov, .int .i64 pk], .slice a ns.length c, .int .i64 n] w fun e w' => e = .returned (.bool true) ∧ Below w.heap.size w w' := by
  have G0 := bound_boxes w sh da mo pl ⟨dl, du, dh, ro, us, he, fr, ou, ov, pk⟩
  unfold Hv.cells at G0
  simp only at G0
  have Ho := Lib.hid ho
  clear ho
  go_enter Tryd.func5, Tryd.ntmps5
  go_wp2_with fail
  generalize (w.alloc (.cells #[.int .i64 sh, .int .i64 da, .int .i64 mo, .int .u32 pl] 31)).alloc (.cells #[.int .i64 dl, .int .i64 du, .int .i64 dh, .int .i64 ro, .int .i64 us, .int .i64 he, .int .i64 fr, .int .i64 ou, .int .i64 ov, .int .i64 pk] 23) = V at *
  obtain ⟨g1, g2, g3, g4⟩ := G0
  have P0 := Lib.hid g1
  have A0 := Lib.hid g2
  have D0 := Lib.hid g3
  have Z0 := Lib.hid g4
  have z0 : w.heap.size + 1 < V.heap.size := by omega
  clear g1 g2 g3 g4
  refine (open_any ⟨dl, du, dh, ro, us, he, fr, ou, ov, pk⟩ _).mono ?_
  rintro e w1 ⟨rfl, hb⟩
  rw [Ho.out]
  have P1 := Lib.hid (P0.out.below hb)
  have A1 := Lib.hid (A0.out.below hb)
  have E1 := Lib.hid hb
  clear hb
  go_wp2
  go_ret
  exact ⟨rfl, onward E1.out D0.out⟩
set_option maxHeartbeats 4000000 in
set_option maxRecDepth 10000000 in
theorem bound_far0 (t sh da mo pl dl du dh ro us he fr ou ov pk n : Int) (a : Option Addr) (c : Nat) (ns : List Int) (w : World) (hP : Pow w) (hl : ns.length ≤ 8) (ho : Hv.any ⟨dl, du, dh, ro, us, he, fr, ou, ov, pk⟩ = false)  (kk : da < -1099511627776) : Calls Tryd.prog 5 #[.int .u32 t, .agg #[.int .i64 sh, .int .i64 da, .int .i64 mo, .int .u32 pl], .agg #[.int .i64 dl, .int .i64 du, .int .i64 dh, .int .i64 ro, .int .i64 us, .int .i64 he, .int .i64 fr, .int .i64 ou, .int .i64 ov, .int .i64 pk], .slice a ns.length c, .int .i64 n] w fun e w' => e = .returned (.bool true) ∧ Below w.heap.size w w' := by
  have G0 := bound_boxes w sh da mo pl ⟨dl, du, dh, ro, us, he, fr, ou, ov, pk⟩
  unfold Hv.cells at G0
  simp only at G0
  have Ho := Lib.hid ho
  clear ho
  go_enter Tryd.func5, Tryd.ntmps5
  go_wp2_with fail
  generalize (w.alloc (.cells #[.int .i64 sh, .int .i64 da, .int .i64 mo, .int .u32 pl] 31)).alloc (.cells #[.int .i64 dl, .int .i64 du, .int .i64 dh, .int .i64 ro, .int .i64 us, .int .i64 he, .int .i64 fr, .int .i64 ou, .int .i64 ov, .int .i64 pk] 23) = V at *
  obtain ⟨g1, g2, g3, g4⟩ := G0
  have P0 := Lib.hid g1
  have A0 := Lib.hid g2
  have D0 := Lib.hid g3
  have Z0 := Lib.hid g4
  have z0 : w.heap.size + 1 < V.heap.size := by omega
  clear g1 g2 g3 g4
  refine (open_any ⟨dl, du, dh, ro, us, he, fr, ou, ov, pk⟩ _).mono ?_
  rintro e w1 ⟨rfl, hb⟩
  rw [Ho.out]
  have P1 := Lib.hid (P0.out.below hb)
  have A1 := Lib.hid (A0.out.below hb)
  have E1 := Lib.hid hb
  clear hb
  obtain ⟨p0, p1, p2, p3, p4⟩ := PlaceAt.all P1.out
  go_wp2
  go_ret
  exact ⟨rfl, onward E1.out D0.out⟩
set_option maxHeartbeats 4000000 in
set_option maxRecDepth 10000000 in
theorem bound_far1 (t sh da mo pl dl du dh ro us he fr ou ov pk n : Int) (a : Option Addr) (c : Nat) (ns : List Int) (w : World) (hP : Pow w) (hl : ns.length ≤ 8) (ho : Hv.any ⟨dl, du, dh, ro, us, he, fr, ou, ov, pk⟩ = false) (k0 : -1099511627776 ≤ da) (kk : 1099511627776 < da) : Calls Tryd.prog 5 #[.int .u32 t, .agg #[.int .i64 sh, .int .i64 da, .int .i64 mo, .int .u32 pl], .agg #[.int .i64 dl, .int .i64 du, .int .i64 dh, .int .i64 ro, .int .i64 us, .int .i64 he, .int .i64 fr, .int .i64 ou, .int .i64 ov, .int .i64 pk], .slice a ns.length c, .int .i64 n] w fun e w' => e = .returned (.bool true) ∧ Below w.heap.size w w' := by
  have G0 := bound_boxes w sh da mo pl ⟨dl, du, dh, ro, us, he, fr, ou, ov, pk⟩
  unfold Hv.cells at G0
  simp only at G0
  have Ho := Lib.hid ho
  clear ho
  go_enter Tryd.func5, Tryd.ntmps5
  go_wp2_with fail
  generalize (w.alloc (.cells #[.int .i64 sh, .int .i64 da, .int .i64 mo, .int .u32 pl] 31)).alloc (.cells #[.int .i64 dl, .int .i64 du, .int .i64 dh, .int .i64 ro, .int .i64 us, .int .i64 he, .int .i64 fr, .int .i64 ou, .int .i64 ov, .int .i64 pk] 23) = V at *
  obtain ⟨g1, g2, g3, g4⟩ := G0
  have P0 := Lib.hid g1
  have A0 := Lib.hid g2
  have D0 := Lib.hid g3
  have Z0 := Lib.hid g4
  have z0 : w.heap.size + 1 < V.heap.size := by omega
  clear g1 g2 g3 g4
  refine (open_any ⟨dl, du, dh, ro, us, he, fr, ou, ov, pk⟩ _).mono ?_
  rintro e w1 ⟨rfl, hb⟩
  rw [Ho.out]
  have P1 := Lib.hid (P0.out.below hb)
  have A1 := Lib.hid (A0.out.below hb)
  have E1 := Lib.hid hb
  clear hb
  obtain ⟨p0, p1, p2, p3, p4⟩ := PlaceAt.all P1.out
  go_wp2
  go_ret
  exact ⟨rfl, onward E1.out D0.out⟩
set_option maxHeartbeats 4000000 in
set_option maxRecDepth 10000000 in
theorem bound_far2 (t sh da mo pl dl du dh ro us he fr ou ov pk n : Int) (a : Option Addr) (c : Nat) (ns : List Int) (w : World) (hP : Pow w) (hl : ns.length ≤ 8) (ho : Hv.any ⟨dl, du, dh, ro, us, he, fr, ou, ov, pk⟩ = false) (k0 : -1099511627776 ≤ da) (k1 : da ≤ 1099511627776) (kk : mo < -1099511627776) : Calls Tryd.prog 5 #[.int .u32 t, .agg #[.int .i64 sh, .int .i64 da, .int .i64 mo, .int .u32 pl], .agg #[.int .i64 dl, .int .i64 du, .int .i64 dh, .int .i64 ro, .int .i64 us, .int .i64 he, .int .i64 fr, .int .i64 ou, .int .i64 ov, .int .i64 pk], .slice a ns.length c, .int .i64 n] w fun e w' => e = .returned (.bool true) ∧ Below w.heap.size w w' := by
  have G0 := bound_boxes w sh da mo pl ⟨dl, du, dh, ro, us, he, fr, ou, ov, pk⟩
  unfold Hv.cells at G0
  simp only at G0
  have Ho := Lib.hid ho
  clear ho
  go_enter Tryd.func5, Tryd.ntmps5
  go_wp2_with fail
  generalize (w.alloc (.cells #[.int .i64 sh, .int .i64 da, .int .i64 mo, .int .u32 pl] 31)).alloc (.cells #[.int .i64 dl, .int .i64 du, .int .i64 dh, .int .i64 ro, .int .i64 us, .int .i64 he, .int .i64 fr, .int .i64 ou, .int .i64 ov, .int .i64 pk] 23) = V at *
  obtain ⟨g1, g2, g3, g4⟩ := G0
  have P0 := Lib.hid g1
  have A0 := Lib.hid g2
  have D0 := Lib.hid g3
  have Z0 := Lib.hid g4
  have z0 : w.heap.size + 1 < V.heap.size := by omega
  clear g1 g2 g3 g4
  refine (open_any ⟨dl, du, dh, ro, us, he, fr, ou, ov, pk⟩ _).mono ?_
  rintro e w1 ⟨rfl, hb⟩
  rw [Ho.out]
  have P1 := Lib.hid (P0.out.below hb)
  have A1 := Lib.hid (A0.out.below hb)
  have E1 := Lib.hid hb
  clear hb
  obtain ⟨p0, p1, p2, p3, p4⟩ := PlaceAt.all P1.out
  go_wp2
  go_ret
  exact ⟨rfl, onward E1.out D0.out⟩
set_option maxHeartbeats 4000000 in
set_option maxRecDepth 10000000 in
theorem bound_far3 (t sh da mo pl dl du dh ro us he fr ou ov pk n : Int) (a : Option Addr) (c : Nat) (ns : List Int) (w : World) (hP : Pow w) (hl : ns.length ≤ 8) (ho : Hv.any ⟨dl, du, dh, ro, us, he, fr, ou, ov, pk⟩ = false) (k0 : -1099511627776 ≤ da) (k1 : da ≤ 1099511627776) (k2 : -1099511627776 ≤ mo) (kk : 1099511627776 < mo) : Calls Tryd.prog 5 #[.int .u32 t, .agg #[.int .i64 sh, .int .i64 da, .int .i64 mo, .int .u32 pl], .agg #[.int .i64 dl, .int .i64 du, .int .i64 dh, .int .i64 ro, .int .i64 us, .int .i64 he, .int .i64 fr, .int .i64 ou, .int .i64 ov, .int .i64 pk], .slice a ns.length c, .int .i64 n] w fun e w' => e = .returned (.bool true) ∧ Below w.heap.size w w' := by
  have G0 := bound_boxes w sh da mo pl ⟨dl, du, dh, ro, us, he, fr, ou, ov, pk⟩
  unfold Hv.cells at G0
  simp only at G0
  have Ho := Lib.hid ho
  clear ho
  go_enter Tryd.func5, Tryd.ntmps5
  go_wp2_with fail
  generalize (w.alloc (.cells #[.int .i64 sh, .int .i64 da, .int .i64 mo, .int .u32 pl] 31)).alloc (.cells #[.int .i64 dl, .int .i64 du, .int .i64 dh, .int .i64 ro, .int .i64 us, .int .i64 he, .int .i64 fr, .int .i64 ou, .int .i64 ov, .int .i64 pk] 23) = V at *
  obtain ⟨g1, g2, g3, g4⟩ := G0
  have P0 := Lib.hid g1
  have A0 := Lib.hid g2
  have D0 := Lib.hid g3
  have Z0 := Lib.hid g4
  have z0 : w.heap.size + 1 < V.heap.size := by omega
  clear g1 g2 g3 g4
  refine (open_any ⟨dl, du, dh, ro, us, he, fr, ou, ov, pk⟩ _).mono ?_
  rintro e w1 ⟨rfl, hb⟩
  rw [Ho.out]
  have P1 := Lib.hid (P0.out.below hb)
  have A1 := Lib.hid (A0.out.below hb)
  have E1 := Lib.hid hb
  clear hb
  obtain ⟨p0, p1, p2, p3, p4⟩ := PlaceAt.all P1.out
  go_wp2
  go_ret
  exact ⟨rfl, onward E1.out D0.out⟩
theorem nameB_size (w : ByteArray) (ns : List Int) : (nameB w ns).size ≤ 32 := by
  unfold nameB
  rw [sizeMk]
  unfold nameL
  split
  · rename_i h; exact h.2
  · simp
theorem split_names (t n : Int) (ls : List (Int × Int × Int)) (da mo room free : Int) : ∀ p ∈ splitL t n ls da mo room free, p.1.size ≤ 32 := by
  have hadd : ∀ (l : List (ByteArray × Int)) (w : ByteArray) (m am : Int), (∀ p ∈ l, p.1.size ≤ 32) → ∀ p ∈ addL l w t m am, p.1.size ≤ 32 := by
    intro l w m am h1 p hp
    unfold addL at hp
    split at hp
    · exact h1 p hp
    · rcases List.mem_append.1 hp with h | h
      · exact h1 p h
      · simp at h; subst h; exact nameB_size _ _
  have hdraw : ∀ (ls : List (Int × Int × Int)) (r : Int), ∀ p ∈ drawL t r ls, p.1.size ≤ 32 := by
    intro ls
    induction ls with
    | nil => intro r p hp; simp [drawL] at hp
    | cons x l ih =>
      intro r p hp
      unfold drawL at hp
      split at hp
      · rcases List.mem_cons.1 hp with h | h
        · subst h; exact nameB_size _ _
        · exact ih _ p h
      · exact ih r p hp
  intro p hp
  unfold splitL at hp
  rcases List.mem_append.1 hp with h | h
  · refine hadd _ _ _ _ (hadd _ _ _ _ ?_) p h
    intro q hq
    rcases List.mem_append.1 hq with h | h
    · exact hadd _ _ _ _ (hadd _ _ _ _ (by simp)) q h
    · exact hdraw ls _ q h
  · simp at h; subst h; exact nameB_size _ _
theorem bound_facts {dl du dh ro us he fr ou ov pk n F D O : Int} (ok : Hv.ok ⟨dl, du, dh, ro, us, he, fr, ou, ov, pk⟩) (hz : admitI ⟨dl, du, dh, ro, us, he, fr, ou, ov, pk⟩ n = 0) (hF : F = min n (max 0 (ro - fr))) (hO : O = max 0 (n - F - pk)) (hD : D = n - F - O) :
    0 ≤ F ∧ 0 ≤ O ∧ 0 ≤ D ∧ F ≤ n ∧ O ≤ n ∧ D ≤ n ∧ F + D + O = n ∧ (0 < D → ro ≤ fr + F) ∧ (0 < O → D = pk) ∧ fr + F + ou + O + he ≤ ro + pk - D + ov ∧ (dl = 0 ∨ du + dh + n ≤ dl) ∧ (O = 0 ∨ ou + O ≤ ov) := by
  unfold Hv.ok nar at ok
  simp only at ok
  unfold admitI at hz
  simp only at hz
  repeat' split at hz
  all_goals first | (exfalso; omega) | skip
  refine ⟨by omega, by omega, by omega, by omega, by omega, by omega, by omega, by omega, by omega, by omega, by omega, by omega⟩
set_option maxHeartbeats 4000000 in
set_option maxRecDepth 10000000 in
theorem bound_no (t sh da mo pl dl du dh ro us he fr ou ov pk n : Int) (a : Option Addr) (c : Nat) (ns : List Int) (w : World) (hP : Pow w) (hl : ns.length ≤ 8) (ht : 0 ≤ t ∧ t < 4294967296) (hn : inInt n) (hI : ∀ i, i < ns.length → ∃ b o, a = some ⟨b, o, none⟩ ∧ w.cell? ⟨b, o + i, none⟩ = some (.int .u32 (ns.getD i 0))) (hu : ∀ u ∈ ns, 0 ≤ u ∧ u ≤ 4294967295) (ho : Hv.any ⟨dl, du, dh, ro, us, he, fr, ou, ov, pk⟩ = false) (k0 : -1099511627776 ≤ da) (k1 : da ≤ 1099511627776) (k2 : -1099511627776 ≤ mo) (k3 : mo ≤ 1099511627776) (z : Int) (hz : admitI ⟨dl, du, dh, ro, us, he, fr, ou, ov, (usum (lsOf ns ns.length))⟩ n = z) (hy : (z != 0) = true) : Calls Tryd.prog 5 #[.int .u32 t, .agg #[.int .i64 sh, .int .i64 da, .int .i64 mo, .int .u32 pl], .agg #[.int .i64 dl, .int .i64 du, .int .i64 dh, .int .i64 ro, .int .i64 us, .int .i64 he, .int .i64 fr, .int .i64 ou, .int .i64 ov, .int .i64 pk], .slice a ns.length c, .int .i64 n] w fun e w' => e = .returned (.bool true) ∧ Below w.heap.size w w' := by
  have G0 := bound_boxes w sh da mo pl ⟨dl, du, dh, ro, us, he, fr, ou, ov, pk⟩
  unfold Hv.cells at G0
  simp only at G0
  have Ho := Lib.hid ho
  have Hz := Lib.hid hz
  have HI := Lib.hid hI
  have HU := Lib.hid hu
  have HN := Lib.hid hn
  have HP := Lib.hid hP
  have OK := Hv.any_no ho
  unfold Hv.ok nar at OK
  simp only at OK
  obtain ⟨q0, q1, q2, q3, q4, q5, q6, q7, q8, q9⟩ := OK
  have HM := Lib.hid (fun x => @lsOf_mem ns x hu hl)
  clear ho hz hI hu hP hn
  have d0 : decide ((8 : Int) < (ns.length : Int)) = false := decide_eq_false (by omega)
  have d1 : decide (da < -1099511627776) = false := decide_eq_false (by omega)
  have d2 : decide (1099511627776 < da) = false := decide_eq_false (by omega)
  have d3 : decide (mo < -1099511627776) = false := decide_eq_false (by omega)
  have d4 : decide (1099511627776 < mo) = false := decide_eq_false (by omega)
  go_enter Tryd.func5, Tryd.ntmps5
  go_wp2_with fail
  generalize (w.alloc (.cells #[.int .i64 sh, .int .i64 da, .int .i64 mo, .int .u32 pl] 31)).alloc (.cells #[.int .i64 dl, .int .i64 du, .int .i64 dh, .int .i64 ro, .int .i64 us, .int .i64 he, .int .i64 fr, .int .i64 ou, .int .i64 ov, .int .i64 pk] 23) = V at *
  obtain ⟨g1, g2, g3, g4⟩ := G0
  have P0 := Lib.hid g1
  have A0 := Lib.hid g2
  have D0 := Lib.hid g3
  have Z0 := Lib.hid g4
  have z0 : w.heap.size + 1 < V.heap.size := by omega
  clear g1 g2 g3 g4
  refine (open_any ⟨dl, du, dh, ro, us, he, fr, ou, ov, pk⟩ _).mono ?_
  rintro e w1 ⟨rfl, hb⟩
  rw [Ho.out]
  have P1 := Lib.hid (P0.out.below hb)
  have A1 := Lib.hid (A0.out.below hb)
  have E1 := Lib.hid hb
  clear hb
  obtain ⟨p0, p1, p2, p3, p4⟩ := PlaceAt.all P1.out
  go_wp2_with fail
  clear p1 p2 p3 p4 P1 A1
  obtain ⟨i0, hi, hz0, hz1, hz2⟩ := info_parts infoLeft
  go_loopw [11, 12] (fun s i wr => ∃ (k : Nat) (v : Value), k ≤ ns.length ∧ i = .int .i64 k ∧ v = s ∧ wr.ownsRow V.heap.size 37 3 v k ((lsOf ns k).flatMap leftC) ∧ Below V.heap.size V wr) (fun _ i _ => ns.length - (intOf i).toNat)
  case atStart => exact ⟨0, _, by omega, rfl, rfl, World.ownsRow_nil _ _ _ _, E1.out⟩
  case round =>
    obtain ⟨k, v, hk, rfl, rfl, hown, hbr⟩ := hrel
    have BR := Lib.hid hbr
    have HO := Lib.hid hown
    clear hown hbr
    by_cases hlt : k < ns.length
    · obtain ⟨b, o, rfl, h1⟩ := HI.out k hlt
      replace h1 := stays (onward BR.out D0.out) h1
      have hx := HU.out _ (List.getElem_mem hlt)
      have HS := Lib.hid (lsOf_snoc ns k)
      rw [getD_at _ _ _ hlt] at h1 HS
      generalize ns[k] = u at *
      go_wp2_with (at_builtin; refine wpList_append_own _ rfl _ _ 33 rfl V.heap.size 37 i0 _ 3 24 Tryd.underlying33 hi hz0 hz1 hz2 rfl (by decide) _ _ _ rfl (HO.out.alloc _) ⟨wr.heap.size, 0, none⟩ 1 1 [.int .u32 (k + 1), .int .i64 0, .int .i64 u] rfl rfl (new_cells _ _ _) (one3 _ _ _) (by unfold maxLen; omega) (by omega) (by have := BR.out.size; simp; omega) ?_)
      intro v' w3 hown3 hgrow3 _
      have B3 := Lib.hid (owned_below (HO.out.alloc _) (BR.out.alloc BR.out.size _) hgrow3)
      have O3 : Hid (w3.ownsRow V.heap.size 37 3 v' (k + 1) ((lsOf ns (k + 1)).flatMap leftC)) := by
        unfold Hid
        rw [HS.out, List.flatMap_append]
        exact hown3
      clear hown3 hgrow3 HO BR h1
      go_wp2
      go_roundw
      case rel => exact ⟨k + 1, _, by omega, by go_num, rfl, O3.out, B3.out⟩
      case measure => simp [intOf]; omega
    · obtain rfl : k = ns.length := by omega
      have HO' : Hid (wr.ownsRow V.heap.size 37 3 v (lsOf ns ns.length).length ((lsOf ns ns.length).flatMap leftC)) := by
        unfold Hid
        rw [lsOf_len]
        exact HO.out
      clear HO
      have TB := usum_bd (lsOf ns ns.length) fun x hx => (HM.out x hx).2
      rw [lsOf_len] at TB
      go_wp2_with fail
      refine (total_any v (lsOf ns ns.length) _ (LeftsAt.of_own HO'.out rfl) (fun x hx => (HM.out x hx).2) (by rw [lsOf_len]; omega)).mono ?_
      rintro e w2 ⟨rfl, hb⟩
      have P2 := Lib.hid ((P0.out.below BR.out).below hb)
      have A2 := Lib.hid ((A0.out.below BR.out).below hb)
      have D2 := Lib.hid (onward hb (onward BR.out D0.out))
      have O2 := Lib.hid (ownsRow_below HO'.out hb)
      clear hb HO' P0 A0 E1
      obtain ⟨tot, htot⟩ : ∃ z, usum (lsOf ns ns.length) = z := ⟨_, rfl⟩
      rw [htot] at Hz TB ⊢
      have HTOT := Lib.hid htot
      clear htot
      obtain ⟨c0, c1, c2, c3, c4, c5, c6, c7, c8, c9, c10⟩ := HvAt.all A2.out
      have f9 := HvAt.free A2.out 9
      go_wp2_with fail
      clear c1 c2 c3 c4 c5 c6 c7 c8 c9 c10 f9
      have A3 := Lib.hid (A2.out.set9 tot)
      simp only at A3
      have P3 := Lib.hid (P2.out.set (b2 := w.heap.size + 1) (j := 9) (u := .int .i64 tot) (by omega))
      have D3 := Lib.hid (D2.out.setCell (show w.heap.size ≤ (⟨w.heap.size + 1, 9, none⟩ : Addr).block from Nat.le_succ _) (.int .i64 tot))
      have O3 := Lib.hid (ownsRow_setCell_other (a := ⟨w.heap.size + 1, 9, none⟩) O2.out (fun e => by have h1 := (O2.out.lt _ e).1; have h2 : w.heap.size + 1 < V.heap.size := z0; exact absurd h1 (by show ¬ V.heap.size ≤ w.heap.size + 1; omega)) (.int .i64 tot))
      clear A2 P2 D2 O2
      generalize w2.setCell ⟨w.heap.size + 1, 9, none⟩ (.int .i64 tot) = w3 at *
      have OKT : Hid (Hv.ok ⟨dl, du, dh, ro, us, he, fr, ou, ov, tot⟩) := by
        unfold Hid Hv.ok nar
        simp only
        omega
      refine (admit_any ⟨dl, du, dh, ro, us, he, fr, ou, ov, tot⟩ n _ OKT.out HN.out).mono ?_
      rintro e w4 ⟨rfl, hb⟩
      rw [Hz.out]
      have A4 := Lib.hid (A3.out.below hb)
      have P4 := Lib.hid (P3.out.below hb)
      have D4 := Lib.hid (onward hb D3.out)
      have O4 := Lib.hid (ownsRow_below O3.out hb)
      clear hb A3 P3 D3 O3
      go_wp2_with fail
      refine (qgoes_any _ (pow_below HP.out D4.out)).mono ?_
      rintro e w9 ⟨rfl, hb⟩
      have D9 := Lib.hid (onward hb D4.out)
      clear hb
      go_wp2
      go_ret
      exact ⟨rfl, D9.out⟩
end Go.Proofs.YtbjofejloeppkaaDoor
