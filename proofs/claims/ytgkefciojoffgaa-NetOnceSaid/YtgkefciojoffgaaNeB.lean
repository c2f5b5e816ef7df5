/- The walk of slices.Delete at letters, of one element. -/
import Derived.Test.YtgkefciojoffgaaNeA
namespace Go.Proofs.Ytgkefciojoffgaa
open Go.RowKit
set_option linter.unusedVariables false
set_option linter.unusedSimpArgs false
/-- what Delete leaves of a row of n letters in block g: the k-th is gone -/
def DelEnd (g n cap k : Nat) (cur : Array Value) (w : World) (e : Ending) (w' : World) : Prop :=
  e = .returned (.slice (some ⟨g, 0, none⟩) (n - 1) cap) ∧ Kept (· = g) w w' ∧ w'.heap.size = w.heap.size ∧ ∃ cur', w'.heap[g]? = some (.cells cur' 30 (0, 0)) ∧ cur'.size = cur.size ∧ cur'.toList.take ((n - 1) * 3) = cur.toList.take (k * 3) ++ (cur.toList.take (n * 3)).drop ((k + 1) * 3)
theorem del_list (l : List Value) (n k : Nat) (hk : k < n) (hn : n * 3 ≤ l.length) : ((l.take (k * 3) ++ ((l.take (n * 3)).drop ((k + 1) * 3) ++ l.drop (k * 3 + ((l.take (n * 3)).drop ((k + 1) * 3)).length)))).take ((n - 1) * 3) = l.take (k * 3) ++ (l.take (n * 3)).drop ((k + 1) * 3) := by
  rw [← List.append_assoc, List.take_left' (by simp; omega)]
set_option maxHeartbeats 2000000 in
set_option maxRecDepth 1000000 in
theorem delete_q (g q cap k : Nat) (cur : Array Value) (w : World) (hw : w.heap[g]? = some (.cells cur 30 (0, 0))) (hcs : cur.size = cap * 3) (hn : k + q + 1 ≤ cap) (hcap : cap ≤ maxLen) (h1 : ∀ u ∈ cur.toList.take ((k + q + 1) * 3), u.oneCell' = true) :
    Calls Try.prog 28 #[.slice (some ⟨g, 0, none⟩) (k + q + 1) cap, .int .i64 k, .int .i64 (k + 1)] w (DelEnd g (k + q + 1) cap k cur w) := by
  unfold maxLen at hcap
  have hcl : cur.toList.length = cap * 3 := by rw [Array.length_toList]; exact hcs
  obtain ⟨news, hnews⟩ : ∃ news, news = (cur.toList.take ((k + q + 1) * 3)).drop ((k + 1) * 3) := ⟨_, rfl⟩
  have hlen : news.length = q * 3 := by rw [hnews, List.length_drop, List.length_take, hcl]; omega
  have hget : ∀ t u, news[t]? = some u → cur[(k + 1) * 3 + t]? = some u := by
    intro t u hu
    rw [hnews, List.getElem?_drop] at hu
    have ht : (k + 1) * 3 + t < (k + q + 1) * 3 := by
      rcases Nat.lt_or_ge ((k + 1) * 3 + t) ((k + q + 1) * 3) with h | h
      · exact h
      · rw [List.getElem?_take_eq_none h] at hu; cases hu
    rw [List.getElem?_take_of_lt ht, Array.getElem?_toList] at hu
    exact hu
  obtain ⟨A, hA, hsrc⟩ : ∃ A : Addr, (if cap = k + 1 then some (⟨g, 0, none⟩ : Addr) else some ⟨g, (k + 1) * 3, none⟩) = some A ∧ Hid (∀ t u, news[t]? = some u → w.drew.cell? (A.add t) = some u) := by
    by_cases h : cap = k + 1
    · refine ⟨⟨g, 0, none⟩, by simp [h], fun t u hu => ?_⟩
      have h0 : news.length = 0 := by rw [hlen]; omega
      rw [List.length_eq_zero_iff.1 h0] at hu
      cases hu
    · refine ⟨⟨g, (k + 1) * 3, none⟩, by simp [h], fun t u hu => ?_⟩
      have e1 : Addr.add ⟨g, (k + 1) * 3, none⟩ t = ⟨g, (k + 1) * 3 + t, none⟩ := by unfold Addr.add; split <;> simp_all
      rw [e1]
      exact (cell_of_row (w := w) hw).trans (hget t u hu)
  have s1 : Hid (news.length = q * 3) := hlen
  have s2 : Hid (∀ u ∈ news, u.oneCell' = true) := fun u hu => h1 u (by rw [hnews] at hu; exact List.mem_of_mem_drop hu)
  have s3 : Hid (∀ t, t < news.length → (w.drew.cell? ⟨g, 0 + k * 3 + t, none⟩).isSome = true ∧ w.drew.frozen? ⟨g, 0 + k * 3 + t, none⟩ = false) := by
    intro t ht
    rw [hlen] at ht
    refine ⟨?_, free_of_row (w := w) hw⟩
    show (w.cell? _).isSome = true
    rw [cell_of_row hw, Array.getElem?_eq_getElem (by omega)]
    rfl
  obtain ⟨W1, hW1⟩ : ∃ W1, W1 = w.drew.setCells g (0 + k * 3) news := ⟨_, rfl⟩
  have hr1 : W1.heap[g]? = some (.cells (setL cur (k * 3) news) 30 (0, 0)) := by
    rw [hW1, Nat.zero_add]
    exact setCells_block news w.drew g (k * 3) cur _ hw
  have hk1 : Kept (· = g) w W1 := by rw [hW1]; exact (Kept.drew _ w).trans (Kept.setCells (S := (· = g)) g rfl _ _ _)
  have hz1 : W1.heap.size = w.heap.size := by rw [hW1, setCells_size]; rfl
  have hsl := setL_list news cur (k * 3) (by omega)
  have hcz : ∀ j, j < 3 → (W1.cell? ⟨g, (k + q) * 3 + j, none⟩).isSome = true := fun j hj => by
    rw [cell_of_row hr1, Array.getElem?_eq_getElem (by rw [setL_size]; omega)]; rfl
  have hcl2 : ∀ (ty : TypeId) (c2 : Nat), (Builtin.clear_ #[34] ty #[.slice (some ⟨g, (k + q) * 3, none⟩) 1 c2]).run Try.prog W1 = .ok (.tuple #[]) (W1.setCells g ((k + q) * 3) zL) := fun ty c2 => by
    rw [← zL_is]
    exact run_clear_row W1 _ 30 ty _ Try.underlying34 zeroL (by rw [zL_is]; intro u hu; simp only [zL, List.mem_cons, List.not_mem_nil, or_false] at hu; rcases hu with rfl | rfl | rfl <;> rfl) g _ c2 (by rw [zL_is]; exact fun j hj => hcz j hj) (fun j hj => free_of_row hr1)
  have HE : Hid (DelEnd g (k + q + 1) cap k cur w (.returned (.slice (some ⟨g, 0, none⟩) (k + q) cap)) (W1.setCells g ((k + q) * 3) zL)) := by
    refine ⟨rfl, hk1.trans (Kept.setCells (S := (· = g)) g rfl _ _ _), by rw [setCells_size, hz1], _, setCells_block _ _ _ _ _ _ hr1, by rw [setL_size, setL_size], ?_⟩
    rw [setL_list _ _ _ (by rw [setL_size]; show _ + 3 ≤ _; omega), List.take_left' (by rw [List.length_take, Array.length_toList, setL_size]; omega), hsl, hnews]
    exact del_list _ (k + q + 1) k (by omega) (by omega)
  have HW := Lib.hid hW1
  have hic : k ≤ cap := by omega
  have hjc : k + 1 ≤ cap := by omega
  have hne : (((k : Nat) : Int) == (k : Int) + 1) = false := by rw [beq_eq_false_iff_ne]; omega
  have hb1 : (0 : Int) ≤ (k : Int) + 1 := by omega
  have hb2 : (k : Int) + 1 ≤ (k : Int) + (q : Int) + 1 := by omega
  have hb3 : (k : Int) ≤ (cap : Int) := by omega
  have hb4 : (0 : Int) ≤ (k : Int) := by omega
  obtain ⟨i0, hi, hz0, hz1', hz2⟩ := info_parts infoL
  clear hW1 hr1 hk1 hz1 hsl hcz hget hnews hlen h1 hcl hcs hw
  go_enter Try.func28, Try.ntmps28
  go_wp2_with fail
  go_region_law (refine step_append_room rfl (.tmp 22) (.tmp 25) 34 rfl 30 i0 3 Try.underlying34 hi hz1' g 0 k cap (by simp [Act.eval, Act.put]) A q (cap - (k + 1)) news (by simp [Act.eval, Act.put]) s1.out hsrc.out s2.out (by omega) s3.out ?_; rw [← HW.out])
  go_wp2_with fail
  go_ret
  exact HE.out
theorem delete_any (g n cap k : Nat) (cur : Array Value) (w : World) (hw : w.heap[g]? = some (.cells cur 30 (0, 0))) (hcs : cur.size = cap * 3) (hk : k < n) (hn : n ≤ cap) (hcap : cap ≤ maxLen) (h1 : ∀ u ∈ cur.toList.take (n * 3), u.oneCell' = true) :
    Calls Try.prog 28 #[.slice (some ⟨g, 0, none⟩) n cap, .int .i64 k, .int .i64 (k + 1)] w (DelEnd g n cap k cur w) := by
  obtain ⟨q, rfl⟩ : ∃ q, n = k + q + 1 := ⟨n - (k + 1), by omega⟩
  exact delete_q g q cap k cur w hw hcs hn hcap h1
end Go.Proofs.Ytgkefciojoffgaa
