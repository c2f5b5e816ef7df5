/- Plain facts: what a posting leaves in a store without bounds. -/
import Derived.Test.YtecbnhmnhcpcmaaGreatDoorJnN
namespace Go.Proofs.YtecbnhmnhcpcmaaGreatDoor
open Go.RowKit Go.WideMaps Go.Maps
set_option linter.unusedVariables false
set_option linter.unusedSimpArgs false
set_option maxRecDepth 100000
theorem isM_pt {D : DM} (h : IsMap D) (k v : Bs) : IsMap (pt D k v) := h.put _ _
theorem isM_dl {D : DM} (h : IsMap D) (k : Bs) : IsMap (dl D k) := h.del _
theorem putE_free {D : DM} {k v : Bs} (h1 : k ≠ []) (h2 : k.length ≤ 256) (h3 : v.length ≤ 1024) : putE (-1) D k v = 0 := by
  unfold putE
  rw [if_neg h1, if_neg (by omega), if_neg (by rintro ⟨-, h, -⟩; omega)]
theorem setE_free {D : DM} {k : Bs} {x : Nat} (h1 : k ≠ []) (h2 : k.length ≤ 256) : setE (-1) D k x = 0 := by
  unfold setE
  split
  · rfl
  · exact putE_free h1 h2 (by simp [big8])
/-- a number is kept -/
def kept (D : DM) (k : Bs) (x : Nat) : DM := if x = 0 then dl D k else pt D k (big8 x)
theorem setD_free {D : DM} {k : Bs} {x : Nat} (h1 : k ≠ []) (h2 : k.length ≤ 256) : setD (-1) D k x = kept D k x := by
  unfold setD kept
  split
  · rfl
  · unfold putD
    rw [if_pos (putE_free h1 h2 (by simp [big8]))]
theorem isM_kept {D : DM} (h : IsMap D) (k : Bs) (x : Nat) : IsMap (kept D k x) := by
  unfold kept
  split
  · exact isM_dl h k
  · exact isM_pt h k _
theorem gt_kept {D : DM} (h : IsMap D) (k : Bs) (x : Nat) : gt (kept D k x) k = if x = 0 then none else some (big8 x) := by
  unfold kept
  split
  · exact gt_dl k
  · exact gt_pt h k _
theorem gt_kept_ne {D : DM} {k k' : Bs} (h : k' ≠ k) (x : Nat) : gt (kept D k x) k' = gt D k' := by
  unfold kept
  split
  · exact gt_dl_ne h
  · exact gt_pt_ne h _
theorem num_kept {D : DM} (h : IsMap D) (k : Bs) (x : Nat) (hx : x < 18446744073709551616) : numAt (kept D k x) k = ((x : Int), 0) := by
  unfold numAt
  rw [gt_kept h]
  by_cases h0 : x = 0
  · rw [if_pos h0, h0]; rfl
  · rw [if_neg h0]
    simp only
    rw [if_pos (by simp [big8]), unbig_big x hx]
theorem num_other {D D' : DM} {k : Bs} (h : gt D' k = gt D k) : numAt D' k = numAt D k := by unfold numAt; rw [h]
def keptAll (D : DM) (xs : List (Bs × Nat)) : DM := xs.foldl (fun D kx => kept D kx.1 kx.2) D
theorem setAll_free : ∀ (xs : List (Bs × Nat)) (D : DM), (∀ kx ∈ xs, kx.1 ≠ [] ∧ kx.1.length ≤ 256) → setAll (-1) D xs = (0, keptAll D xs)
  | [], D, _ => rfl
  | (k, x) :: r, D, h => by
    obtain ⟨h1, h2⟩ := h (k, x) (by simp)
    unfold setAll
    rw [if_neg (by rw [setE_free h1 h2]; decide), setD_free h1 h2]
    exact setAll_free r _ (fun kx hx => h kx (by simp [hx]))
theorem isM_keptAll : ∀ (xs : List (Bs × Nat)) (D : DM), IsMap D → IsMap (keptAll D xs)
  | [], D, h => h
  | kx :: r, D, h => isM_keptAll r _ (isM_kept h _ _)
theorem gt_keptAll_ne : ∀ (xs : List (Bs × Nat)) (D : DM) (k : Bs), (∀ kx ∈ xs, k ≠ kx.1) → gt (keptAll D xs) k = gt D k
  | [], D, k, _ => rfl
  | kx :: r, D, k, h => by
    show gt (keptAll (kept D kx.1 kx.2) r) k = _
    rw [gt_keptAll_ne r _ k (fun q hq => h q (by simp [hq])), gt_kept_ne (h kx (by simp))]
theorem gt_keptAll_hit : ∀ (xs : List (Bs × Nat)) (D : DM), IsMap D → (xs.map Prod.fst).Pairwise (fun a b => a ≠ b) → ∀ kx ∈ xs, gt (keptAll D xs) kx.1 = if kx.2 = 0 then none else some (big8 kx.2)
  | q :: r, D, hD, hp, kx, hm => by
    rw [List.map_cons, List.pairwise_cons] at hp
    show gt (keptAll (kept D q.1 q.2) r) kx.1 = _
    rcases List.mem_cons.1 hm with rfl | hm
    · rw [gt_keptAll_ne r _ _ (fun z hz => hp.1 _ (List.mem_map_of_mem hz)), gt_kept hD]
    · exact gt_keptAll_hit r _ (isM_kept hD _ _) hp.2 kx hm
/-- what a posting leaves -/
noncomputable def postD (D : DM) (time : Int) (ten : Nat) (L : List Pt) : DM :=
  kept (keptAll (pt D (106 :: big8 (lastN D + 1)) (postL (lastN D + 1) time ten L)) (L.map fun p => (balK p.a, toU (nbV D p).1))) [113] (lastN D + 1)
/-- a store without bounds: the answer of a posting -/
noncomputable def postO (D : DM) (time : Int) (ten : Nat) (L : List Pt) : Int × Int × DM :=
  if ¬ (postsB 1 time L = true ∧ mayJ L = true) then (0, 1, D)
  else if ¬ (evenB allP L = true ∧ evenB unitP L = true) then (0, 32, D)
  else if L.any (overB D) = true then (0, 30, D)
  else (((lastN D + 1 : Nat) : Int), 0, postD D time ten L)
theorem balK_ne (s : ByteArray) : balK s ≠ [] := by unfold balK; exact List.cons_ne_nil _ _
theorem post_free (D : DM) (time : Int) (ten : Nat) (L : List Pt) (hs : ∀ q ∈ L, q.a.size ≤ 100) : postF (-1) D time ten L = postO D time ten L := by
  unfold postF postO
  by_cases h1 : ¬ (postsB 1 time L = true ∧ mayJ L = true)
  · rw [if_pos h1, if_pos h1]
  rw [if_neg h1, if_neg h1]
  by_cases h2 : ¬ (evenB allP L = true ∧ evenB unitP L = true)
  · rw [if_pos h2, if_pos h2]
  rw [if_neg h2, if_neg h2]
  by_cases h3 : L.any (overB D) = true
  · rw [if_pos h3, if_pos h3]
  rw [if_neg h3, if_neg h3]
  have hp : postsB 1 time L = true := by
    have := Decidable.not_not.1 h1
    exact this.1
  obtain ⟨-, -, -, -, o5, o6⟩ := posts_yes hp
  have hpl : (postL (lastN D + 1) time ten L).length ≤ 1024 := by
    unfold postL
    rw [List.length_append, headL_len]
    have := parts_len L (fun q hq => (o6 q hq).2.1)
    omega
  rw [if_neg (by rw [putE_free (List.cons_ne_nil _ _) (by simp [big8]) hpl]; decide)]
  rw [setAll_free _ _ (fun kx hx => by
    obtain ⟨q, hq, rfl⟩ := List.mem_map.1 hx
    refine ⟨balK_ne _, ?_⟩
    have := hs q hq
    unfold balK
    rw [List.length_cons, Array.length_toList]
    have e : q.a.data.size = q.a.size := rfl
    omega)]
  rw [if_neg (fun h => h rfl)]
  rw [setE_free (by decide) (by decide), setD_free (by decide) (by decide)]
  rfl
end Go.Proofs.YtecbnhmnhcpcmaaGreatDoor
