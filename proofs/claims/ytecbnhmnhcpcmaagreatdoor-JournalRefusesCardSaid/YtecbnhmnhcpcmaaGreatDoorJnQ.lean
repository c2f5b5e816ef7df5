/- Plain facts: balances behind a posting. -/
import Derived.Test.YtecbnhmnhcpcmaaGreatDoorJnP
namespace Go.Proofs.YtecbnhmnhcpcmaaGreatDoor
open Go.RowKit Go.WideMaps Go.Maps
set_option linter.unusedVariables false
set_option linter.unusedSimpArgs false
set_option maxRecDepth 100000
theorem ba_data {a b : ByteArray} (h : a.data.toList = b.data.toList) : a = b := ByteArray.ext (Array.toList_inj.1 h)
theorem balK_inj {s t : ByteArray} (h : balK s = balK t) : s = t := by
  unfold balK at h
  injection h with _ h
  exact ba_data h
theorem balK_head (s : ByteArray) : (balK s).head? = some 98 := rfl
theorem keys_pw {L : List Pt} (h : apartB L = true) (f : Pt → Nat) : ((L.map fun p => (balK p.a, f p)).map Prod.fst).Pairwise (fun a b => a ≠ b) := by
  have h1 := apart_pw h
  rw [List.pairwise_map] at h1
  rw [List.map_map, List.pairwise_map]
  refine h1.imp fun {a b} hab e => hab ?_
  have := balK_inj (show balK a.a = balK b.a from e)
  unfold keyP
  rw [this]
theorem post_last {D : DM} (hM : IsMap D) {time : Int} {ten : Nat} {L : List Pt} (h : lastN D + 1 < 18446744073709551616) : numAt (postD D time ten L) [113] = (((lastN D + 1 : Nat) : Int), 0) :=
  num_kept (isM_keptAll _ _ (isM_pt hM _ _)) _ _ h
theorem post_lastN {D : DM} (hM : IsMap D) {time : Int} {ten : Nat} {L : List Pt} (h : lastN D + 1 < 18446744073709551616) : lastN (postD D time ten L) = lastN D + 1 := by
  unfold lastN
  rw [post_last hM (by unfold lastN at h; exact h)]
  unfold lastN
  omega
theorem gt_post_bal {D : DM} (time : Int) (ten : Nat) (L : List Pt) (s : ByteArray) : gt (postD D time ten L) (balK s) = gt (keptAll (pt D (106 :: big8 (lastN D + 1)) (postL (lastN D + 1) time ten L)) (L.map fun p => (balK p.a, toU (nbV D p).1))) (balK s) :=
  gt_kept_ne (fun e => by have := congrArg List.head? e; simp [balK] at this) _
theorem num_post_hit {D : DM} (hM : IsMap D) {time : Int} {ten : Nat} {L : List Pt} (hA : apartB L = true) {q : Pt} (hq : q ∈ L) : numAt (postD D time ten L) (balK q.a) = (((toU (nbV D q).1 : Nat) : Int), 0) := by
  have h1 := gt_post_bal (D := D) time ten L q.a
  have h2 := gt_keptAll_hit _ _ (isM_pt hM (106 :: big8 (lastN D + 1)) (postL (lastN D + 1) time ten L)) (keys_pw hA (fun p => toU (nbV D p).1)) (balK q.a, toU (nbV D q).1) (List.mem_map.2 ⟨q, hq, rfl⟩)
  unfold numAt
  rw [h1, h2]
  by_cases h0 : toU (nbV D q).1 = 0
  · simp only [h0, if_true]
    rfl
  · simp only [if_neg h0]
    rw [if_pos (by simp [big8]), unbig_big _ (toU_lt _)]
theorem num_post_miss {D : DM} {time : Int} {ten : Nat} {L : List Pt} {s : ByteArray} (h : ∀ q ∈ L, q.a ≠ s) : numAt (postD D time ten L) (balK s) = numAt D (balK s) := by
  refine num_other ?_
  rw [gt_post_bal, gt_keptAll_ne _ _ _ (fun kx hx => by
    obtain ⟨q, hq, rfl⟩ := List.mem_map.1 hx
    exact fun e => h q hq (balK_inj e).symm)]
  exact gt_pt_ne (fun e => by have := congrArg List.head? e; simp [balK] at this) _
theorem wf_post {D : DM} (hM : IsMap D) (hW : WFJ D) {time : Int} {ten : Nat} {L : List Pt} (hA : apartB L = true) (hl : lastN D + 1 < 18446744073709551616) : WFJ (postD D time ten L) := by
  intro k b hk hg
  rcases hk with hk | rfl
  · obtain ⟨s, rfl⟩ : ∃ s : ByteArray, k = balK s := by
      cases k with
      | nil => cases hk
      | cons x r =>
        injection hk with hk
        subst hk
        exact ⟨⟨r.toArray⟩, by simp [balK]⟩
    by_cases h : ∃ q ∈ L, q.a = s
    · obtain ⟨q, hq, rfl⟩ := h
      rw [gt_post_bal] at hg
      rw [gt_keptAll_hit _ _ (isM_pt hM (106 :: big8 (lastN D + 1)) (postL (lastN D + 1) time ten L)) (keys_pw hA (fun p => toU (nbV D p).1)) (balK q.a, toU (nbV D q).1) (List.mem_map.2 ⟨q, hq, rfl⟩)] at hg
      simp only at hg
      split at hg
      · cases hg
      · obtain rfl := Option.some.inj hg
        simp [big8]
    · rw [gt_post_bal, gt_keptAll_ne _ _ _ (fun kx hx => by
        obtain ⟨q, hq, rfl⟩ := List.mem_map.1 hx
        exact fun e => h ⟨q, hq, (balK_inj e).symm⟩), gt_pt_ne (fun e => by have := congrArg List.head? e; simp [balK] at this)] at hg
      exact hW _ _ (.inl (balK_head s)) hg
  · unfold postD at hg
    rw [gt_kept (isM_keptAll _ _ (isM_pt hM _ _))] at hg
    split at hg
    · cases hg
    · obtain rfl := Option.some.inj hg
      simp [big8]
theorem wrap_back (z : Int) (h : Acct.inInt z) : wrap64 ((toU z : Nat) : Int) = z := by
  obtain ⟨h1, h2⟩ := h
  have h1' : (-9223372036854775808 : Int) ≤ z := h1
  have h2' : z ≤ (9223372036854775807 : Int) := h2
  unfold wrap64 toU
  omega
theorem nb_in2 {D : DM} (p : Pt) : Acct.inInt (nbV D p).1 := by
  unfold nbV sumE Acct.inInt
  split
  · assumption
  · show -9223372036854775808 ≤ (0 : Int) ∧ (0 : Int) ≤ 9223372036854775807
    omega
/-- an account's balance -/
noncomputable def bal (D : DM) (s : ByteArray) : Int := (balV D s).1
theorem bal_post_hit {D : DM} (hM : IsMap D) {time : Int} {ten : Nat} {L : List Pt} (hA : apartB L = true) (hacc : ∀ q ∈ L, accB q.a = true) {q : Pt} (hq : q ∈ L) (hov : overB D q = false) : balV (postD D time ten L) q.a = (bal D q.a + q.n, 0) := by
  have h1 := num_post_hit hM (time := time) (ten := ten) hA hq
  unfold balV
  rw [if_pos (hacc q hq), h1]
  have h2 : wrap64 ((toU (nbV D q).1 : Nat) : Int) = (nbV D q).1 := wrap_back _ (nb_in2 q)
  show (wrap64 ((toU (nbV D q).1 : Nat) : Int), (0 : Int)) = _
  rw [h2]
  have h3 : ¬ ((nbV D q).2 ≠ 0 ∨ (nbV D q).1 < -4611686018427387904 ∨ 4611686018427387904 < (nbV D q).1) := fun h => by
    unfold overB at hov
    rw [decide_eq_true h] at hov
    cases hov
  have h4 : (nbV D q).2 = 0 := by omega
  congr 1
  unfold nbV sumE at h4 ⊢
  unfold bal
  split at h4
  · rename_i hc
    rw [if_pos hc]
    simp
  · exact absurd h4 (by decide)
theorem bal_post_miss {D : DM} {time : Int} {ten : Nat} {L : List Pt} {s : ByteArray} (h : ∀ q ∈ L, q.a ≠ s) : balV (postD D time ten L) s = balV D s := by
  unfold balV
  rw [num_post_miss h]
end Go.Proofs.YtecbnhmnhcpcmaaGreatDoor
