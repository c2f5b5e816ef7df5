/- Plain facts: a balance behind a posting is the balance before it and the posting's amounts. -/
import Derived.Test.YtecbnhmnhcpcmaaGreatDoorJnU
namespace Go.Proofs.YtecbnhmnhcpcmaaGreatDoor
open Go.RowKit Go.WideMaps Go.Maps
set_option linter.unusedVariables false
set_option linter.unusedSimpArgs false
set_option maxRecDepth 100000
theorem amt_one : ∀ {L : List Pt}, (L.map keyP).Pairwise (fun a b => a ≠ b) → ∀ {q : Pt}, q ∈ L → amt L q.a = q.n
  | x :: r, hp, q, hq => by
    rw [List.map_cons, List.pairwise_cons] at hp
    rcases List.mem_cons.1 hq with rfl | hq
    · have h0 : amt r q.a = 0 := amt_none fun z hz e => hp.1 _ (List.mem_map_of_mem hz) (by unfold keyP; rw [e])
      unfold amt at h0 ⊢
      rw [List.filter_cons_of_pos (by simp), List.map_cons, List.sum_cons, h0]
      omega
    · have h1 := amt_one hp.2 hq
      have hne : ¬ x.a.data.toList = q.a.data.toList := fun e => hp.1 _ (List.mem_map_of_mem hq) (by unfold keyP; rw [e])
      unfold amt at h1 ⊢
      rw [List.filter_cons_of_neg (by simpa using hne)]
      exact h1
theorem bal_postD {D : DM} {c : Nat} (h : Jn D c) {time : Int} {ten : Nat} {L : List Pt} (hm : mayJ L = true) (ho : L.any (overB D) = false) (s : ByteArray) : bal (postD D time ten L) s = bal D s + amt L s := by
  obtain ⟨hA, hacc⟩ := may_apart hm
  by_cases hx : ∃ q ∈ L, q.a = s
  · obtain ⟨q, hq, rfl⟩ := hx
    have h1 := bal_post_hit h.isM (time := time) (ten := ten) hA hacc hq (by have := List.any_eq_false.1 ho q hq; simpa using this)
    show (balV (postD D time ten L) q.a).1 = _
    rw [h1, amt_one (apart_pw hA) hq]
  · have hn : ∀ q ∈ L, q.a ≠ s := fun q hq e => hx ⟨q, hq, e⟩
    show (balV (postD D time ten L) s).1 = _
    rw [bal_post_miss hn, amt_none hn]
    show bal D s = bal D s + 0
    omega
end Go.Proofs.YtecbnhmnhcpcmaaGreatDoor
