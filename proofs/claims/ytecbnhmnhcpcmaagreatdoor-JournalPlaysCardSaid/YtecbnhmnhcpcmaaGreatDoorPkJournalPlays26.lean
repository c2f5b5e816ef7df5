/- Plain facts: a balance behind a posting is the balance before it and the posting's amounts. Plain facts: a posting's parts in another order; a posting and its reverse; how far balances go. -/
import Derived.Test.YtecbnhmnhcpcmaaGreatDoorPkJournalPlays24
/-! Plain facts: a balance behind a posting is the balance before it and the posting's amounts. -/
namespace Go.Proofs.YtecbnhmnhcpcmaaGreatDoor
open Go.RowKit Go.WideMaps Go.Maps
set_option linter.unusedVariables false
set_option linter.unusedSimpArgs false
set_option maxRecDepth 100000
theorem amt_one : ∀ {L : List Pt}, (L.map keyP).Pairwise (fun a b => a ≠ b) → ∀ {q : Pt}, q ∈ L → amt L q.a = q.n
  | x :: r, hp, q, hq => by
    rw [List.map_cons, List.pairwise_cons] at hp
    rcases List.mem_cons.1 hq with rfl | hq
    · have h0 : amt r q.a = 0 := amt_none fun z hz e => hp.1 _ (List.mem_map_of_mem hz) (by unfold keyP; rw [e])
      unfold amt at h0 ⊢
      rw [List.filter_cons_of_pos (by simp), List.map_cons, List.sum_cons, h0]
      omega
    · have h1 := amt_one hp.2 hq
      have hne : ¬ x.a.data.toList = q.a.data.toList := fun e => hp.1 _ (List.mem_map_of_mem hq) (by unfold keyP; rw [e])
      unfold amt at h1 ⊢
      rw [List.filter_cons_of_neg (by simpa using hne)]
      exact h1
theorem bal_postD {D : DM} {c : Nat} (h : Jn D c) {time : Int} {ten : Nat} {L : List Pt} (hm : mayJ L = true) (ho : L.any (overB D) = false) (s : ByteArray) : bal (postD D time ten L) s = bal D s + amt L s := by
  obtain ⟨hA, hacc⟩ := may_apart hm
  by_cases hx : ∃ q ∈ L, q.a = s
  · obtain ⟨q, hq, rfl⟩ := hx
    have h1 := bal_post_hit h.isM (time := time) (ten := ten) hA hacc hq (by have := List.any_eq_false.1 ho q hq; simpa using this)
    show (balV (postD D time ten L) q.a).1 = _
    rw [h1, amt_one (apart_pw hA) hq]
  · have hn : ∀ q ∈ L, q.a ≠ s := fun q hq e => hx ⟨q, hq, e⟩
    show (balV (postD D time ten L) s).1 = _
    rw [bal_post_miss hn, amt_none hn]
    show bal D s = bal D s + 0
    omega
end Go.Proofs.YtecbnhmnhcpcmaaGreatDoor
/-! Plain facts: a posting's parts in another order; a posting and its reverse; how far balances go. -/
namespace Go.Proofs.YtecbnhmnhcpcmaaGreatDoor
open Go.RowKit Go.WideMaps Go.Maps
set_option linter.unusedVariables false
set_option linter.unusedSimpArgs false
set_option maxRecDepth 100000
theorem sum_perm {l m : List Int} (h : l.Perm m) : l.sum = m.sum := by
  induction h with
  | nil => rfl
  | cons x _ ih => rw [List.sum_cons, List.sum_cons, ih]
  | swap x y l => rw [List.sum_cons, List.sum_cons, List.sum_cons, List.sum_cons]; omega
  | trans _ _ h1 h2 => rw [h1, h2]
theorem any_perm {p : Pt → Bool} {l m : List Pt} (h : l.Perm m) : l.any p = m.any p := by
  rw [Bool.eq_iff_iff, List.any_eq_true, List.any_eq_true]
  exact ⟨fun ⟨x, h1, h2⟩ => ⟨x, h.mem_iff.1 h1, h2⟩, fun ⟨x, h1, h2⟩ => ⟨x, h.mem_iff.2 h1, h2⟩⟩
theorem all_perm {p : Pt → Bool} {l m : List Pt} (h : l.Perm m) : l.all p = m.all p := by
  rw [Bool.eq_iff_iff, List.all_eq_true, List.all_eq_true]
  exact ⟨fun g x hx => g x (h.mem_iff.2 hx), fun g x hx => g x (h.mem_iff.1 hx)⟩
theorem even_perm {B : Pt → Bool} {l m : List Pt} (h : l.Perm m) : evenB B l = evenB B m := by
  unfold evenB
  rw [sum_perm ((h.filter B).map Pt.n)]
theorem posts_perm {seq : Nat} {t : Int} {l m : List Pt} (h : l.Perm m) : postsB seq t l = postsB seq t m := by
  unfold postsB
  rw [any_perm h, h.length_eq]
theorem addKey_full : ∀ (xs acc : List Lit), xs.Pairwise (fun a b => a ≠ b) → (∀ x ∈ xs, ∀ y ∈ acc, y ≠ x) → (xs.foldl addKey acc).length = acc.length + xs.length
  | [], acc, _, _ => by simp
  | x :: r, acc, h, hd => by
    rw [List.pairwise_cons] at h
    have e : addKey acc x = acc ++ [x] := by
      unfold addKey
      rw [if_neg]
      intro ha
      obtain ⟨y, h1, h2⟩ := List.any_eq_true.1 ha
      exact hd x (by simp) y h1 (WideAt.sameKey_eq h2)
    rw [List.foldl_cons, e, addKey_full r _ h.2 (fun z hz y hy => by
      rcases List.mem_append.1 hy with g | g
      · exact hd z (by simp [hz]) y g
      · simp at g; subst g; exact h.1 z hz)]
    simp
    omega
theorem apart_iff {L : List Pt} : apartB L = true ↔ (L.map keyP).Pairwise (fun a b => a ≠ b) := by
  refine ⟨apart_pw, fun h => ?_⟩
  unfold apartB
  rw [decide_eq_true_eq, addKey_full _ _ h (fun _ _ _ hy => by cases hy)]
  simp
theorem apart_perm {l m : List Pt} (h : l.Perm m) : apartB l = apartB m := by
  rw [Bool.eq_iff_iff, apart_iff, apart_iff]
  exact (h.map keyP).pairwise_iff (fun g => Ne.symm g)
theorem may_perm {l m : List Pt} (h : l.Perm m) : mayJ l = mayJ m := by
  unfold mayJ
  rw [all_perm h, apart_perm h, h.length_eq]
/-- in whatever order parts stand -/
theorem postO_perm {D : DM} {c : Nat} (h : Jn D c) (hc : c < 1000000) {t : Int} {ten : Nat} {l m : List Pt} (hp : l.Perm m) :
    (postO D t ten m).1 = (postO D t ten l).1 ∧ (postO D t ten m).2.1 = (postO D t ten l).2.1 ∧ ∀ s, balV (postO D t ten m).2.2 s = balV (postO D t ten l).2.2 s := by
  unfold postO
  rw [posts_perm hp, may_perm hp, even_perm hp, even_perm hp, any_perm hp]
  by_cases h1 : ¬ (postsB 1 t m = true ∧ mayJ m = true)
  · rw [if_pos h1, if_pos h1]
    exact ⟨rfl, rfl, fun _ => rfl⟩
  rw [if_neg h1, if_neg h1]
  by_cases h2 : ¬ (evenB allP m = true ∧ evenB unitP m = true)
  · rw [if_pos h2, if_pos h2]
    exact ⟨rfl, rfl, fun _ => rfl⟩
  rw [if_neg h2, if_neg h2]
  by_cases h3 : m.any (overB D) = true
  · rw [if_pos h3, if_pos h3]
    exact ⟨rfl, rfl, fun _ => rfl⟩
  rw [if_neg h3, if_neg h3]
  refine ⟨rfl, rfl, fun s => ?_⟩
  have hm := (Decidable.not_not.1 h1).2
  obtain ⟨hA, hacc⟩ := may_apart hm
  have hA2 : apartB l = true := by rw [apart_perm hp]; exact hA
  have ho : ∀ q ∈ m, overB D q = false := fun q hq => by
    have := List.any_eq_false.1 (by simpa using h3 : m.any (overB D) = false) q hq
    simpa using this
  show balV (postD D t ten m) s = balV (postD D t ten l) s
  by_cases hx : ∃ q ∈ m, q.a = s
  · obtain ⟨q, hq, rfl⟩ := hx
    rw [bal_post_hit h.isM hA hacc hq (ho q hq), bal_post_hit h.isM hA2 (fun z hz => hacc z (hp.mem_iff.1 hz)) (hp.mem_iff.2 hq) (ho q hq)]
  · rw [bal_post_miss fun q hq e => hx ⟨q, hq, e⟩, bal_post_miss fun q hq e => hx ⟨q, hp.mem_iff.1 hq, e⟩]
/-- how far balances go -/
def Bnd (D : DM) : Prop := ∀ s, -4611686018427387904 ≤ bal D s ∧ bal D s ≤ 4611686018427387904
theorem bnd_empty : Bnd (.map []) := fun s => by
  unfold bal balV
  split
  · show _ ≤ wrap64 (numAt (.map []) (balK s)).1 ∧ wrap64 (numAt (.map []) (balK s)).1 ≤ _
    rw [show numAt (.map []) (balK s) = (0, 0) from rfl]
    show -4611686018427387904 ≤ wrap64 0 ∧ wrap64 0 ≤ 4611686018427387904
    unfold wrap64
    omega
  · exact ⟨by decide, by decide⟩
theorem over_iff {D : DM} {q : Pt} (hq : Acct.inInt q.n) : overB D q = false ↔ -4611686018427387904 ≤ bal D q.a + q.n ∧ bal D q.a + q.n ≤ 4611686018427387904 := by
  unfold overB nbV sumE
  have hs : ([(balV D q.a).1, q.n] : List Int).sum = bal D q.a + q.n := by
    show (balV D q.a).1 + (q.n + 0) = _
    unfold bal
    omega
  rw [hs, decide_eq_false_iff_not]
  split
  · simp only
    constructor
    · intro h; omega
    · intro h; omega
  · simp only
    constructor
    · intro h; exact absurd (.inl (by decide)) h
    · intro h; exfalso; omega
theorem bnd_postD {D : DM} {c : Nat} (h : Jn D c) (hb : Bnd D) {t : Int} {ten : Nat} {L : List Pt} (hm : mayJ L = true) (ho : L.any (overB D) = false) (hi : ∀ q ∈ L, Acct.inInt q.n) : Bnd (postD D t ten L) := fun s => by
  obtain ⟨hA, hacc⟩ := may_apart hm
  by_cases hx : ∃ q ∈ L, q.a = s
  · obtain ⟨q, hq, rfl⟩ := hx
    have h0 : overB D q = false := by have := List.any_eq_false.1 ho q hq; simpa using this
    have h1 := bal_post_hit h.isM (time := t) (ten := ten) hA hacc hq h0
    have h2 : bal (postD D t ten L) q.a = bal D q.a + q.n := by unfold bal at h1 ⊢; rw [h1]
    rw [h2]
    exact (over_iff (hi q hq)).1 h0
  · have hn : ∀ q ∈ L, q.a ≠ s := fun q hq e => hx ⟨q, hq, e⟩
    have h2 : bal (postD D t ten L) s = bal D s := by unfold bal; rw [bal_post_miss hn]
    rw [h2]
    exact hb s
theorem made_bnd : ∀ (l : List Ac) (D : DM) (c : Nat), Jn D c → Bnd D → (∀ a ∈ l, ∀ q ∈ a.ps, Acct.inInt q.n) → c + l.length < 1000000 → Bnd (madeD D l).1
  | [], D, c, h, hb, _, _ => hb
  | a :: r, D, c, h, hb, hi, hc => by
    rw [List.length_cons] at hc
    rcases postO_cases h (by omega) a.t a.ten.toNat a.ps with ⟨e, he, hp⟩ | ⟨hp, hj, -, hm, -, -, ho⟩
    · rw [made_no hp (by omega)]
      exact made_bnd r D c h hb (fun x hx => hi x (by simp [hx])) (by omega)
    · rw [made_yes hp]
      exact made_bnd r _ (c + 1) hj (bnd_postD h hb hm ho (hi a (by simp))) (fun x hx => hi x (by simp [hx])) (by omega)
/-! the reverse -/
def negP (q : Pt) : Pt := ⟨q.a, wrap64 (-q.n)⟩
theorem wrap64_neg {n : Int} (h1 : -9223372036854775807 ≤ n) (h2 : n ≤ 9223372036854775807) : wrap64 (-n) = -n := by unfold wrap64; omega
theorem negP_neg {q : Pt} (h : Acct.inInt q.n) : negP (negP q) = q := by
  obtain ⟨a, n⟩ := q
  unfold negP
  dsimp only
  unfold Acct.inInt at h
  dsimp only at h
  by_cases hn : n = -9223372036854775808
  · subst hn
    rw [show wrap64 (-wrap64 (-(-9223372036854775808))) = -9223372036854775808 by unfold wrap64; omega]
  · rw [wrap64_neg (n := n) (by omega) (by omega), wrap64_neg (n := -n) (by omega) (by omega), Int.neg_neg]
theorem postsB_in {seq : Nat} {t : Int} {L : List Pt} (h : postsB seq t L = true) {q : Pt} (hq : q ∈ L) : q.n ≠ 0 ∧ -4611686018427387904 ≤ q.n ∧ q.n ≤ 4611686018427387904 ∧ q.a.size ≠ 0 ∧ q.a.size ≤ 32 := by
  unfold postsB at h
  rw [Bool.and_eq_true] at h
  have h2 : L.any badP = false := by simpa using h.2
  have h3 := List.any_eq_false.1 h2 q hq
  unfold badP at h3
  rw [decide_eq_true_eq] at h3
  omega
theorem neg_in {seq : Nat} {t : Int} {L : List Pt} (h : postsB seq t L = true) {q : Pt} (hq : q ∈ L) : negP q = ⟨q.a, -q.n⟩ := by
  have := postsB_in h hq
  unfold negP
  rw [wrap64_neg (by omega) (by omega)]
theorem neg_list {seq : Nat} {t : Int} {L : List Pt} (h : postsB seq t L = true) : L.map negP = L.map fun q => ⟨q.a, -q.n⟩ := List.map_congr_left fun q hq => neg_in h hq
theorem neg_sum (B : Pt → Bool) (hB : ∀ q : Pt, B ⟨q.a, -q.n⟩ = B q) : ∀ L : List Pt, (((L.map fun q => (⟨q.a, -q.n⟩ : Pt)).filter B).map Pt.n).sum = -((L.filter B).map Pt.n).sum
  | [] => rfl
  | q :: r => by
    rw [List.map_cons, List.filter_cons, List.filter_cons, hB]
    have ih := neg_sum B hB r
    cases B q
    · simpa using ih
    · simp only [if_true, List.map_cons, List.sum_cons]
      rw [ih]
      omega
theorem neg_keys (L : List Pt) : (L.map negP).map keyP = L.map keyP := by
  rw [List.map_map]
  rfl
theorem amt_neg (L : List Pt) (s : ByteArray) : amt (L.map fun q => (⟨q.a, -q.n⟩ : Pt)) s = -amt L s := by
  unfold amt
  exact neg_sum _ (fun q => rfl) L
/-- a posting and its reverse -/
theorem postO_neg {D : DM} {c : Nat} (h : Jn D c) (hb : Bnd D) (hc : c + 1 < 1000000) {t : Int} {ten : Nat} {L : List Pt} (hp : postsB 1 t L = true) (hm : mayJ L = true) (h1 : evenB allP L = true) (h2 : evenB unitP L = true) (ho : L.any (overB D) = false) (hj : Jn (postD D t ten L) (c + 1)) :
    (postO (postD D t ten L) t ten (L.map negP)).2.1 = 0 ∧ ∀ s, accB s = true → balV (postO (postD D t ten L) t ten (L.map negP)).2.2 s = (bal D s, 0) := by
  have hi : ∀ q ∈ L, Acct.inInt q.n := fun q hq => by have := postsB_in hp hq; unfold Acct.inInt; omega
  have g1 : postsB 1 t (L.map negP) = true := by
    have h5 := hp
    unfold postsB at h5 ⊢
    rw [Bool.and_eq_true] at h5 ⊢
    rw [List.length_map]
    refine ⟨h5.1, ?_⟩
    rw [Bool.not_eq_true', List.any_eq_false]
    intro q hq
    obtain ⟨r, hr, rfl⟩ := List.mem_map.1 hq
    have h6 := postsB_in hp hr
    rw [neg_in hp hr]
    unfold badP
    rw [decide_eq_true_eq]
    dsimp only
    omega
  have g2 : mayJ (L.map negP) = true := by
    have h5 := hm
    unfold mayJ at h5 ⊢
    rw [Bool.and_eq_true, Bool.and_eq_true] at h5 ⊢
    rw [List.length_map]
    refine ⟨?_, h5.2.1, ?_⟩
    · rw [List.all_map]
      exact h5.1
    · have := h5.2.2
      rw [apart_iff] at this ⊢
      rw [neg_keys]
      exact this
  have g3 : evenB allP (L.map negP) = true := by
    unfold evenB at h1 ⊢
    rw [decide_eq_true_eq] at h1 ⊢
    rw [neg_list hp, neg_sum _ (fun _ => rfl), h1]
    rfl
  have g4 : evenB unitP (L.map negP) = true := by
    unfold evenB at h2 ⊢
    rw [decide_eq_true_eq] at h2 ⊢
    rw [neg_list hp, neg_sum _ (fun _ => rfl), h2]
    rfl
  have hbal : ∀ s, bal (postD D t ten L) s = bal D s + amt L s := fun s => bal_postD h hm ho s
  have hA := may_apart hm
  have g5 : (L.map negP).any (overB (postD D t ten L)) = false := by
    rw [List.any_eq_false]
    intro q hq
    obtain ⟨r, hr, rfl⟩ := List.mem_map.1 hq
    have h6 := postsB_in hp hr
    rw [neg_in hp hr, Bool.not_eq_true, over_iff (by unfold Acct.inInt; dsimp only; omega)]
    dsimp only
    rw [hbal, amt_one (apart_pw hA.1) hr]
    have := hb r.a
    omega
  rcases postO_cases hj hc t ten (L.map negP) with ⟨e, he, hpo⟩ | ⟨hpo, hj2, -⟩
  · exfalso
    unfold postO at hpo
    rw [if_neg (fun g => g ⟨g1, g2⟩), if_neg (fun g => g ⟨g3, g4⟩), if_neg (by rw [g5]; decide)] at hpo
    injection hpo with _ hpo
    injection hpo with hpo _
    omega
  · rw [hpo]
    refine ⟨rfl, fun s hs => ?_⟩
    show balV (postD (postD D t ten L) t ten (L.map negP)) s = _
    have e1 : bal (postD (postD D t ten L) t ten (L.map negP)) s = bal D s := by
      rw [bal_postD hj g2 g5, hbal, neg_list hp, amt_neg]
      omega
    have e2 : (balV (postD (postD D t ten L) t ten (L.map negP)) s).2 = 0 := by
      unfold balV
      rw [if_pos hs]
      exact (hj2.wf.num (.inl (balK_head s))).1
    unfold bal at e1 ⊢
    rw [← e1, ← e2]
end Go.Proofs.YtecbnhmnhcpcmaaGreatDoor
