/- Plain facts: all balances together, and what is kept at keys of balances. -/
import Derived.Test.YtecbnhmnhcpcmaaGreatDoorPkJournalEven36
/-! Plain facts: all balances together, and what is kept at keys of balances. -/
namespace Go.Proofs.YtecbnhmnhcpcmaaGreatDoor
open Go.RowKit Go.WideMaps Go.Maps
set_option linter.unusedVariables false
set_option linter.unusedSimpArgs false
set_option maxRecDepth 100000
/-! sums of amounts, account by account -/
theorem amt_cons (q : Pt) (r : List Pt) (s : ByteArray) : amt (q :: r) s = (if q.a = s then q.n else 0) + amt r s := by
  unfold amt
  by_cases h : q.a = s
  · rw [if_pos h, List.filter_cons_of_pos (by rw [h]; simp), List.map_cons, List.sum_cons]
  · rw [if_neg h, List.filter_cons_of_neg (by simpa using fun e => h (ba_data e))]
    omega
theorem sum_pick {N : List ByteArray} {a : ByteArray} {x : Int} : N.Nodup → a ∈ N → (N.map fun s => if a = s then x else 0).sum = x := by
  induction N with
  | nil => intro _ h; cases h
  | cons b r ih =>
    intro hn ha
    rw [List.nodup_cons] at hn
    rw [List.map_cons, List.sum_cons]
    by_cases h : a = b
    · subst h
      have h0 : (r.map fun s => if a = s then x else 0).sum = 0 := by
        have : ∀ l : List ByteArray, a ∉ l → (l.map fun s => if a = s then x else (0 : Int)).sum = 0 := by
          intro l
          induction l with
          | nil => intro _; rfl
          | cons c t iht =>
            intro hc
            rw [List.mem_cons, not_or] at hc
            rw [List.map_cons, List.sum_cons, if_neg hc.1, iht hc.2]
            rfl
        exact this r hn.1
      rw [if_pos rfl, h0]
      omega
    · rw [if_neg h]
      rcases List.mem_cons.1 ha with h1 | h1
      · exact absurd h1 h
      · rw [ih hn.2 h1]
        omega
theorem sum_add {α : Type} (f g : α → Int) : ∀ l : List α, (l.map fun x => f x + g x).sum = (l.map f).sum + (l.map g).sum
  | [] => rfl
  | x :: r => by
    rw [List.map_cons, List.map_cons, List.map_cons, List.sum_cons, List.sum_cons, List.sum_cons, sum_add f g r]
    omega
theorem amt_total {N : List ByteArray} (hN : N.Nodup) : ∀ L : List Pt, (∀ q ∈ L, q.a ∈ N) → (N.map (amt L)).sum = (L.map Pt.n).sum
  | [], _ => by
    have : ∀ l : List ByteArray, (l.map (amt [])).sum = 0 := by
      intro l
      induction l with
      | nil => rfl
      | cons c t ih => rw [List.map_cons, List.sum_cons, ih]; rfl
    exact this N
  | q :: r, h => by
    have e : amt (q :: r) = fun s => (if q.a = s then q.n else 0) + amt r s := funext fun s => amt_cons q r s
    rw [e, sum_add, sum_pick hN (h q (by simp)), amt_total hN r (fun z hz => h z (by simp [hz])), List.map_cons, List.sum_cons]
theorem amt_filter {U : ByteArray → Bool} : ∀ (L : List Pt) (s : ByteArray), U s = true → amt (L.filter fun q => U q.a) s = amt L s
  | [], s, _ => rfl
  | q :: r, s, h => by
    by_cases hq : U q.a = true
    · rw [List.filter_cons_of_pos (p := fun q : Pt => U q.a) hq, amt_cons, amt_cons, amt_filter r s h]
    · have hne : q.a ≠ s := fun e => hq (by rw [e]; exact h)
      rw [List.filter_cons_of_neg (p := fun q : Pt => U q.a) hq, amt_cons, if_neg hne, amt_filter r s h]
      omega
theorem amt_totalU {U : ByteArray → Bool} {N : List ByteArray} (hN : N.Nodup) (L : List Pt) (h : ∀ q ∈ L, q.a ∈ N) : ((N.filter U).map (amt L)).sum = ((L.filter fun q => U q.a).map Pt.n).sum := by
  have e : (N.filter U).map (amt L) = (N.filter U).map (amt (L.filter fun q => U q.a)) := List.map_congr_left fun s hs => (amt_filter L s (List.mem_filter.1 hs).2).symm
  rw [e]
  refine amt_total (hN.sublist List.filter_sublist) _ fun q hq => ?_
  obtain ⟨h1, h2⟩ := List.mem_filter.1 hq
  exact List.mem_filter.2 ⟨h q h1, h2⟩
/-- many postings -/
def amts (A : List Ac) (s : ByteArray) : Int := (A.map fun a => amt a.ps s).sum
theorem bal_zero (s : ByteArray) : bal (.map []) s = 0 := by
  unfold bal balV
  split
  · rw [show numAt (.map []) (balK s) = (0, 0) from rfl]
    show wrap64 0 = 0
    unfold wrap64
    decide
  · rfl
theorem bal_made (s : ByteArray) : ∀ (l : List Ac) (D : DM) (c : Nat), Jn D c → c + l.length < 1000000 → bal (madeD D l).1 s = bal D s + amts (madeD D l).2 s
  | [], D, c, _, _ => by
    show bal D s = bal D s + 0
    omega
  | a :: r, D, c, h, hc => by
    rw [List.length_cons] at hc
    rcases postO_cases h (by omega) a.t a.ten.toNat a.ps with ⟨e, he, hp⟩ | ⟨hp, hj, -, hm, -, -, ho⟩
    · rw [made_no hp (by omega)]
      exact bal_made s r D c h (by omega)
    · rw [made_yes hp]
      show bal (madeD _ r).1 s = bal D s + ((amt a.ps s) + amts (madeD _ r).2 s)
      rw [bal_made s r _ (c + 1) hj (by omega), bal_postD h hm ho]
      omega
/-- what holds of each posting that was made -/
structure Good (a : Ac) : Prop where
  posts : postsB 1 a.t a.ps = true
  may : mayJ a.ps = true
  all : evenB allP a.ps = true
  unit : evenB unitP a.ps = true
theorem made_good : ∀ (l : List Ac) (D : DM) (c : Nat), Jn D c → c + l.length < 1000000 → ∀ a ∈ (madeD D l).2, a ∈ l ∧ Good a
  | [], D, c, _, _, a, ha => by cases ha
  | x :: r, D, c, h, hc, a, ha => by
    rw [List.length_cons] at hc
    rcases postO_cases h (by omega) x.t x.ten.toNat x.ps with ⟨e, he, hp⟩ | ⟨hp, hj, g1, g2, g3, g4, ho⟩
    · rw [made_no hp (by omega)] at ha
      obtain ⟨h1, h2⟩ := made_good r D c h (by omega) a ha
      exact ⟨by simp [h1], h2⟩
    · rw [made_yes hp] at ha
      rcases List.mem_cons.1 ha with rfl | ha
      · exact ⟨by simp, g1, g2, g3, g4⟩
      · obtain ⟨h1, h2⟩ := made_good r _ (c + 1) hj (by omega) a ha
        exact ⟨by simp [h1], h2⟩
theorem sum_swap {α β : Type} (f : α → β → Int) (B : List β) : ∀ A : List α, (B.map fun b => (A.map fun a => f a b).sum).sum = (A.map fun a => (B.map (f a)).sum).sum
  | [] => by
    have : ∀ l : List β, (l.map fun b => (([] : List α).map fun a => f a b).sum).sum = 0 := by
      intro l
      induction l with
      | nil => rfl
      | cons c t ih => rw [List.map_cons, List.sum_cons, ih]; rfl
    exact this B
  | a :: r => by
    rw [List.map_cons, List.sum_cons, ← sum_swap f B r, ← sum_add]
    rfl
theorem sum_zeros {α : Type} {f : α → Int} : ∀ l : List α, (∀ x ∈ l, f x = 0) → (l.map f).sum = 0
  | [], _ => rfl
  | x :: r, h => by
    rw [List.map_cons, List.sum_cons, h x (by simp), sum_zeros r (fun z hz => h z (by simp [hz]))]
    rfl
theorem even_sum {B : Pt → Bool} {L : List Pt} (h : evenB B L = true) : ((L.filter B).map Pt.n).sum = 0 := by
  unfold evenB at h
  exact of_decide_eq_true h
theorem amts_total {N : List ByteArray} (hN : N.Nodup) {A : List Ac} (hg : ∀ a ∈ A, Good a) (hc : ∀ a ∈ A, ∀ q ∈ a.ps, q.a ∈ N) : (N.map (amts A)).sum = 0 := by
  unfold amts
  rw [sum_swap (fun (a : Ac) s => amt a.ps s) N A]
  refine sum_zeros A fun a ha => ?_
  show (N.map (amt a.ps)).sum = 0
  rw [amt_total hN _ (hc a ha)]
  have := even_sum (hg a ha).all
  rwa [List.filter_eq_self.2 (fun q _ => (rfl : allP q = true))] at this
theorem amts_totalU {N : List ByteArray} (hN : N.Nodup) {A : List Ac} (hg : ∀ a ∈ A, Good a) (hc : ∀ a ∈ A, ∀ q ∈ a.ps, q.a ∈ N) : ((N.filter fun s => unitsB s.data.toList).map (amts A)).sum = 0 := by
  unfold amts
  rw [sum_swap (fun (a : Ac) s => amt a.ps s) _ A]
  refine sum_zeros A fun a ha => ?_
  show ((N.filter _).map (amt a.ps)).sum = 0
  rw [amt_totalU hN _ (hc a ha)]
  exact even_sum (hg a ha).unit
/-! what is kept at keys of balances -/
/-- each such key is of one of these accounts, and what it keeps is not nought -/
def KB (D : DM) (N : List ByteArray) : Prop := ∀ k, k.head? = some 98 → gt D k ≠ none → ∃ s ∈ N, k = balK s ∧ (numAt D k).1 ≠ 0
theorem kb_empty (N : List ByteArray) : KB (.map []) N := fun k _ h => absurd rfl h
theorem kb_post {D : DM} {N : List ByteArray} (h : KB D N) (hM : IsMap D) {t : Int} {ten : Nat} {L : List Pt} (hA : apartB L = true) (hc : ∀ q ∈ L, q.a ∈ N) : KB (postD D t ten L) N := by
  intro k hk hg
  obtain ⟨s, rfl⟩ : ∃ s : ByteArray, k = balK s := by
    cases k with
    | nil => cases hk
    | cons x r =>
      injection hk with hk
      subst hk
      exact ⟨⟨r.toArray⟩, by simp [balK]⟩
  by_cases hx : ∃ q ∈ L, q.a = s
  · obtain ⟨q, hq, rfl⟩ := hx
    refine ⟨q.a, hc q hq, rfl, ?_⟩
    rw [num_post_hit hM hA hq]
    rw [gt_post_bal, gt_keptAll_hit _ _ (isM_pt hM (106 :: big8 (lastN D + 1)) (postL (lastN D + 1) t ten L)) (keys_pw hA (fun p => toU (nbV D p).1)) (balK q.a, toU (nbV D q).1) (List.mem_map.2 ⟨q, hq, rfl⟩)] at hg
    simp only at hg
    intro h0
    have h1 : toU (nbV D q).1 = 0 := by
      have h2 : ((toU (nbV D q).1 : Nat) : Int) = 0 := h0
      omega
    rw [if_pos h1] at hg
    exact hg rfl
  · have hn : ∀ q ∈ L, q.a ≠ s := fun q hq e => hx ⟨q, hq, e⟩
    have hgs : gt (postD D t ten L) (balK s) = gt D (balK s) := by
      rw [gt_post_bal, gt_keptAll_ne _ _ _ (fun kx hkx => by
        obtain ⟨q, hq, rfl⟩ := List.mem_map.1 hkx
        exact fun e => hn q hq (balK_inj e).symm)]
      exact gt_pt_ne (fun e => by have := congrArg List.head? e; simp [balK] at this) _
    rw [hgs] at hg
    obtain ⟨s', h1, h2, h3⟩ := h _ hk hg
    exact ⟨s', h1, h2, by rw [num_other hgs]; exact h3⟩
theorem kb_made (N : List ByteArray) : ∀ (l : List Ac) (D : DM) (c : Nat), Jn D c → c + l.length < 1000000 → KB D N → (∀ a ∈ (madeD D l).2, ∀ q ∈ a.ps, q.a ∈ N) → KB (madeD D l).1 N
  | [], D, c, _, _, hk, _ => hk
  | a :: r, D, c, h, hc, hk, hN => by
    rw [List.length_cons] at hc
    rcases postO_cases h (by omega) a.t a.ten.toNat a.ps with ⟨e, he, hp⟩ | ⟨hp, hj, -, hm, -, -, ho⟩
    · rw [made_no hp (by omega)] at hN ⊢
      exact kb_made N r D c h (by omega) hk hN
    · rw [made_yes hp] at hN ⊢
      exact kb_made N r _ (c + 1) hj (by omega) (kb_post hk h.isM (may_apart hm).1 (fun q hq => hN a (by simp) q hq)) (fun x hx => hN x (by simp [hx]))
end Go.Proofs.YtecbnhmnhcpcmaaGreatDoor
