/- Plain facts: all balances together, and what is kept at keys of balances. Plain facts: the keys of balances in the order of a scan; all that is kept there comes to all balances. -/
import Derived.Test.YtecbnhmnhcpcmaaGreatDoorPkJournalPlays31
/-! Plain facts: all balances together, and what is kept at keys of balances. -/
namespace Go.Proofs.YtecbnhmnhcpcmaaGreatDoor
open Go.RowKit Go.WideMaps Go.Maps
set_option linter.unusedVariables false
set_option linter.unusedSimpArgs false
set_option maxRecDepth 100000
/-! sums of amounts, account by account -/
theorem amt_cons (q : Pt) (r : List Pt) (s : ByteArray) : amt (q :: r) s = (if q.a = s then q.n else 0) + amt r s := by
  unfold amt
  by_cases h : q.a = s
  · rw [if_pos h, List.filter_cons_of_pos (by rw [h]; simp), List.map_cons, List.sum_cons]
  · rw [if_neg h, List.filter_cons_of_neg (by simpa using fun e => h (ba_data e))]
    omega
theorem sum_pick {N : List ByteArray} {a : ByteArray} {x : Int} : N.Nodup → a ∈ N → (N.map fun s => if a = s then x else 0).sum = x := by
  induction N with
  | nil => intro _ h; cases h
  | cons b r ih =>
    intro hn ha
    rw [List.nodup_cons] at hn
    rw [List.map_cons, List.sum_cons]
    by_cases h : a = b
    · subst h
      have h0 : (r.map fun s => if a = s then x else 0).sum = 0 := by
        have : ∀ l : List ByteArray, a ∉ l → (l.map fun s => if a = s then x else (0 : Int)).sum = 0 := by
          intro l
          induction l with
          | nil => intro _; rfl
          | cons c t iht =>
            intro hc
            rw [List.mem_cons, not_or] at hc
            rw [List.map_cons, List.sum_cons, if_neg hc.1, iht hc.2]
            rfl
        exact this r hn.1
      rw [if_pos rfl, h0]
      omega
    · rw [if_neg h]
      rcases List.mem_cons.1 ha with h1 | h1
      · exact absurd h1 h
      · rw [ih hn.2 h1]
        omega
theorem sum_add {α : Type} (f g : α → Int) : ∀ l : List α, (l.map fun x => f x + g x).sum = (l.map f).sum + (l.map g).sum
  | [] => rfl
  | x :: r => by
    rw [List.map_cons, List.map_cons, List.map_cons, List.sum_cons, List.sum_cons, List.sum_cons, sum_add f g r]
    omega
theorem amt_total {N : List ByteArray} (hN : N.Nodup) : ∀ L : List Pt, (∀ q ∈ L, q.a ∈ N) → (N.map (amt L)).sum = (L.map Pt.n).sum
  | [], _ => by
    have : ∀ l : List ByteArray, (l.map (amt [])).sum = 0 := by
      intro l
      induction l with
      | nil => rfl
      | cons c t ih => rw [List.map_cons, List.sum_cons, ih]; rfl
    exact this N
  | q :: r, h => by
    have e : amt (q :: r) = fun s => (if q.a = s then q.n else 0) + amt r s := funext fun s => amt_cons q r s
    rw [e, sum_add, sum_pick hN (h q (by simp)), amt_total hN r (fun z hz => h z (by simp [hz])), List.map_cons, List.sum_cons]
theorem amt_filter {U : ByteArray → Bool} : ∀ (L : List Pt) (s : ByteArray), U s = true → amt (L.filter fun q => U q.a) s = amt L s
  | [], s, _ => rfl
  | q :: r, s, h => by
    by_cases hq : U q.a = true
    · rw [List.filter_cons_of_pos (p := fun q : Pt => U q.a) hq, amt_cons, amt_cons, amt_filter r s h]
    · have hne : q.a ≠ s := fun e => hq (by rw [e]; exact h)
      rw [List.filter_cons_of_neg (p := fun q : Pt => U q.a) hq, amt_cons, if_neg hne, amt_filter r s h]
      omega
theorem amt_totalU {U : ByteArray → Bool} {N : List ByteArray} (hN : N.Nodup) (L : List Pt) (h : ∀ q ∈ L, q.a ∈ N) : ((N.filter U).map (amt L)).sum = ((L.filter fun q => U q.a).map Pt.n).sum := by
  have e : (N.filter U).map (amt L) = (N.filter U).map (amt (L.filter fun q => U q.a)) := List.map_congr_left fun s hs => (amt_filter L s (List.mem_filter.1 hs).2).symm
  rw [e]
  refine amt_total (hN.sublist List.filter_sublist) _ fun q hq => ?_
  obtain ⟨h1, h2⟩ := List.mem_filter.1 hq
  exact List.mem_filter.2 ⟨h q h1, h2⟩
/-- many postings -/
def amts (A : List Ac) (s : ByteArray) : Int := (A.map fun a => amt a.ps s).sum
theorem bal_zero (s : ByteArray) : bal (.map []) s = 0 := by
  unfold bal balV
  split
  · rw [show numAt (.map []) (balK s) = (0, 0) from rfl]
    show wrap64 0 = 0
    unfold wrap64
    decide
  · rfl
theorem bal_made (s : ByteArray) : ∀ (l : List Ac) (D : DM) (c : Nat), Jn D c → c + l.length < 1000000 → bal (madeD D l).1 s = bal D s + amts (madeD D l).2 s
  | [], D, c, _, _ => by
    show bal D s = bal D s + 0
    omega
  | a :: r, D, c, h, hc => by
    rw [List.length_cons] at hc
    rcases postO_cases h (by omega) a.t a.ten.toNat a.ps with ⟨e, he, hp⟩ | ⟨hp, hj, -, hm, -, -, ho⟩
    · rw [made_no hp (by omega)]
      exact bal_made s r D c h (by omega)
    · rw [made_yes hp]
      show bal (madeD _ r).1 s = bal D s + ((amt a.ps s) + amts (madeD _ r).2 s)
      rw [bal_made s r _ (c + 1) hj (by omega), bal_postD h hm ho]
      omega
/-- what holds of each posting that was made -/
structure Good (a : Ac) : Prop where
  posts : postsB 1 a.t a.ps = true
  may : mayJ a.ps = true
  all : evenB allP a.ps = true
  unit : evenB unitP a.ps = true
theorem made_good : ∀ (l : List Ac) (D : DM) (c : Nat), Jn D c → c + l.length < 1000000 → ∀ a ∈ (madeD D l).2, a ∈ l ∧ Good a
  | [], D, c, _, _, a, ha => by cases ha
  | x :: r, D, c, h, hc, a, ha => by
    rw [List.length_cons] at hc
    rcases postO_cases h (by omega) x.t x.ten.toNat x.ps with ⟨e, he, hp⟩ | ⟨hp, hj, g1, g2, g3, g4, ho⟩
    · rw [made_no hp (by omega)] at ha
      obtain ⟨h1, h2⟩ := made_good r D c h (by omega) a ha
      exact ⟨by simp [h1], h2⟩
    · rw [made_yes hp] at ha
      rcases List.mem_cons.1 ha with rfl | ha
      · exact ⟨by simp, g1, g2, g3, g4⟩
      · obtain ⟨h1, h2⟩ := made_good r _ (c + 1) hj (by omega) a ha
        exact ⟨by simp [h1], h2⟩
theorem sum_swap {α β : Type} (f : α → β → Int) (B : List β) : ∀ A : List α, (B.map fun b => (A.map fun a => f a b).sum).sum = (A.map fun a => (B.map (f a)).sum).sum
  | [] => by
    have : ∀ l : List β, (l.map fun b => (([] : List α).map fun a => f a b).sum).sum = 0 := by
      intro l
      induction l with
      | nil => rfl
      | cons c t ih => rw [List.map_cons, List.sum_cons, ih]; rfl
    exact this B
  | a :: r => by
    rw [List.map_cons, List.sum_cons, ← sum_swap f B r, ← sum_add]
    rfl
theorem sum_zeros {α : Type} {f : α → Int} : ∀ l : List α, (∀ x ∈ l, f x = 0) → (l.map f).sum = 0
  | [], _ => rfl
  | x :: r, h => by
    rw [List.map_cons, List.sum_cons, h x (by simp), sum_zeros r (fun z hz => h z (by simp [hz]))]
    rfl
theorem even_sum {B : Pt → Bool} {L : List Pt} (h : evenB B L = true) : ((L.filter B).map Pt.n).sum = 0 := by
  unfold evenB at h
  exact of_decide_eq_true h
theorem amts_total {N : List ByteArray} (hN : N.Nodup) {A : List Ac} (hg : ∀ a ∈ A, Good a) (hc : ∀ a ∈ A, ∀ q ∈ a.ps, q.a ∈ N) : (N.map (amts A)).sum = 0 := by
  unfold amts
  rw [sum_swap (fun (a : Ac) s => amt a.ps s) N A]
  refine sum_zeros A fun a ha => ?_
  show (N.map (amt a.ps)).sum = 0
  rw [amt_total hN _ (hc a ha)]
  have := even_sum (hg a ha).all
  rwa [List.filter_eq_self.2 (fun q _ => (rfl : allP q = true))] at this
theorem amts_totalU {N : List ByteArray} (hN : N.Nodup) {A : List Ac} (hg : ∀ a ∈ A, Good a) (hc : ∀ a ∈ A, ∀ q ∈ a.ps, q.a ∈ N) : ((N.filter fun s => unitsB s.data.toList).map (amts A)).sum = 0 := by
  unfold amts
  rw [sum_swap (fun (a : Ac) s => amt a.ps s) _ A]
  refine sum_zeros A fun a ha => ?_
  show ((N.filter _).map (amt a.ps)).sum = 0
  rw [amt_totalU hN _ (hc a ha)]
  exact even_sum (hg a ha).unit
/-! what is kept at keys of balances -/
/-- each such key is of one of these accounts, and what it keeps is not nought -/
def KB (D : DM) (N : List ByteArray) : Prop := ∀ k, k.head? = some 98 → gt D k ≠ none → ∃ s ∈ N, k = balK s ∧ (numAt D k).1 ≠ 0
theorem kb_empty (N : List ByteArray) : KB (.map []) N := fun k _ h => absurd rfl h
theorem kb_post {D : DM} {N : List ByteArray} (h : KB D N) (hM : IsMap D) {t : Int} {ten : Nat} {L : List Pt} (hA : apartB L = true) (hc : ∀ q ∈ L, q.a ∈ N) : KB (postD D t ten L) N := by
  intro k hk hg
  obtain ⟨s, rfl⟩ : ∃ s : ByteArray, k = balK s := by
    cases k with
    | nil => cases hk
    | cons x r =>
      injection hk with hk
      subst hk
      exact ⟨⟨r.toArray⟩, by simp [balK]⟩
  by_cases hx : ∃ q ∈ L, q.a = s
  · obtain ⟨q, hq, rfl⟩ := hx
    refine ⟨q.a, hc q hq, rfl, ?_⟩
    rw [num_post_hit hM hA hq]
    rw [gt_post_bal, gt_keptAll_hit _ _ (isM_pt hM (106 :: big8 (lastN D + 1)) (postL (lastN D + 1) t ten L)) (keys_pw hA (fun p => toU (nbV D p).1)) (balK q.a, toU (nbV D q).1) (List.mem_map.2 ⟨q, hq, rfl⟩)] at hg
    simp only at hg
    intro h0
    have h1 : toU (nbV D q).1 = 0 := by
      have h2 : ((toU (nbV D q).1 : Nat) : Int) = 0 := h0
      omega
    rw [if_pos h1] at hg
    exact hg rfl
  · have hn : ∀ q ∈ L, q.a ≠ s := fun q hq e => hx ⟨q, hq, e⟩
    have hgs : gt (postD D t ten L) (balK s) = gt D (balK s) := by
      rw [gt_post_bal, gt_keptAll_ne _ _ _ (fun kx hkx => by
        obtain ⟨q, hq, rfl⟩ := List.mem_map.1 hkx
        exact fun e => hn q hq (balK_inj e).symm)]
      exact gt_pt_ne (fun e => by have := congrArg List.head? e; simp [balK] at this) _
    rw [hgs] at hg
    obtain ⟨s', h1, h2, h3⟩ := h _ hk hg
    exact ⟨s', h1, h2, by rw [num_other hgs]; exact h3⟩
theorem kb_made (N : List ByteArray) : ∀ (l : List Ac) (D : DM) (c : Nat), Jn D c → c + l.length < 1000000 → KB D N → (∀ a ∈ (madeD D l).2, ∀ q ∈ a.ps, q.a ∈ N) → KB (madeD D l).1 N
  | [], D, c, _, _, hk, _ => hk
  | a :: r, D, c, h, hc, hk, hN => by
    rw [List.length_cons] at hc
    rcases postO_cases h (by omega) a.t a.ten.toNat a.ps with ⟨e, he, hp⟩ | ⟨hp, hj, -, hm, -, -, ho⟩
    · rw [made_no hp (by omega)] at hN ⊢
      exact kb_made N r D c h (by omega) hk hN
    · rw [made_yes hp] at hN ⊢
      exact kb_made N r _ (c + 1) hj (by omega) (kb_post hk h.isM (may_apart hm).1 (fun q hq => hN a (by simp) q hq)) (fun x hx => hN x (by simp [hx]))
end Go.Proofs.YtecbnhmnhcpcmaaGreatDoor
/-! Plain facts: the keys of balances in the order of a scan; all that is kept there comes to all balances. -/
namespace Go.Proofs.YtecbnhmnhcpcmaaGreatDoor
open Go.RowKit Go.WideMaps Go.Maps
set_option linter.unusedVariables false
set_option linter.unusedSimpArgs false
set_option maxRecDepth 100000
/-- a map keyed by strings, no key twice -/
def StrD (D : DM) : Prop := ∃ es, D = .map es ∧ es.Pairwise (fun p q => p.1 ≠ q.1) ∧ ∀ p ∈ es, ∃ x, p.1 = .string x
theorem OwnM.strD {w : World} {b n : Nat} {D : DM} (h : OwnM w b n D) : StrD D := by
  obtain ⟨es, rfl, hpw, -⟩ := h.entries keyStr
  obtain ⟨es', e, hko⟩ := World.ownsMap.keysOf h
  injection e with e
  subst e
  exact ⟨es, rfl, hpw, fun p hp => by obtain ⟨v, hv⟩ := hko p hp; obtain ⟨x, _, hx, _⟩ := Maps.keyOf_str Tryz.underlying9 hv; exact ⟨x, hx⟩⟩
theorem keys_nodup {D : DM} (h : StrD D) : (strKeys D).Nodup := by
  obtain ⟨es, rfl, hp, hk⟩ := h
  show (es.map fun p => Go.strOf p.1).Nodup
  refine List.pairwise_map.2 (hp.imp_of_mem fun {p q} hp' hq' hne e => hne ?_)
  obtain ⟨a, ha⟩ := hk p hp'
  obtain ⟨b, hb⟩ := hk q hq'
  rw [ha, hb] at e ⊢
  exact congrArg _ e
theorem mem_keys {D : DM} (h : StrD D) (x : Bs) : x ∈ strKeys D ↔ has D (.string x) = true := by
  obtain ⟨es, rfl, hp, hk⟩ := h
  rw [has_eq, List.any_eq_true]
  show x ∈ (es.map fun p => Go.strOf p.1) ↔ _
  rw [List.mem_map]
  constructor
  · rintro ⟨p, hp', rfl⟩
    obtain ⟨a, ha⟩ := hk p hp'
    exact ⟨p, hp', by rw [ha]; simp [Lit.sameKey, Go.strOf]⟩
  · rintro ⟨p, hp', hs⟩
    obtain ⟨a, ha⟩ := hk p hp'
    rw [ha] at hs
    exact ⟨p, hp', by rw [ha]; simpa [Lit.sameKey, Go.strOf] using hs⟩
theorem has_gt {D : DM} {k : Bs} : has D (.string k) = true ↔ gt D k ≠ none := by
  unfold gt
  by_cases h : has D (.string k) = true
  · rw [if_pos h]; simp [h]
  · rw [if_neg h]; simp [h]
theorem while_filter {α : Type} {P : α → Bool} : ∀ {L : List α}, L.Pairwise (fun a b => P b = true → P a = true) → L.takeWhile P = L.filter P
  | [], _ => rfl
  | x :: r, h => by
    rw [List.pairwise_cons] at h
    by_cases hx : P x = true
    · rw [List.takeWhile_cons_of_pos hx, List.filter_cons_of_pos hx, while_filter h.2]
    · rw [List.takeWhile_cons_of_neg hx, List.filter_cons_of_neg hx, List.filter_eq_nil_iff.2 (fun y hy hP => hx (h.1 y hy hP))]
theorem pre98 (k : Bs) : ([98] : Bs).isPrefixOf k = true ↔ k.head? = some 98 := by
  cases k with
  | nil => simp
  | cons x r =>
    constructor
    · intro h
      have h1 : ((98 : UInt8) == x && ([] : Bs).isPrefixOf r) = true := h
      rw [Bool.and_eq_true] at h1
      have h2 : (98 : UInt8) = x := beq_iff_eq.1 h1.1
      rw [← h2]
      rfl
    · intro h
      injection h with h
      subst h
      rfl
theorem jless_eq : ∀ (x y : Bs), Op.bytesLess x y = decide (x < y)
  | [], [] => by simp [Op.bytesLess]
  | _ :: _, [] => by simp [Op.bytesLess]
  | [], _ :: _ => by simp [Op.bytesLess]
  | a :: x, b :: y => by
    rw [Op.bytesLess, jless_eq x y]
    simp only [List.cons_lt_cons_iff]
    by_cases h1 : a < b <;> by_cases h2 : a = b <;> by_cases h3 : x < y <;> simp [h1, h2, h3]
theorem low98 {a b : Bs} (h1 : Op.bytesLess a [98] = false) (h2 : a ≤ b) (h3 : b.head? = some 98) : a.head? = some 98 := by
  cases b with
  | nil => cases h3
  | cons y s =>
    injection h3 with h3
    subst h3
    cases a with
    | nil => simp [Op.bytesLess] at h1
    | cons x r =>
      rw [jless_eq] at h1
      have h4 : ¬ (x :: r) < [98] := by simpa using h1
      have h5 : ¬ (98 :: s) < (x :: r) := h2
      rw [List.cons_lt_cons_iff] at h4 h5
      have h6 : ¬ x < 98 := fun h => h4 (.inl h)
      have h7 : ¬ (98 : UInt8) < x := fun h => h5 (.inl h)
      have h8 : x = 98 := by
        rw [UInt8.lt_iff_toNat_lt] at h6 h7
        exact UInt8.toNat_inj.1 (by omega)
      rw [h8]
      rfl
/-- the keys of a scan for balances -/
noncomputable def keysS (D : DM) : List Bs := (scanL D [98]).map Prod.fst
theorem keysR_sorted (D : DM) (f t : Bs) : (keysR D f t).Pairwise (fun a b => a ≤ b) := by
  have tr : ∀ a b c : Bs, leB a b = true → leB b c = true → leB a c = true := fun a b c h1 h2 => by simp only [leB, decide_eq_true_eq] at *; exact List.le_trans h1 h2
  have tot : ∀ a b : Bs, (leB a b || leB b a) = true := fun a b => by simp only [leB, Bool.or_eq_true, decide_eq_true_eq]; exact List.le_total a b
  have h := List.pairwise_mergeSort tr tot ((strKeys D).filter (inR f t))
  exact h.imp fun {a b} hab => by simpa [leB] using hab
theorem keysS_eq (D : DM) : keysS D = (keysR D [98] []).filter fun k => ([98] : Bs).isPrefixOf k := by
  unfold keysS scanL pairsR
  rw [List.takeWhile_map, List.map_map]
  have e : (Prod.fst ∘ fun k : Bs => (k, at0 D k)) = id := rfl
  rw [e, List.map_id]
  refine while_filter ((keysR_sorted D [98] []).imp_of_mem fun {a b} ha hb hab hP => ?_)
  have h1 : inR [98] [] a = true := (List.mem_filter.1 (List.mem_mergeSort.1 ha)).2
  unfold inR at h1
  rw [Bool.and_eq_true] at h1
  exact (pre98 a).2 (low98 (by simpa using h1.1) hab ((pre98 b).1 hP))
theorem keysS_nodup {D : DM} (h : StrD D) : (keysS D).Nodup := by
  rw [keysS_eq]
  refine List.Nodup.sublist List.filter_sublist ?_
  exact (List.mergeSort_perm _ _).nodup_iff.2 ((keys_nodup h).sublist List.filter_sublist)
theorem mem_keysS {D : DM} (h : StrD D) (k : Bs) : k ∈ keysS D ↔ k.head? = some 98 ∧ gt D k ≠ none := by
  rw [keysS_eq, List.mem_filter, pre98]
  unfold keysR
  rw [List.mem_mergeSort, List.mem_filter, mem_keys h, has_gt]
  constructor
  · rintro ⟨⟨h1, -⟩, h2⟩
    exact ⟨h2, h1⟩
  · rintro ⟨h1, h2⟩
    refine ⟨⟨h2, ?_⟩, h1⟩
    unfold inR
    cases k with
    | nil => cases h1
    | cons x r =>
      injection h1 with h1
      subst h1
      have : Op.bytesLess (98 :: r) [98] = false := by
        rw [jless_eq]
        refine decide_eq_false fun h => ?_
        rw [List.cons_lt_cons_iff] at h
        rcases h with h | ⟨-, h⟩
        · exact absurd h (by decide)
        · exact absurd h (List.not_lt_nil _)
      rw [this]
      rfl
theorem sum_perm' {α : Type} {f : α → Int} {l m : List α} (h : l.Perm m) : (l.map f).sum = (m.map f).sum := sum_perm (h.map f)
/-- what is nought outside of a part adds nothing -/
theorem sum_part {A B : List Bs} {f : Bs → Int} (hA : A.Nodup) (hB : B.Nodup) (hs : ∀ k ∈ A, k ∈ B) (h0 : ∀ k ∈ B, k ∉ A → f k = 0) : (B.map f).sum = (A.map f).sum := by
  have h1 : ∀ l : List Bs, (∀ k ∈ l, k ∉ A → f k = 0) → (l.map f).sum = ((l.filter fun k => decide (k ∈ A)).map f).sum := by
    intro l
    induction l with
    | nil => intro _; rfl
    | cons x r ih =>
      intro h
      have ih2 := ih fun k hk => h k (by simp [hk])
      by_cases hx : x ∈ A
      · rw [List.filter_cons_of_pos (by simpa using hx), List.map_cons, List.map_cons, List.sum_cons, List.sum_cons, ih2]
      · rw [List.filter_cons_of_neg (by simpa using hx), List.map_cons, List.sum_cons, ih2, h x (by simp) hx]
        omega
  rw [h1 B h0]
  refine sum_perm' ((List.perm_ext_iff_of_nodup (hB.sublist List.filter_sublist) hA).2 fun k => ?_)
  rw [List.mem_filter, decide_eq_true_eq]
  exact ⟨fun h => h.2, fun h => ⟨hs k h, h⟩⟩
theorem sums_bal {D : DM} {N : List ByteArray} (hS : StrD D) (hK : KB D N) (hN : N.Nodup) (hacc : ∀ s ∈ N, accB s = true) : (sumsL D).sum = (N.map (bal D)).sum := by
  have e1 : sumsL D = (keysS D).map fun k => wrap64 (numAt D k).1 := by
    unfold sumsL keysS
    rw [List.map_map]
    rfl
  have e2 : N.map (bal D) = (N.map balK).map fun k => wrap64 (numAt D k).1 := by
    rw [List.map_map]
    refine List.map_congr_left fun s hs => ?_
    show bal D s = wrap64 (numAt D (balK s)).1
    unfold bal balV
    rw [if_pos (hacc s hs)]
  have hB : (N.map balK).Nodup := List.pairwise_map.2 (hN.imp fun {a b} hab e => hab (balK_inj e))
  rw [e1, e2]
  refine (sum_part (keysS_nodup hS) hB (fun k hk => ?_) (fun k hk hn => ?_)).symm
  · obtain ⟨h1, h2⟩ := (mem_keysS hS k).1 hk
    obtain ⟨s, hs, rfl, -⟩ := hK k h1 h2
    exact List.mem_map_of_mem hs
  · obtain ⟨s, hs, rfl⟩ := List.mem_map.1 hk
    have h1 : gt D (balK s) = none := by
      cases h : gt D (balK s) with
      | none => rfl
      | some b => exact absurd ((mem_keysS hS _).2 ⟨balK_head s, by rw [h]; simp⟩) hn
    have h2 : numAt D (balK s) = (0, 0) := by unfold numAt; rw [h1]
    rw [h2]
    show wrap64 0 = 0
    unfold wrap64
    decide
/-- sums of all that is above nought, and of all that is not, where all comes to nought -/
theorem sumsO_even {l : List Int} (h : l.sum = 0) : ((sumsO l).2.2 = 0 ∧ (sumsO l).1 = -(sumsO l).2.1 ∧ 0 ≤ (sumsO l).1 ∧ (sumsO l).1 ≤ 9223372036854775807) ∨ ((sumsO l).2.2 = 30 ∧ (sumsO l).1 = 0 ∧ (sumsO l).2.1 = 0) := by
  have hs : ∀ l : List Int, (l.filter posB).sum + (l.filter nposB).sum = l.sum ∧ 0 ≤ (l.filter posB).sum := by
    intro l
    induction l with
    | nil => exact ⟨rfl, Int.le_refl _⟩
    | cons x r ih =>
      by_cases hx : 0 < x
      · have h1 : posB x = true := decide_eq_true hx
        have h2 : ¬ nposB x = true := by unfold nposB; rw [decide_eq_true hx]; decide
        rw [List.filter_cons_of_pos h1, List.filter_cons_of_neg h2, List.sum_cons, List.sum_cons]
        omega
      · have h1 : ¬ posB x = true := by unfold posB; simpa using hx
        have h2 : nposB x = true := by unfold nposB; rw [decide_eq_false hx]; rfl
        rw [List.filter_cons_of_neg h1, List.filter_cons_of_pos h2, List.sum_cons, List.sum_cons]
        omega
  obtain ⟨h1, h2⟩ := hs l
  rw [h] at h1
  unfold sumsO sumE
  generalize (l.filter posB).sum = a at *
  generalize (l.filter nposB).sum = b at *
  by_cases ha : -9223372036854775808 ≤ a ∧ a ≤ 9223372036854775807
  · have hb : -9223372036854775808 ≤ b ∧ b ≤ 9223372036854775807 := by omega
    rw [if_pos ha, if_pos hb]
    left
    rw [if_neg (fun h => h rfl), if_neg (fun h => h rfl)]
    exact ⟨rfl, (show a = -b by omega), (show 0 ≤ a from h2), (show a ≤ 9223372036854775807 from ha.2)⟩
  · rw [if_neg ha]
    right
    simp
theorem kb_len {D : DM} {N : List ByteArray} (hS : StrD D) (hK : KB D N) (hW : WFJ D) (hs : ∀ s ∈ N, s.size ≤ 100000) : ∀ y ∈ scanL D [98], y.1.length ≤ 1000000 ∧ (numAt D y.1).2 = 0 := by
  intro y hy
  have hk : y.1 ∈ keysS D := List.mem_map_of_mem hy
  obtain ⟨h1, h2⟩ := (mem_keysS hS _).1 hk
  obtain ⟨s, hsN, e, -⟩ := hK _ h1 h2
  refine ⟨?_, (hW.num (.inl h1)).1⟩
  rw [e]
  unfold balK
  rw [List.length_cons, Array.length_toList]
  have := hs s hsN
  have e2 : s.data.size = s.size := rfl
  omega
theorem pairsR_le {D : DM} (hM : IsMap D) (f t : Bs) : (pairsR D f t).length ≤ size D := by
  obtain ⟨es, rfl⟩ := hM
  unfold pairsR keysR
  rw [List.length_map, List.length_mergeSort]
  refine Nat.le_trans (List.length_filter_le _ _) ?_
  show (es.map _).length ≤ es.length
  rw [List.length_map]
  exact Nat.le_refl _
end Go.Proofs.YtecbnhmnhcpcmaaGreatDoor
