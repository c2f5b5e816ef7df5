/- Plain facts: the keys of balances in the order of a scan; all that is kept there comes to all balances. Plain facts: the reference's numbers of 128 bits, digit by digit. -/
import Derived.Test.YtecbnhmnhcpcmaaGreatDoorPkJournalEven37
import Derived.Test.YtecbnhmnhcpcmaaGreatDoorPkJournalEven25
/-! Plain facts: the keys of balances in the order of a scan; all that is kept there comes to all balances. -/
namespace Go.Proofs.YtecbnhmnhcpcmaaGreatDoor
open Go.RowKit Go.WideMaps Go.Maps
set_option linter.unusedVariables false
set_option linter.unusedSimpArgs false
set_option maxRecDepth 100000
/-- a map keyed by strings, no key twice -/
def StrD (D : DM) : Prop := ∃ es, D = .map es ∧ es.Pairwise (fun p q => p.1 ≠ q.1) ∧ ∀ p ∈ es, ∃ x, p.1 = .string x
theorem OwnM.strD {w : World} {b n : Nat} {D : DM} (h : OwnM w b n D) : StrD D := by
  obtain ⟨es, rfl, hpw, -⟩ := h.entries keyStr
  obtain ⟨es', e, hko⟩ := World.ownsMap.keysOf h
  injection e with e
  subst e
  exact ⟨es, rfl, hpw, fun p hp => by obtain ⟨v, hv⟩ := hko p hp; obtain ⟨x, _, hx, _⟩ := Maps.keyOf_str Tryz.underlying9 hv; exact ⟨x, hx⟩⟩
theorem keys_nodup {D : DM} (h : StrD D) : (strKeys D).Nodup := by
  obtain ⟨es, rfl, hp, hk⟩ := h
  show (es.map fun p => Go.strOf p.1).Nodup
  refine List.pairwise_map.2 (hp.imp_of_mem fun {p q} hp' hq' hne e => hne ?_)
  obtain ⟨a, ha⟩ := hk p hp'
  obtain ⟨b, hb⟩ := hk q hq'
  rw [ha, hb] at e ⊢
  exact congrArg _ e
theorem mem_keys {D : DM} (h : StrD D) (x : Bs) : x ∈ strKeys D ↔ has D (.string x) = true := by
  obtain ⟨es, rfl, hp, hk⟩ := h
  rw [has_eq, List.any_eq_true]
  show x ∈ (es.map fun p => Go.strOf p.1) ↔ _
  rw [List.mem_map]
  constructor
  · rintro ⟨p, hp', rfl⟩
    obtain ⟨a, ha⟩ := hk p hp'
    exact ⟨p, hp', by rw [ha]; simp [Lit.sameKey, Go.strOf]⟩
  · rintro ⟨p, hp', hs⟩
    obtain ⟨a, ha⟩ := hk p hp'
    rw [ha] at hs
    exact ⟨p, hp', by rw [ha]; simpa [Lit.sameKey, Go.strOf] using hs⟩
theorem has_gt {D : DM} {k : Bs} : has D (.string k) = true ↔ gt D k ≠ none := by
  unfold gt
  by_cases h : has D (.string k) = true
  · rw [if_pos h]; simp [h]
  · rw [if_neg h]; simp [h]
theorem while_filter {α : Type} {P : α → Bool} : ∀ {L : List α}, L.Pairwise (fun a b => P b = true → P a = true) → L.takeWhile P = L.filter P
  | [], _ => rfl
  | x :: r, h => by
    rw [List.pairwise_cons] at h
    by_cases hx : P x = true
    · rw [List.takeWhile_cons_of_pos hx, List.filter_cons_of_pos hx, while_filter h.2]
    · rw [List.takeWhile_cons_of_neg hx, List.filter_cons_of_neg hx, List.filter_eq_nil_iff.2 (fun y hy hP => hx (h.1 y hy hP))]
theorem pre98 (k : Bs) : ([98] : Bs).isPrefixOf k = true ↔ k.head? = some 98 := by
  cases k with
  | nil => simp
  | cons x r =>
    constructor
    · intro h
      have h1 : ((98 : UInt8) == x && ([] : Bs).isPrefixOf r) = true := h
      rw [Bool.and_eq_true] at h1
      have h2 : (98 : UInt8) = x := beq_iff_eq.1 h1.1
      rw [← h2]
      rfl
    · intro h
      injection h with h
      subst h
      rfl
theorem jless_eq : ∀ (x y : Bs), Op.bytesLess x y = decide (x < y)
  | [], [] => by simp [Op.bytesLess]
  | _ :: _, [] => by simp [Op.bytesLess]
  | [], _ :: _ => by simp [Op.bytesLess]
  | a :: x, b :: y => by
    rw [Op.bytesLess, jless_eq x y]
    simp only [List.cons_lt_cons_iff]
    by_cases h1 : a < b <;> by_cases h2 : a = b <;> by_cases h3 : x < y <;> simp [h1, h2, h3]
theorem low98 {a b : Bs} (h1 : Op.bytesLess a [98] = false) (h2 : a ≤ b) (h3 : b.head? = some 98) : a.head? = some 98 := by
  cases b with
  | nil => cases h3
  | cons y s =>
    injection h3 with h3
    subst h3
    cases a with
    | nil => simp [Op.bytesLess] at h1
    | cons x r =>
      rw [jless_eq] at h1
      have h4 : ¬ (x :: r) < [98] := by simpa using h1
      have h5 : ¬ (98 :: s) < (x :: r) := h2
      rw [List.cons_lt_cons_iff] at h4 h5
      have h6 : ¬ x < 98 := fun h => h4 (.inl h)
      have h7 : ¬ (98 : UInt8) < x := fun h => h5 (.inl h)
      have h8 : x = 98 := by
        rw [UInt8.lt_iff_toNat_lt] at h6 h7
        exact UInt8.toNat_inj.1 (by omega)
      rw [h8]
      rfl
/-- the keys of a scan for balances -/
noncomputable def keysS (D : DM) : List Bs := (scanL D [98]).map Prod.fst
theorem keysR_sorted (D : DM) (f t : Bs) : (keysR D f t).Pairwise (fun a b => a ≤ b) := by
  have tr : ∀ a b c : Bs, leB a b = true → leB b c = true → leB a c = true := fun a b c h1 h2 => by simp only [leB, decide_eq_true_eq] at *; exact List.le_trans h1 h2
  have tot : ∀ a b : Bs, (leB a b || leB b a) = true := fun a b => by simp only [leB, Bool.or_eq_true, decide_eq_true_eq]; exact List.le_total a b
  have h := List.pairwise_mergeSort tr tot ((strKeys D).filter (inR f t))
  exact h.imp fun {a b} hab => by simpa [leB] using hab
theorem keysS_eq (D : DM) : keysS D = (keysR D [98] []).filter fun k => ([98] : Bs).isPrefixOf k := by
  unfold keysS scanL pairsR
  rw [List.takeWhile_map, List.map_map]
  have e : (Prod.fst ∘ fun k : Bs => (k, at0 D k)) = id := rfl
  rw [e, List.map_id]
  refine while_filter ((keysR_sorted D [98] []).imp_of_mem fun {a b} ha hb hab hP => ?_)
  have h1 : inR [98] [] a = true := (List.mem_filter.1 (List.mem_mergeSort.1 ha)).2
  unfold inR at h1
  rw [Bool.and_eq_true] at h1
  exact (pre98 a).2 (low98 (by simpa using h1.1) hab ((pre98 b).1 hP))
theorem keysS_nodup {D : DM} (h : StrD D) : (keysS D).Nodup := by
  rw [keysS_eq]
  refine List.Nodup.sublist List.filter_sublist ?_
  exact (List.mergeSort_perm _ _).nodup_iff.2 ((keys_nodup h).sublist List.filter_sublist)
theorem mem_keysS {D : DM} (h : StrD D) (k : Bs) : k ∈ keysS D ↔ k.head? = some 98 ∧ gt D k ≠ none := by
  rw [keysS_eq, List.mem_filter, pre98]
  unfold keysR
  rw [List.mem_mergeSort, List.mem_filter, mem_keys h, has_gt]
  constructor
  · rintro ⟨⟨h1, -⟩, h2⟩
    exact ⟨h2, h1⟩
  · rintro ⟨h1, h2⟩
    refine ⟨⟨h2, ?_⟩, h1⟩
    unfold inR
    cases k with
    | nil => cases h1
    | cons x r =>
      injection h1 with h1
      subst h1
      have : Op.bytesLess (98 :: r) [98] = false := by
        rw [jless_eq]
        refine decide_eq_false fun h => ?_
        rw [List.cons_lt_cons_iff] at h
        rcases h with h | ⟨-, h⟩
        · exact absurd h (by decide)
        · exact absurd h (List.not_lt_nil _)
      rw [this]
      rfl
theorem sum_perm' {α : Type} {f : α → Int} {l m : List α} (h : l.Perm m) : (l.map f).sum = (m.map f).sum := sum_perm (h.map f)
/-- what is nought outside of a part adds nothing -/
theorem sum_part {A B : List Bs} {f : Bs → Int} (hA : A.Nodup) (hB : B.Nodup) (hs : ∀ k ∈ A, k ∈ B) (h0 : ∀ k ∈ B, k ∉ A → f k = 0) : (B.map f).sum = (A.map f).sum := by
  have h1 : ∀ l : List Bs, (∀ k ∈ l, k ∉ A → f k = 0) → (l.map f).sum = ((l.filter fun k => decide (k ∈ A)).map f).sum := by
    intro l
    induction l with
    | nil => intro _; rfl
    | cons x r ih =>
      intro h
      have ih2 := ih fun k hk => h k (by simp [hk])
      by_cases hx : x ∈ A
      · rw [List.filter_cons_of_pos (by simpa using hx), List.map_cons, List.map_cons, List.sum_cons, List.sum_cons, ih2]
      · rw [List.filter_cons_of_neg (by simpa using hx), List.map_cons, List.sum_cons, ih2, h x (by simp) hx]
        omega
  rw [h1 B h0]
  refine sum_perm' ((List.perm_ext_iff_of_nodup (hB.sublist List.filter_sublist) hA).2 fun k => ?_)
  rw [List.mem_filter, decide_eq_true_eq]
  exact ⟨fun h => h.2, fun h => ⟨hs k h, h⟩⟩
theorem sums_bal {D : DM} {N : List ByteArray} (hS : StrD D) (hK : KB D N) (hN : N.Nodup) (hacc : ∀ s ∈ N, accB s = true) : (sumsL D).sum = (N.map (bal D)).sum := by
  have e1 : sumsL D = (keysS D).map fun k => wrap64 (numAt D k).1 := by
    unfold sumsL keysS
    rw [List.map_map]
    rfl
  have e2 : N.map (bal D) = (N.map balK).map fun k => wrap64 (numAt D k).1 := by
    rw [List.map_map]
    refine List.map_congr_left fun s hs => ?_
    show bal D s = wrap64 (numAt D (balK s)).1
    unfold bal balV
    rw [if_pos (hacc s hs)]
  have hB : (N.map balK).Nodup := List.pairwise_map.2 (hN.imp fun {a b} hab e => hab (balK_inj e))
  rw [e1, e2]
  refine (sum_part (keysS_nodup hS) hB (fun k hk => ?_) (fun k hk hn => ?_)).symm
  · obtain ⟨h1, h2⟩ := (mem_keysS hS k).1 hk
    obtain ⟨s, hs, rfl, -⟩ := hK k h1 h2
    exact List.mem_map_of_mem hs
  · obtain ⟨s, hs, rfl⟩ := List.mem_map.1 hk
    have h1 : gt D (balK s) = none := by
      cases h : gt D (balK s) with
      | none => rfl
      | some b => exact absurd ((mem_keysS hS _).2 ⟨balK_head s, by rw [h]; simp⟩) hn
    have h2 : numAt D (balK s) = (0, 0) := by unfold numAt; rw [h1]
    rw [h2]
    show wrap64 0 = 0
    unfold wrap64
    decide
/-- sums of all that is above nought, and of all that is not, where all comes to nought -/
theorem sumsO_even {l : List Int} (h : l.sum = 0) : ((sumsO l).2.2 = 0 ∧ (sumsO l).1 = -(sumsO l).2.1 ∧ 0 ≤ (sumsO l).1 ∧ (sumsO l).1 ≤ 9223372036854775807) ∨ ((sumsO l).2.2 = 30 ∧ (sumsO l).1 = 0 ∧ (sumsO l).2.1 = 0) := by
  have hs : ∀ l : List Int, (l.filter posB).sum + (l.filter nposB).sum = l.sum ∧ 0 ≤ (l.filter posB).sum := by
    intro l
    induction l with
    | nil => exact ⟨rfl, Int.le_refl _⟩
    | cons x r ih =>
      by_cases hx : 0 < x
      · have h1 : posB x = true := decide_eq_true hx
        have h2 : ¬ nposB x = true := by unfold nposB; rw [decide_eq_true hx]; decide
        rw [List.filter_cons_of_pos h1, List.filter_cons_of_neg h2, List.sum_cons, List.sum_cons]
        omega
      · have h1 : ¬ posB x = true := by unfold posB; simpa using hx
        have h2 : nposB x = true := by unfold nposB; rw [decide_eq_false hx]; rfl
        rw [List.filter_cons_of_neg h1, List.filter_cons_of_pos h2, List.sum_cons, List.sum_cons]
        omega
  obtain ⟨h1, h2⟩ := hs l
  rw [h] at h1
  unfold sumsO sumE
  generalize (l.filter posB).sum = a at *
  generalize (l.filter nposB).sum = b at *
  by_cases ha : -9223372036854775808 ≤ a ∧ a ≤ 9223372036854775807
  · have hb : -9223372036854775808 ≤ b ∧ b ≤ 9223372036854775807 := by omega
    rw [if_pos ha, if_pos hb]
    left
    rw [if_neg (fun h => h rfl), if_neg (fun h => h rfl)]
    exact ⟨rfl, (show a = -b by omega), (show 0 ≤ a from h2), (show a ≤ 9223372036854775807 from ha.2)⟩
  · rw [if_neg ha]
    right
    simp
theorem kb_len {D : DM} {N : List ByteArray} (hS : StrD D) (hK : KB D N) (hW : WFJ D) (hs : ∀ s ∈ N, s.size ≤ 100000) : ∀ y ∈ scanL D [98], y.1.length ≤ 1000000 ∧ (numAt D y.1).2 = 0 := by
  intro y hy
  have hk : y.1 ∈ keysS D := List.mem_map_of_mem hy
  obtain ⟨h1, h2⟩ := (mem_keysS hS _).1 hk
  obtain ⟨s, hsN, e, -⟩ := hK _ h1 h2
  refine ⟨?_, (hW.num (.inl h1)).1⟩
  rw [e]
  unfold balK
  rw [List.length_cons, Array.length_toList]
  have := hs s hsN
  have e2 : s.data.size = s.size := rfl
  omega
theorem pairsR_le {D : DM} (hM : IsMap D) (f t : Bs) : (pairsR D f t).length ≤ size D := by
  obtain ⟨es, rfl⟩ := hM
  unfold pairsR keysR
  rw [List.length_map, List.length_mergeSort]
  refine Nat.le_trans (List.length_filter_le _ _) ?_
  show (es.map _).length ≤ es.length
  rw [List.length_map]
  exact Nat.le_refl _
end Go.Proofs.YtecbnhmnhcpcmaaGreatDoor
/-! Plain facts: the reference's numbers of 128 bits, digit by digit. -/
namespace Go.Proofs.YtecbnhmnhcpcmaaGreatDoor
open Go.RowKit Go.WideMaps Go.Maps
set_option linter.unusedVariables false
set_option linter.unusedSimpArgs false
set_option maxRecDepth 100000
/-- four digits of 32 bits -/
structure Bg where
  (d0 d1 d2 d3 : Nat)
def Bg.ok (b : Bg) : Prop := b.d0 < 4294967296 ∧ b.d1 < 4294967296 ∧ b.d2 < 4294967296 ∧ b.d3 < 4294967296
def Bg.val (b : Bg) : Int := (b.d0 : Int) + b.d1 * 4294967296 + b.d2 * 18446744073709551616 + b.d3 * 79228162514264337593543950336
def Bg.cells (b : Bg) : Array Value := #[.int .u64 b.d0, .int .u64 b.d1, .int .u64 b.d2, .int .u64 b.d3]
def bgZero : Bg := ⟨0, 0, 0, 0⟩
/-- a number as digits -/
def bgOf (a : Int) : Bg := ⟨toU a % 4294967296, toU a / 4294967296, if a < 0 then 4294967295 else 0, if a < 0 then 4294967295 else 0⟩
def bgAdd (a b : Bg) : Bg :=
  ⟨(a.d0 + b.d0) % 4294967296, (a.d1 + b.d1 + (a.d0 + b.d0) / 4294967296) % 4294967296,
   (a.d2 + b.d2 + (a.d1 + b.d1 + (a.d0 + b.d0) / 4294967296) / 4294967296) % 4294967296,
   (a.d3 + b.d3 + (a.d2 + b.d2 + (a.d1 + b.d1 + (a.d0 + b.d0) / 4294967296) / 4294967296) / 4294967296) % 4294967296⟩
theorem bgOf_ok (a : Int) (h : Acct.inInt a) : (bgOf a).ok := by
  unfold Acct.inInt at h
  unfold Bg.ok bgOf toU
  dsimp only
  split <;> omega
theorem bgAdd_ok (a b : Bg) : (bgAdd a b).ok := by
  unfold Bg.ok bgAdd
  dsimp only
  omega
theorem bgOf_val (a : Int) (h : Acct.inInt a) : (bgOf a).val = a % 340282366920938463463374607431768211456 := by
  unfold Acct.inInt at h
  unfold Bg.val bgOf toU
  dsimp only
  split <;> omega
theorem bgAdd_val (a b : Bg) (ha : a.ok) (hb : b.ok) : (bgAdd a b).val = (a.val + b.val) % 340282366920938463463374607431768211456 := by
  obtain ⟨a0, a1, a2, a3⟩ := a
  obtain ⟨b0, b1, b2, b3⟩ := b
  unfold Bg.ok at ha hb
  dsimp only at ha hb
  unfold Bg.val bgAdd
  dsimp only
  omega
theorem bg_inj {a b : Bg} (ha : a.ok) (hb : b.ok) (h : a.val = b.val) : a = b := by
  obtain ⟨a0, a1, a2, a3⟩ := a
  obtain ⟨b0, b1, b2, b3⟩ := b
  unfold Bg.ok at ha hb
  unfold Bg.val at h
  dsimp only at ha hb h
  have h0 : a0 = b0 := by omega
  have h1 : a1 = b1 := by omega
  have h2 : a2 = b2 := by omega
  have h3 : a3 = b3 := by omega
  subst h0; subst h1; subst h2; subst h3; rfl
/-- the sum of a list, digit by digit -/
def bgSum (b : Bg) (l : List Int) : Bg := l.foldl (fun b a => bgAdd b (bgOf a)) b
theorem bgSum_ok : ∀ (l : List Int) (b : Bg), b.ok → (bgSum b l).ok
  | [], b, h => h
  | a :: r, b, h => bgSum_ok r _ (bgAdd_ok _ _)
theorem bgSum_val : ∀ (l : List Int) (b : Bg), b.ok → (∀ a ∈ l, Acct.inInt a) → (bgSum b l).val = (b.val + l.sum) % 340282366920938463463374607431768211456
  | [], b, h, _ => by
    show b.val = (b.val + 0) % _
    obtain ⟨b0, b1, b2, b3⟩ := b
    unfold Bg.ok at h
    unfold Bg.val
    dsimp only at h ⊢
    omega
  | a :: r, b, h, ha => by
    show (bgSum (bgAdd b (bgOf a)) r).val = _
    have h1 := ha a (by simp)
    rw [bgSum_val r _ (bgAdd_ok _ _) (fun x hx => ha x (by simp [hx])), bgAdd_val _ _ h (bgOf_ok a h1), bgOf_val a h1, List.sum_cons]
    omega
theorem bgsum_bd : ∀ (l : List Int), (∀ a ∈ l, Acct.inInt a) → -9223372036854775808 * (l.length : Int) ≤ l.sum ∧ l.sum ≤ 9223372036854775808 * (l.length : Int)
  | [], _ => by simp
  | a :: r, h => by
    have h1 := h a (by simp)
    have h2 := bgsum_bd r (fun x hx => h x (by simp [hx]))
    unfold Acct.inInt at h1
    rw [List.sum_cons, List.length_cons]
    omega
/-- as a number of 64 bits -/
def bgLow (b : Bg) : Int := wrap64 ((b.d0 + b.d1 * 4294967296 : Nat) : Int)
theorem bgLow_in (b : Bg) : Acct.inInt (bgLow b) := by unfold bgLow wrap64 Acct.inInt; omega
/-- the sum is one of 64 bits, or it is not -/
theorem bgSum_small {l : List Int} (hl : ∀ a ∈ l, Acct.inInt a) (hn : l.length < 1000000) :
    (Acct.inInt l.sum → bgOf (bgLow (bgSum bgZero l)) = bgSum bgZero l ∧ bgLow (bgSum bgZero l) = l.sum) ∧ (¬ Acct.inInt l.sum → bgOf (bgLow (bgSum bgZero l)) ≠ bgSum bgZero l) := by
  have h0 : bgZero.ok := by unfold Bg.ok bgZero; decide
  have hv := bgSum_val l bgZero h0 hl
  have hk := bgSum_ok l bgZero h0
  have hb := bgsum_bd l hl
  have hz : bgZero.val = 0 := rfl
  rw [hz] at hv
  have hlow := bgLow_in (bgSum bgZero l)
  generalize hs : bgSum bgZero l = s at *
  constructor
  · intro hi
    have h1 : bgOf l.sum = s := bg_inj (bgOf_ok _ hi) hk (by rw [bgOf_val _ hi, hv]; omega)
    have h2 : bgLow s = l.sum := by
      rw [← h1]
      unfold Acct.inInt at hi
      unfold bgLow bgOf toU wrap64
      dsimp only
      omega
    exact ⟨by rw [h2, h1], h2⟩
  · intro hi e
    apply hi
    have h1 := bgOf_val _ hlow
    rw [e, hv] at h1
    unfold Acct.inInt at hlow ⊢
    omega
end Go.Proofs.YtecbnhmnhcpcmaaGreatDoor
