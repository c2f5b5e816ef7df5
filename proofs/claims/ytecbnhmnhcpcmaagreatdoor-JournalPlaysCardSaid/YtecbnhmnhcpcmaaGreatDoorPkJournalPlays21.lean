/- Plain facts: what a posting leaves in a store without bounds. Plain facts: balances behind a posting. Plain facts: the reference's numbers of 128 bits, digit by digit. -/
import Derived.Test.YtecbnhmnhcpcmaaGreatDoorPkJournalPlays20
/-! Plain facts: what a posting leaves in a store without bounds. -/
namespace Go.Proofs.YtecbnhmnhcpcmaaGreatDoor
open Go.RowKit Go.WideMaps Go.Maps
set_option linter.unusedVariables false
set_option linter.unusedSimpArgs false
set_option maxRecDepth 100000
theorem isM_pt {D : DM} (h : IsMap D) (k v : Bs) : IsMap (pt D k v) := h.put _ _
theorem isM_dl {D : DM} (h : IsMap D) (k : Bs) : IsMap (dl D k) := h.del _
theorem putE_free {D : DM} {k v : Bs} (h1 : k ≠ []) (h2 : k.length ≤ 256) (h3 : v.length ≤ 1024) : putE (-1) D k v = 0 := by
  unfold putE
  rw [if_neg h1, if_neg (by omega), if_neg (by rintro ⟨-, h, -⟩; omega)]
theorem setE_free {D : DM} {k : Bs} {x : Nat} (h1 : k ≠ []) (h2 : k.length ≤ 256) : setE (-1) D k x = 0 := by
  unfold setE
  split
  · rfl
  · exact putE_free h1 h2 (by simp [big8])
/-- a number is kept -/
def kept (D : DM) (k : Bs) (x : Nat) : DM := if x = 0 then dl D k else pt D k (big8 x)
theorem setD_free {D : DM} {k : Bs} {x : Nat} (h1 : k ≠ []) (h2 : k.length ≤ 256) : setD (-1) D k x = kept D k x := by
  unfold setD kept
  split
  · rfl
  · unfold putD
    rw [if_pos (putE_free h1 h2 (by simp [big8]))]
theorem isM_kept {D : DM} (h : IsMap D) (k : Bs) (x : Nat) : IsMap (kept D k x) := by
  unfold kept
  split
  · exact isM_dl h k
  · exact isM_pt h k _
theorem gt_kept {D : DM} (h : IsMap D) (k : Bs) (x : Nat) : gt (kept D k x) k = if x = 0 then none else some (big8 x) := by
  unfold kept
  split
  · exact gt_dl k
  · exact gt_pt h k _
theorem gt_kept_ne {D : DM} {k k' : Bs} (h : k' ≠ k) (x : Nat) : gt (kept D k x) k' = gt D k' := by
  unfold kept
  split
  · exact gt_dl_ne h
  · exact gt_pt_ne h _
theorem num_kept {D : DM} (h : IsMap D) (k : Bs) (x : Nat) (hx : x < 18446744073709551616) : numAt (kept D k x) k = ((x : Int), 0) := by
  unfold numAt
  rw [gt_kept h]
  by_cases h0 : x = 0
  · rw [if_pos h0, h0]; rfl
  · rw [if_neg h0]
    simp only
    rw [if_pos (by simp [big8]), unbig_big x hx]
theorem num_other {D D' : DM} {k : Bs} (h : gt D' k = gt D k) : numAt D' k = numAt D k := by unfold numAt; rw [h]
def keptAll (D : DM) (xs : List (Bs × Nat)) : DM := xs.foldl (fun D kx => kept D kx.1 kx.2) D
theorem setAll_free : ∀ (xs : List (Bs × Nat)) (D : DM), (∀ kx ∈ xs, kx.1 ≠ [] ∧ kx.1.length ≤ 256) → setAll (-1) D xs = (0, keptAll D xs)
  | [], D, _ => rfl
  | (k, x) :: r, D, h => by
    obtain ⟨h1, h2⟩ := h (k, x) (by simp)
    unfold setAll
    rw [if_neg (by rw [setE_free h1 h2]; decide), setD_free h1 h2]
    exact setAll_free r _ (fun kx hx => h kx (by simp [hx]))
theorem isM_keptAll : ∀ (xs : List (Bs × Nat)) (D : DM), IsMap D → IsMap (keptAll D xs)
  | [], D, h => h
  | kx :: r, D, h => isM_keptAll r _ (isM_kept h _ _)
theorem gt_keptAll_ne : ∀ (xs : List (Bs × Nat)) (D : DM) (k : Bs), (∀ kx ∈ xs, k ≠ kx.1) → gt (keptAll D xs) k = gt D k
  | [], D, k, _ => rfl
  | kx :: r, D, k, h => by
    show gt (keptAll (kept D kx.1 kx.2) r) k = _
    rw [gt_keptAll_ne r _ k (fun q hq => h q (by simp [hq])), gt_kept_ne (h kx (by simp))]
theorem gt_keptAll_hit : ∀ (xs : List (Bs × Nat)) (D : DM), IsMap D → (xs.map Prod.fst).Pairwise (fun a b => a ≠ b) → ∀ kx ∈ xs, gt (keptAll D xs) kx.1 = if kx.2 = 0 then none else some (big8 kx.2)
  | q :: r, D, hD, hp, kx, hm => by
    rw [List.map_cons, List.pairwise_cons] at hp
    show gt (keptAll (kept D q.1 q.2) r) kx.1 = _
    rcases List.mem_cons.1 hm with rfl | hm
    · rw [gt_keptAll_ne r _ _ (fun z hz => hp.1 _ (List.mem_map_of_mem hz)), gt_kept hD]
    · exact gt_keptAll_hit r _ (isM_kept hD _ _) hp.2 kx hm
/-- what a posting leaves -/
noncomputable def postD (D : DM) (time : Int) (ten : Nat) (L : List Pt) : DM :=
  kept (keptAll (pt D (106 :: big8 (lastN D + 1)) (postL (lastN D + 1) time ten L)) (L.map fun p => (balK p.a, toU (nbV D p).1))) [113] (lastN D + 1)
/-- a store without bounds: the answer of a posting -/
noncomputable def postO (D : DM) (time : Int) (ten : Nat) (L : List Pt) : Int × Int × DM :=
  if ¬ (postsB 1 time L = true ∧ mayJ L = true) then (0, 1, D)
  else if ¬ (evenB allP L = true ∧ evenB unitP L = true) then (0, 32, D)
  else if L.any (overB D) = true then (0, 30, D)
  else (((lastN D + 1 : Nat) : Int), 0, postD D time ten L)
theorem balK_ne (s : ByteArray) : balK s ≠ [] := by unfold balK; exact List.cons_ne_nil _ _
theorem post_free (D : DM) (time : Int) (ten : Nat) (L : List Pt) (hs : ∀ q ∈ L, q.a.size ≤ 100) : postF (-1) D time ten L = postO D time ten L := by
  unfold postF postO
  by_cases h1 : ¬ (postsB 1 time L = true ∧ mayJ L = true)
  · rw [if_pos h1, if_pos h1]
  rw [if_neg h1, if_neg h1]
  by_cases h2 : ¬ (evenB allP L = true ∧ evenB unitP L = true)
  · rw [if_pos h2, if_pos h2]
  rw [if_neg h2, if_neg h2]
  by_cases h3 : L.any (overB D) = true
  · rw [if_pos h3, if_pos h3]
  rw [if_neg h3, if_neg h3]
  have hp : postsB 1 time L = true := by
    have := Decidable.not_not.1 h1
    exact this.1
  obtain ⟨-, -, -, -, o5, o6⟩ := posts_yes hp
  have hpl : (postL (lastN D + 1) time ten L).length ≤ 1024 := by
    unfold postL
    rw [List.length_append, headL_len]
    have := parts_len L (fun q hq => (o6 q hq).2.1)
    omega
  rw [if_neg (by rw [putE_free (List.cons_ne_nil _ _) (by simp [big8]) hpl]; decide)]
  rw [setAll_free _ _ (fun kx hx => by
    obtain ⟨q, hq, rfl⟩ := List.mem_map.1 hx
    refine ⟨balK_ne _, ?_⟩
    have := hs q hq
    unfold balK
    rw [List.length_cons, Array.length_toList]
    have e : q.a.data.size = q.a.size := rfl
    omega)]
  rw [if_neg (fun h => h rfl)]
  rw [setE_free (by decide) (by decide), setD_free (by decide) (by decide)]
  rfl
end Go.Proofs.YtecbnhmnhcpcmaaGreatDoor
/-! Plain facts: balances behind a posting. -/
namespace Go.Proofs.YtecbnhmnhcpcmaaGreatDoor
open Go.RowKit Go.WideMaps Go.Maps
set_option linter.unusedVariables false
set_option linter.unusedSimpArgs false
set_option maxRecDepth 100000
theorem ba_data {a b : ByteArray} (h : a.data.toList = b.data.toList) : a = b := ByteArray.ext (Array.toList_inj.1 h)
theorem balK_inj {s t : ByteArray} (h : balK s = balK t) : s = t := by
  unfold balK at h
  injection h with _ h
  exact ba_data h
theorem balK_head (s : ByteArray) : (balK s).head? = some 98 := rfl
theorem keys_pw {L : List Pt} (h : apartB L = true) (f : Pt → Nat) : ((L.map fun p => (balK p.a, f p)).map Prod.fst).Pairwise (fun a b => a ≠ b) := by
  have h1 := apart_pw h
  rw [List.pairwise_map] at h1
  rw [List.map_map, List.pairwise_map]
  refine h1.imp fun {a b} hab e => hab ?_
  have := balK_inj (show balK a.a = balK b.a from e)
  unfold keyP
  rw [this]
theorem post_last {D : DM} (hM : IsMap D) {time : Int} {ten : Nat} {L : List Pt} (h : lastN D + 1 < 18446744073709551616) : numAt (postD D time ten L) [113] = (((lastN D + 1 : Nat) : Int), 0) :=
  num_kept (isM_keptAll _ _ (isM_pt hM _ _)) _ _ h
theorem post_lastN {D : DM} (hM : IsMap D) {time : Int} {ten : Nat} {L : List Pt} (h : lastN D + 1 < 18446744073709551616) : lastN (postD D time ten L) = lastN D + 1 := by
  unfold lastN
  rw [post_last hM (by unfold lastN at h; exact h)]
  unfold lastN
  omega
theorem gt_post_bal {D : DM} (time : Int) (ten : Nat) (L : List Pt) (s : ByteArray) : gt (postD D time ten L) (balK s) = gt (keptAll (pt D (106 :: big8 (lastN D + 1)) (postL (lastN D + 1) time ten L)) (L.map fun p => (balK p.a, toU (nbV D p).1))) (balK s) :=
  gt_kept_ne (fun e => by have := congrArg List.head? e; simp [balK] at this) _
theorem num_post_hit {D : DM} (hM : IsMap D) {time : Int} {ten : Nat} {L : List Pt} (hA : apartB L = true) {q : Pt} (hq : q ∈ L) : numAt (postD D time ten L) (balK q.a) = (((toU (nbV D q).1 : Nat) : Int), 0) := by
  have h1 := gt_post_bal (D := D) time ten L q.a
  have h2 := gt_keptAll_hit _ _ (isM_pt hM (106 :: big8 (lastN D + 1)) (postL (lastN D + 1) time ten L)) (keys_pw hA (fun p => toU (nbV D p).1)) (balK q.a, toU (nbV D q).1) (List.mem_map.2 ⟨q, hq, rfl⟩)
  unfold numAt
  rw [h1, h2]
  by_cases h0 : toU (nbV D q).1 = 0
  · simp only [h0, if_true]
    rfl
  · simp only [if_neg h0]
    rw [if_pos (by simp [big8]), unbig_big _ (toU_lt _)]
theorem num_post_miss {D : DM} {time : Int} {ten : Nat} {L : List Pt} {s : ByteArray} (h : ∀ q ∈ L, q.a ≠ s) : numAt (postD D time ten L) (balK s) = numAt D (balK s) := by
  refine num_other ?_
  rw [gt_post_bal, gt_keptAll_ne _ _ _ (fun kx hx => by
    obtain ⟨q, hq, rfl⟩ := List.mem_map.1 hx
    exact fun e => h q hq (balK_inj e).symm)]
  exact gt_pt_ne (fun e => by have := congrArg List.head? e; simp [balK] at this) _
theorem wf_post {D : DM} (hM : IsMap D) (hW : WFJ D) {time : Int} {ten : Nat} {L : List Pt} (hA : apartB L = true) (hl : lastN D + 1 < 18446744073709551616) : WFJ (postD D time ten L) := by
  intro k b hk hg
  rcases hk with hk | rfl
  · obtain ⟨s, rfl⟩ : ∃ s : ByteArray, k = balK s := by
      cases k with
      | nil => cases hk
      | cons x r =>
        injection hk with hk
        subst hk
        exact ⟨⟨r.toArray⟩, by simp [balK]⟩
    by_cases h : ∃ q ∈ L, q.a = s
    · obtain ⟨q, hq, rfl⟩ := h
      rw [gt_post_bal] at hg
      rw [gt_keptAll_hit _ _ (isM_pt hM (106 :: big8 (lastN D + 1)) (postL (lastN D + 1) time ten L)) (keys_pw hA (fun p => toU (nbV D p).1)) (balK q.a, toU (nbV D q).1) (List.mem_map.2 ⟨q, hq, rfl⟩)] at hg
      simp only at hg
      split at hg
      · cases hg
      · obtain rfl := Option.some.inj hg
        simp [big8]
    · rw [gt_post_bal, gt_keptAll_ne _ _ _ (fun kx hx => by
        obtain ⟨q, hq, rfl⟩ := List.mem_map.1 hx
        exact fun e => h ⟨q, hq, (balK_inj e).symm⟩), gt_pt_ne (fun e => by have := congrArg List.head? e; simp [balK] at this)] at hg
      exact hW _ _ (.inl (balK_head s)) hg
  · unfold postD at hg
    rw [gt_kept (isM_keptAll _ _ (isM_pt hM _ _))] at hg
    split at hg
    · cases hg
    · obtain rfl := Option.some.inj hg
      simp [big8]
theorem wrap_back (z : Int) (h : Acct.inInt z) : wrap64 ((toU z : Nat) : Int) = z := by
  obtain ⟨h1, h2⟩ := h
  have h1' : (-9223372036854775808 : Int) ≤ z := h1
  have h2' : z ≤ (9223372036854775807 : Int) := h2
  unfold wrap64 toU
  omega
theorem nb_in2 {D : DM} (p : Pt) : Acct.inInt (nbV D p).1 := by
  unfold nbV sumE Acct.inInt
  split
  · assumption
  · show -9223372036854775808 ≤ (0 : Int) ∧ (0 : Int) ≤ 9223372036854775807
    omega
/-- an account's balance -/
noncomputable def bal (D : DM) (s : ByteArray) : Int := (balV D s).1
theorem bal_post_hit {D : DM} (hM : IsMap D) {time : Int} {ten : Nat} {L : List Pt} (hA : apartB L = true) (hacc : ∀ q ∈ L, accB q.a = true) {q : Pt} (hq : q ∈ L) (hov : overB D q = false) : balV (postD D time ten L) q.a = (bal D q.a + q.n, 0) := by
  have h1 := num_post_hit hM (time := time) (ten := ten) hA hq
  unfold balV
  rw [if_pos (hacc q hq), h1]
  have h2 : wrap64 ((toU (nbV D q).1 : Nat) : Int) = (nbV D q).1 := wrap_back _ (nb_in2 q)
  show (wrap64 ((toU (nbV D q).1 : Nat) : Int), (0 : Int)) = _
  rw [h2]
  have h3 : ¬ ((nbV D q).2 ≠ 0 ∨ (nbV D q).1 < -4611686018427387904 ∨ 4611686018427387904 < (nbV D q).1) := fun h => by
    unfold overB at hov
    rw [decide_eq_true h] at hov
    cases hov
  have h4 : (nbV D q).2 = 0 := by omega
  congr 1
  unfold nbV sumE at h4 ⊢
  unfold bal
  split at h4
  · rename_i hc
    rw [if_pos hc]
    simp
  · exact absurd h4 (by decide)
theorem bal_post_miss {D : DM} {time : Int} {ten : Nat} {L : List Pt} {s : ByteArray} (h : ∀ q ∈ L, q.a ≠ s) : balV (postD D time ten L) s = balV D s := by
  unfold balV
  rw [num_post_miss h]
end Go.Proofs.YtecbnhmnhcpcmaaGreatDoor
/-! Plain facts: the reference's numbers of 128 bits, digit by digit. -/
namespace Go.Proofs.YtecbnhmnhcpcmaaGreatDoor
open Go.RowKit Go.WideMaps Go.Maps
set_option linter.unusedVariables false
set_option linter.unusedSimpArgs false
set_option maxRecDepth 100000
/-- four digits of 32 bits -/
structure Bg where
  (d0 d1 d2 d3 : Nat)
def Bg.ok (b : Bg) : Prop := b.d0 < 4294967296 ∧ b.d1 < 4294967296 ∧ b.d2 < 4294967296 ∧ b.d3 < 4294967296
def Bg.val (b : Bg) : Int := (b.d0 : Int) + b.d1 * 4294967296 + b.d2 * 18446744073709551616 + b.d3 * 79228162514264337593543950336
def Bg.cells (b : Bg) : Array Value := #[.int .u64 b.d0, .int .u64 b.d1, .int .u64 b.d2, .int .u64 b.d3]
def bgZero : Bg := ⟨0, 0, 0, 0⟩
/-- a number as digits -/
def bgOf (a : Int) : Bg := ⟨toU a % 4294967296, toU a / 4294967296, if a < 0 then 4294967295 else 0, if a < 0 then 4294967295 else 0⟩
def bgAdd (a b : Bg) : Bg :=
  ⟨(a.d0 + b.d0) % 4294967296, (a.d1 + b.d1 + (a.d0 + b.d0) / 4294967296) % 4294967296,
   (a.d2 + b.d2 + (a.d1 + b.d1 + (a.d0 + b.d0) / 4294967296) / 4294967296) % 4294967296,
   (a.d3 + b.d3 + (a.d2 + b.d2 + (a.d1 + b.d1 + (a.d0 + b.d0) / 4294967296) / 4294967296) / 4294967296) % 4294967296⟩
theorem bgOf_ok (a : Int) (h : Acct.inInt a) : (bgOf a).ok := by
  unfold Acct.inInt at h
  unfold Bg.ok bgOf toU
  dsimp only
  split <;> omega
theorem bgAdd_ok (a b : Bg) : (bgAdd a b).ok := by
  unfold Bg.ok bgAdd
  dsimp only
  omega
theorem bgOf_val (a : Int) (h : Acct.inInt a) : (bgOf a).val = a % 340282366920938463463374607431768211456 := by
  unfold Acct.inInt at h
  unfold Bg.val bgOf toU
  dsimp only
  split <;> omega
theorem bgAdd_val (a b : Bg) (ha : a.ok) (hb : b.ok) : (bgAdd a b).val = (a.val + b.val) % 340282366920938463463374607431768211456 := by
  obtain ⟨a0, a1, a2, a3⟩ := a
  obtain ⟨b0, b1, b2, b3⟩ := b
  unfold Bg.ok at ha hb
  dsimp only at ha hb
  unfold Bg.val bgAdd
  dsimp only
  omega
theorem bg_inj {a b : Bg} (ha : a.ok) (hb : b.ok) (h : a.val = b.val) : a = b := by
  obtain ⟨a0, a1, a2, a3⟩ := a
  obtain ⟨b0, b1, b2, b3⟩ := b
  unfold Bg.ok at ha hb
  unfold Bg.val at h
  dsimp only at ha hb h
  have h0 : a0 = b0 := by omega
  have h1 : a1 = b1 := by omega
  have h2 : a2 = b2 := by omega
  have h3 : a3 = b3 := by omega
  subst h0; subst h1; subst h2; subst h3; rfl
/-- the sum of a list, digit by digit -/
def bgSum (b : Bg) (l : List Int) : Bg := l.foldl (fun b a => bgAdd b (bgOf a)) b
theorem bgSum_ok : ∀ (l : List Int) (b : Bg), b.ok → (bgSum b l).ok
  | [], b, h => h
  | a :: r, b, h => bgSum_ok r _ (bgAdd_ok _ _)
theorem bgSum_val : ∀ (l : List Int) (b : Bg), b.ok → (∀ a ∈ l, Acct.inInt a) → (bgSum b l).val = (b.val + l.sum) % 340282366920938463463374607431768211456
  | [], b, h, _ => by
    show b.val = (b.val + 0) % _
    obtain ⟨b0, b1, b2, b3⟩ := b
    unfold Bg.ok at h
    unfold Bg.val
    dsimp only at h ⊢
    omega
  | a :: r, b, h, ha => by
    show (bgSum (bgAdd b (bgOf a)) r).val = _
    have h1 := ha a (by simp)
    rw [bgSum_val r _ (bgAdd_ok _ _) (fun x hx => ha x (by simp [hx])), bgAdd_val _ _ h (bgOf_ok a h1), bgOf_val a h1, List.sum_cons]
    omega
theorem bgsum_bd : ∀ (l : List Int), (∀ a ∈ l, Acct.inInt a) → -9223372036854775808 * (l.length : Int) ≤ l.sum ∧ l.sum ≤ 9223372036854775808 * (l.length : Int)
  | [], _ => by simp
  | a :: r, h => by
    have h1 := h a (by simp)
    have h2 := bgsum_bd r (fun x hx => h x (by simp [hx]))
    unfold Acct.inInt at h1
    rw [List.sum_cons, List.length_cons]
    omega
/-- as a number of 64 bits -/
def bgLow (b : Bg) : Int := wrap64 ((b.d0 + b.d1 * 4294967296 : Nat) : Int)
theorem bgLow_in (b : Bg) : Acct.inInt (bgLow b) := by unfold bgLow wrap64 Acct.inInt; omega
/-- the sum is one of 64 bits, or it is not -/
theorem bgSum_small {l : List Int} (hl : ∀ a ∈ l, Acct.inInt a) (hn : l.length < 1000000) :
    (Acct.inInt l.sum → bgOf (bgLow (bgSum bgZero l)) = bgSum bgZero l ∧ bgLow (bgSum bgZero l) = l.sum) ∧ (¬ Acct.inInt l.sum → bgOf (bgLow (bgSum bgZero l)) ≠ bgSum bgZero l) := by
  have h0 : bgZero.ok := by unfold Bg.ok bgZero; decide
  have hv := bgSum_val l bgZero h0 hl
  have hk := bgSum_ok l bgZero h0
  have hb := bgsum_bd l hl
  have hz : bgZero.val = 0 := rfl
  rw [hz] at hv
  have hlow := bgLow_in (bgSum bgZero l)
  generalize hs : bgSum bgZero l = s at *
  constructor
  · intro hi
    have h1 : bgOf l.sum = s := bg_inj (bgOf_ok _ hi) hk (by rw [bgOf_val _ hi, hv]; omega)
    have h2 : bgLow s = l.sum := by
      rw [← h1]
      unfold Acct.inInt at hi
      unfold bgLow bgOf toU wrap64
      dsimp only
      omega
    exact ⟨by rw [h2, h1], h2⟩
  · intro hi e
    apply hi
    have h1 := bgOf_val _ hlow
    rw [e, hv] at h1
    unfold Acct.inInt at hlow ⊢
    omega
end Go.Proofs.YtecbnhmnhcpcmaaGreatDoor
