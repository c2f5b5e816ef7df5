/- Plain facts: the chapter's examples of postings. -/
import Derived.Test.YtecbnhmnhcpcmaaGreatDoorPkJournalKnown42
/-! Plain facts: the chapter's examples of postings. -/
namespace Go.Proofs.YtecbnhmnhcpcmaaGreatDoor
open Go.RowKit Go.WideMaps Go.Maps
set_option linter.unusedVariables false
set_option linter.unusedSimpArgs false
set_option maxRecDepth 100000
abbrev kDue : ByteArray := ⟨#[100, 117, 101]⟩
abbrev kCash : ByteArray := ⟨#[99, 97, 115, 104]⟩
abbrev kDUE : ByteArray := ⟨#[68, 117, 101]⟩
theorem knm_due : Acct.Named kDue.data.toList [100, 117, 101] [] := ⟨by decide +kernel, by decide, fun n hn => by cases hn⟩
theorem knm_cash : Acct.Named kCash.data.toList [99, 97, 115, 104] [] := ⟨by decide +kernel, by decide, fun n hn => by cases hn⟩
theorem kacc_due : accB kDue = true := accB_t.2 ⟨_, _, knm_due⟩
theorem kacc_cash : accB kCash = true := accB_t.2 ⟨_, _, knm_cash⟩
theorem kun_due : unitsB kDue.data.toList = false := by rw [units_of knm_due]; decide
theorem kun_cash : unitsB kCash.data.toList = false := by rw [units_of knm_cash]; decide
theorem kacc_DUE : accB kDUE = false := by
  cases h : accB kDUE
  · rfl
  · obtain ⟨wd, ns, hN⟩ := accB_t.1 h
    exfalso
    have h3 := hN.is
    obtain ⟨h4, h5, -⟩ := h3
    cases wd with
    | nil =>
      cases ns with
      | nil => cases h5
      | cons x r =>
        have h6 : (kDUE.data.toList).head? = (Acct.partsL (x :: r)).head? := by rw [h5]; rfl
        simp [Acct.partsL] at h6
    | cons x r =>
      have h6 : (68 : UInt8) = x := by
        have h7 := congrArg List.head? h5
        simp at h7
        exact h7
      subst h6
      simp [Acct.lettersL] at h4
      exact absurd h4.1 (by decide)
theorem post_bad {D : DM} {t : Int} {ten : Nat} {L : List Pt} (h : postsB 1 t L = false ∨ mayJ L = false) : postO D t ten L = (0, 1, D) := by
  unfold postO
  rw [if_pos]
  rintro ⟨h1, h2⟩
  rcases h with h | h
  · rw [h] at h1; cases h1
  · rw [h] at h2; cases h2
abbrev kB1 : List Pt := [⟨kDue, 1⟩]
abbrev kB2 : List Pt := [⟨kDue, 1⟩, ⟨kDue, -1⟩]
abbrev kB3 : List Pt := [⟨kDue, 0⟩, ⟨kCash, -0⟩]
abbrev kB4 : List Pt := [⟨kDUE, 1⟩, ⟨kCash, -1⟩]
abbrev kB5 : List Pt := [⟨kDue, 4611686018427387905⟩, ⟨kCash, -4611686018427387905⟩]
abbrev kP1 : List Pt := [⟨kDue, 1⟩, ⟨kCash, -1⟩]
abbrev kS1 : List Pt := [⟨kDue, 1⟩, ⟨kCash, 1⟩]
abbrev kP2 : List Pt := [⟨kDue, 4611686018427387904⟩, ⟨kCash, -4611686018427387904⟩]
abbrev kP3 : List Pt := [⟨kCash, 4611686018427387904⟩, ⟨kDue, -4611686018427387904⟩]
theorem kb0 (D : DM) : postO D 0 1 [] = (0, 1, D) := post_bad (.inl (by decide))
theorem kb1 (D : DM) : postO D 0 1 kB1 = (0, 1, D) := post_bad (.inr (by unfold mayJ; rw [Bool.and_eq_false_iff]; exact .inr (by decide)))
theorem kb2 (D : DM) : postO D 0 1 kB2 = (0, 1, D) := post_bad (.inr (by unfold mayJ; rw [Bool.and_eq_false_iff]; exact .inr (by decide)))
theorem kb3 (D : DM) : postO D 0 1 kB3 = (0, 1, D) := post_bad (.inl (by decide))
theorem kb4 (D : DM) : postO D 0 1 kB4 = (0, 1, D) := post_bad (.inr (by
  unfold mayJ
  simp only [List.all_cons, List.all_nil, kacc_DUE]
  rfl))
theorem kb5 (D : DM) : postO D 0 1 kB5 = (0, 1, D) := post_bad (.inl (by decide))
theorem kb6 (D : DM) : postO D (-1) 1 kP1 = (0, 1, D) := post_bad (.inl (by decide))
theorem kmay {a b : Int} : mayJ [⟨kDue, a⟩, ⟨kCash, b⟩] = true ∧ mayJ [⟨kCash, a⟩, ⟨kDue, b⟩] = true := by
  constructor <;>
  · unfold mayJ
    simp only [List.all_cons, List.all_nil, kacc_due, kacc_cash]
    rfl
theorem kunit {a b : Int} : evenB unitP [⟨kDue, a⟩, ⟨kCash, b⟩] = true ∧ evenB unitP [⟨kCash, a⟩, ⟨kDue, b⟩] = true := by
  have h1 : ∀ x : Int, ¬ unitP ⟨kDue, x⟩ = true := fun x => by unfold unitP; rw [kun_due]; decide
  have h2 : ∀ x : Int, ¬ unitP ⟨kCash, x⟩ = true := fun x => by unfold unitP; rw [kun_cash]; decide
  constructor <;>
  · unfold evenB
    first
    | rw [List.filter_cons_of_neg (h1 _), List.filter_cons_of_neg (h2 _)]
    | rw [List.filter_cons_of_neg (h2 _), List.filter_cons_of_neg (h1 _)]
    rfl
theorem kb7 (D : DM) : postO D 0 1 kS1 = (0, 32, D) := by
  unfold postO
  rw [if_neg (fun h => h ⟨by decide, kmay.1⟩), if_pos (fun h => absurd h.1 (by decide))]
theorem post_ok {D : DM} {t : Int} {ten : Nat} {L : List Pt} (h1 : postsB 1 t L = true) (h2 : mayJ L = true) (h3 : evenB allP L = true) (h4 : evenB unitP L = true) (h5 : L.any (overB D) = false) : postO D t ten L = (((lastN D + 1 : Nat) : Int), 0, postD D t ten L) := by
  unfold postO
  rw [if_neg (fun h => h ⟨h1, h2⟩), if_neg (fun h => h ⟨h3, h4⟩), if_neg (by rw [h5]; decide)]
noncomputable abbrev kD1 : DM := postD (.map []) 0 1 kP2
noncomputable abbrev kD2 : DM := postD kD1 0 0 kP3
theorem any2 {D : DM} {p q : Pt} (h1 : overB D p = false) (h2 : overB D q = false) : [p, q].any (overB D) = false := by
  rw [List.any_cons, List.any_cons, h1, h2]
  rfl
theorem kov2 : kP2.any (overB (.map [])) = false := any2
  ((over_iff (by unfold Acct.inInt; decide)).2 (by rw [bal_zero]; decide))
  ((over_iff (by unfold Acct.inInt; decide)).2 (by rw [bal_zero]; decide))
theorem kpost2 : postO (.map []) 0 1 kP2 = (1, 0, kD1) := post_ok (by decide) kmay.1 (by decide) kunit.1 kov2
theorem kjn1 : Jn kD1 1 := ⟨isM_post isMap_empty, wf_post isMap_empty wf_empty (may_apart kmay.1).1 (by decide), by rw [post_lastN isMap_empty (by decide)]; rfl⟩
theorem kbal1 : bal kD1 kDue = 4611686018427387904 ∧ bal kD1 kCash = -4611686018427387904 := by
  have ha := apart_pw (may_apart (L := kP2) kmay.1).1
  constructor
  · rw [bal_postD jn_empty kmay.1 kov2, bal_zero, amt_one ha (q := ⟨kDue, 4611686018427387904⟩) (by simp)]
    rfl
  · rw [bal_postD jn_empty kmay.1 kov2, bal_zero, amt_one ha (q := ⟨kCash, -4611686018427387904⟩) (by simp)]
    rfl
theorem kpost1 : postO kD1 0 1 kP1 = (0, 30, kD1) := by
  unfold postO
  rw [if_neg (fun h => h ⟨by decide, kmay.1⟩), if_neg (fun h => h ⟨by decide, kunit.1⟩), if_pos]
  rw [List.any_eq_true]
  refine ⟨⟨kDue, 1⟩, by simp, ?_⟩
  cases h : overB kD1 ⟨kDue, 1⟩
  · have h1 := (over_iff (by unfold Acct.inInt; decide)).1 h
    dsimp only at h1
    rw [kbal1.1] at h1
    omega
  · rfl
theorem kov3 : kP3.any (overB kD1) = false := any2
  ((over_iff (by unfold Acct.inInt; decide)).2 (by dsimp only; rw [kbal1.2]; decide))
  ((over_iff (by unfold Acct.inInt; decide)).2 (by dsimp only; rw [kbal1.1]; decide))
theorem kpost3 : postO kD1 0 0 kP3 = (2, 0, kD2) := by
  rw [post_ok (by decide) kmay.2 (by decide) kunit.2 kov3, kjn1.last]
  rfl
theorem kjn2 : Jn kD2 2 := ⟨isM_post kjn1.isM, wf_post kjn1.isM kjn1.wf (may_apart kmay.2).1 (by rw [kjn1.last]; decide), by rw [post_lastN kjn1.isM (by rw [kjn1.last]; decide), kjn1.last]⟩
theorem kbal2 : bal kD2 kDue = 0 ∧ bal kD2 kCash = 0 := by
  have ha := apart_pw (may_apart (L := kP3) kmay.2).1
  constructor
  · rw [bal_postD kjn1 kmay.2 kov3, kbal1.1, amt_one ha (q := ⟨kDue, -4611686018427387904⟩) (by simp)]
    rfl
  · rw [bal_postD kjn1 kmay.2 kov3, kbal1.2, amt_one ha (q := ⟨kCash, 4611686018427387904⟩) (by simp)]
    rfl
theorem kkb2 : KB kD2 [kDue, kCash] := kb_post (kb_post (kb_empty _) isMap_empty (may_apart kmay.1).1 (fun q hq => by simp at hq; rcases hq with rfl | rfl <;> simp)) kjn1.isM (may_apart kmay.2).1 (fun q hq => by simp at hq; rcases hq with rfl | rfl <;> simp)
theorem kscan {D : DM} (hS : StrD D) (h : D = kD2) : scanL D [98] = [] := by
  subst h
  have h1 : keysS kD2 = [] := by
    rw [List.eq_nil_iff_forall_not_mem]
    intro k hk
    obtain ⟨h2, h3⟩ := (mem_keysS hS k).1 hk
    obtain ⟨s, hs, rfl, h4⟩ := kkb2 k h2 h3
    obtain ⟨-, h5, h6⟩ := kjn2.wf.num (.inl h2)
    have h7 : bal kD2 s = 0 ∧ accB s = true := by
      simp at hs
      rcases hs with rfl | rfl
      · exact ⟨kbal2.1, kacc_due⟩
      · exact ⟨kbal2.2, kacc_cash⟩
    obtain ⟨h7, h8⟩ := h7
    unfold bal balV at h7
    rw [if_pos h8] at h7
    have h9 : wrap64 (numAt kD2 (balK s)).1 = 0 := h7
    unfold wrap64 at h9
    omega
  unfold keysS at h1
  exact List.map_eq_nil_iff.1 h1
theorem gt_post_j {D : DM} {t : Int} {ten : Nat} {L : List Pt} {x : Nat} (h : big8 x ≠ big8 (lastN D + 1)) : gt (postD D t ten L) (106 :: big8 x) = gt D (106 :: big8 x) := by
  unfold postD
  rw [gt_kept_ne (fun e => by have := congrArg List.head? e; simp at this), gt_keptAll_ne _ _ _ (fun kx hkx => by
    obtain ⟨q, -, rfl⟩ := List.mem_map.1 hkx
    exact fun e => by have := congrArg List.head? e; simp [balK] at this), gt_pt_ne (fun e => h (by injection e))]
theorem kget : gt kD2 (106 :: big8 0) = none := by
  rw [gt_post_j (by rw [kjn1.last]; decide), gt_post_j (by decide)]
  rfl
end Go.Proofs.YtecbnhmnhcpcmaaGreatDoor
