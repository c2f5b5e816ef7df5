/- Plain facts: many postings. -/
import Derived.Test.YtecbnhmnhcpcmaaGreatDoorJnT
namespace Go.Proofs.YtecbnhmnhcpcmaaGreatDoor
open Go.RowKit Go.WideMaps Go.Maps
set_option linter.unusedVariables false
set_option linter.unusedSimpArgs false
set_option maxRecDepth 100000
/-- what holds of a store of the journal -/
structure Jn (D : DM) (c : Nat) : Prop where
  isM : IsMap D
  wf : WFJ D
  last : lastN D = c
theorem jn_empty : Jn (.map []) 0 := ⟨isMap_empty, wf_empty, last_empty⟩
theorem may_apart {L : List Pt} (h : mayJ L = true) : apartB L = true ∧ ∀ q ∈ L, accB q.a = true := by
  unfold mayJ at h
  rw [Bool.and_eq_true, Bool.and_eq_true] at h
  exact ⟨h.2.2, fun q hq => by simpa using List.all_eq_true.1 h.1 q hq⟩
/-- what a posting answers: an error, and nothing changed; or the next number -/
theorem postO_cases {D : DM} {c : Nat} (h : Jn D c) (hc : c < 1000000) (time : Int) (ten : Nat) (L : List Pt) :
    (∃ e : Int, (e = 1 ∨ e = 32 ∨ e = 30) ∧ postO D time ten L = (0, e, D)) ∨
    (postO D time ten L = (((c + 1 : Nat) : Int), 0, postD D time ten L) ∧ Jn (postD D time ten L) (c + 1) ∧ postsB 1 time L = true ∧ mayJ L = true ∧ evenB allP L = true ∧ evenB unitP L = true ∧ L.any (overB D) = false) := by
  unfold postO
  by_cases h1 : ¬ (postsB 1 time L = true ∧ mayJ L = true)
  · rw [if_pos h1]
    exact .inl ⟨1, .inl rfl, rfl⟩
  rw [if_neg h1]
  by_cases h2 : ¬ (evenB allP L = true ∧ evenB unitP L = true)
  · rw [if_pos h2]
    exact .inl ⟨32, .inr (.inl rfl), rfl⟩
  rw [if_neg h2]
  by_cases h3 : L.any (overB D) = true
  · rw [if_pos h3]
    exact .inl ⟨30, .inr (.inr rfl), rfl⟩
  rw [if_neg h3]
  obtain ⟨g1, g2⟩ := Decidable.not_not.1 h1
  obtain ⟨g3, g4⟩ := Decidable.not_not.1 h2
  have hl := h.last
  refine .inr ⟨by rw [hl], ⟨isM_post h.isM, wf_post h.isM h.wf (may_apart g2).1 (by omega), by rw [post_lastN h.isM (by omega), hl]⟩, g1, g2, g3, g4, by simpa using h3⟩
/-- a store after postings, and those that were posted -/
noncomputable def madeD : DM → List Ac → DM × List Ac
  | D, [] => (D, [])
  | D, a :: r => if (postO D a.t a.ten.toNat a.ps).2.1 = 0 then ((madeD (postO D a.t a.ten.toNat a.ps).2.2 r).1, a :: (madeD (postO D a.t a.ten.toNat a.ps).2.2 r).2) else madeD (postO D a.t a.ten.toNat a.ps).2.2 r
theorem made_no {D : DM} {a : Ac} {r : List Ac} {e : Int} (hp : postO D a.t a.ten.toNat a.ps = (0, e, D)) (he : e ≠ 0) : madeD D (a :: r) = madeD D r := by
  show (if _ then _ else _) = _
  rw [hp]
  exact if_neg he
theorem made_yes {D D' : DM} {a : Ac} {r : List Ac} {x : Int} (hp : postO D a.t a.ten.toNat a.ps = (x, 0, D')) : madeD D (a :: r) = ((madeD D' r).1, a :: (madeD D' r).2) := by
  show (if _ then _ else _) = _
  rw [hp]
  exact if_pos rfl
theorem made_jn : ∀ (l : List Ac) (D : DM) (c : Nat), Jn D c → c + l.length < 1000000 → ∃ c', c' ≤ c + l.length ∧ Jn (madeD D l).1 c'
  | [], D, c, h, _ => ⟨c, by simp, h⟩
  | a :: r, D, c, h, hc => by
    rw [List.length_cons] at hc
    unfold madeD
    rcases postO_cases h (by omega) a.t a.ten.toNat a.ps with ⟨e, he, hp⟩ | ⟨hp, hj, -⟩
    · rw [hp]
      simp only
      rw [if_neg (by omega)]
      obtain ⟨c', h1, h2⟩ := made_jn r D c h (by omega)
      exact ⟨c', by rw [List.length_cons]; omega, h2⟩
    · rw [hp]
      simp only [if_true]
      obtain ⟨c', h1, h2⟩ := made_jn r _ (c + 1) hj (by omega)
      exact ⟨c', by rw [List.length_cons]; omega, h2⟩
/-- all amounts of an account in parts -/
def amt (L : List Pt) (s : ByteArray) : Int := ((L.filter fun q => decide (q.a.data.toList = s.data.toList)).map Pt.n).sum
theorem amt_none {L : List Pt} {s : ByteArray} (h : ∀ q ∈ L, q.a ≠ s) : amt L s = 0 := by
  unfold amt
  rw [List.filter_eq_nil_iff.2 (fun q hq => by simpa using fun e => h q hq (ba_data e))]
  rfl
end Go.Proofs.YtecbnhmnhcpcmaaGreatDoor
