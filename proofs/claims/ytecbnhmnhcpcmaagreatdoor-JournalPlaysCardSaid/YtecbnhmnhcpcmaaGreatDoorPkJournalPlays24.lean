/- The laws' acts in memory; the walk of great. Plain facts: many postings. -/
import Derived.Test.YtecbnhmnhcpcmaaGreatDoorPkJournalPlays23
/-! The laws' acts in memory; the walk of great. -/
namespace Go.Proofs.YtecbnhmnhcpcmaaGreatDoor
open Go.RowKit Go.WideMaps Go.Maps
set_option linter.unusedVariables false
set_option linter.unusedSimpArgs false
set_option maxRecDepth 100000
/-- a law's act: a posting -/
structure Ac where
  (t : Int) (ten : Int) (pv : Value) (ps : List Pt)
def Ac.cells (a : Ac) : List Value := [.int .i64 a.t, .int .u32 a.ten, a.pv]
def Ac.ok (w : World) (a : Ac) : Prop := RowsIn w a.pv 2 (a.ps.map Pt.cells) ∧ (0 ≤ a.ten ∧ a.ten ≤ 4294967295) ∧ Acct.inInt a.t ∧ ∀ q ∈ a.ps, Acct.inInt q.n
/-- no more than a law looks at -/
def Ac.small (a : Ac) : Prop := a.ps.length ≤ 40 ∧ ∀ q ∈ a.ps, q.a.size ≤ 100
theorem Ac.ok.below {w w' : World} {a : Ac} (h : a.ok w) (hb : Below w.heap.size w w') : a.ok w' := ⟨h.1.below hb, h.2⟩
theorem ac_cells {w : World} {a : Option Addr} {n c : Nat} {L : List Ac} (h : RowsIn w (.slice a n c) 3 (L.map Ac.cells)) (i : Nat) (hi : i < L.length) : ∃ b o, a = some ⟨b, o, none⟩ ∧ w.cell? ⟨b, o + i * 3, none⟩ = some (.int .i64 L[i].t) ∧ w.cell? ⟨b, o + i * 3 + 1, none⟩ = some (.int .u32 L[i].ten) ∧ w.cell? ⟨b, o + i * 3 + 2, none⟩ = some L[i].pv := by
  obtain ⟨b, o, h1, h2⟩ := rows_cell h i (by simpa using hi)
  have e : ((L.map Ac.cells).getD i []) = L[i].cells := by simp [List.getD, hi]
  rw [e] at h2
  exact ⟨b, o, h1, h2 0 (by omega), by rw [Nat.add_assoc]; exact h2 1 (by omega), by rw [Nat.add_assoc]; exact h2 2 (by omega)⟩
theorem ac_form {w : World} {lv : Value} {L : List Ac} (h : RowsIn w lv 3 (L.map Ac.cells)) : ∃ a c, lv = .slice a L.length c := by
  obtain ⟨a, c, e, -, -⟩ := rows_form h
  rw [List.length_map] at e
  exact ⟨a, c, e⟩
def GreatEnd (L : List Ac) (w : World) (e : Ending) (w' : World) : Prop := ∃ b, e = .returned (.bool b) ∧ (b = false → L.length ≤ 60 ∧ ∀ a ∈ L, a.small) ∧ w = w'
theorem GreatEnd.mk {L : List Ac} {w w' : World} {e : Ending} (b : Bool) (he : e = .returned (.bool b)) (h : b = false → L.length ≤ 60 ∧ ∀ a ∈ L, a.small) (hw : w = w') : GreatEnd L w e w' := ⟨b, he, h, hw⟩
set_option maxHeartbeats 4000000 in
theorem great_any (lv : Value) (L : List Ac) (w : World) (hl : RowsIn w lv 3 (L.map Ac.cells)) (ho : ∀ a ∈ L, a.ok w) : Calls Tryz.prog 8 #[lv] w (GreatEnd L w) := by
  have HL := Lib.hid hl
  have HO := Lib.hid ho
  have hlen : L.length ≤ 9223372036854775807 := by
    obtain ⟨a, c, e, h1, h2⟩ := rows_form hl
    rw [List.length_map] at h1
    unfold maxLen at h2
    omega
  obtain ⟨a, c, rfl⟩ := ac_form hl
  clear hl ho
  go_enter Tryz.func8, Tryz.ntmps8
  go_wp2_with fail
  go_loopw [3] (fun iv wr => ∃ k : Nat, k ≤ L.length ∧ k ≤ 61 ∧ iv = .int .i64 k ∧ Hid (∀ a ∈ L.take k, a.small) ∧ wr = w) (fun iv _ => 61 - (intOf iv).toNat)
  case atStart => exact ⟨0, by omega, by omega, rfl, fun a ha => by simp at ha, rfl⟩
  case round =>
    obtain ⟨k, hk, hk61, rfl, HA, hwr⟩ := hrel
    have hwr' := hwr.symm
    subst hwr'
    clear hwr
    have hx : (k < L.length ∧ k < 61) ∨ (k < L.length ∧ k = 61) ∨ k = L.length := by omega
    rcases hx with ⟨hlt, h61⟩ | ⟨hlt, h61⟩ | hke
    · obtain ⟨g, o, rfl, y0, y1, y2⟩ := ac_cells HL.out k hlt
      have hz : (k : Int) < L.length := by omega
      have hz2 : (k : Int) < 61 := by omega
      have hok := HO.out L[k] (List.getElem_mem hlt)
      have HT : Hid (L[k].small → ∀ a ∈ L.take (k + 1), a.small) := fun h a ha => by
        rw [List.take_succ_eq_append_getElem hlt] at ha
        rcases List.mem_append.1 ha with h1 | h1
        · exact HA.out a h1
        · simp at h1; subst h1; exact h
      generalize L[k] = q at *
      obtain ⟨t, ten, pv, ps⟩ := q
      dsimp only at y0 y1 y2
      have hps := pt_len hok.1
      obtain ⟨pa, pc, e⟩ := pt_form hok.1
      dsimp only at e hps
      subst e
      have HP := Lib.hid hok.1
      dsimp only at HP
      clear hok
      by_cases h40 : 40 < ps.length
      · have d1 : decide ((40 : Int) < ((ps.length : Nat) : Int)) = true := decide_eq_true (by omega)
        clear HT HA
        go_wp2_with fail
        go_ret
        exact GreatEnd.mk true rfl (fun h => by cases h) rfl
      · have d1 : decide ((40 : Int) < ((ps.length : Nat) : Int)) = false := decide_eq_false (by omega)
        go_wp2_with fail
        go_loopw [4] (fun jv wz => ∃ m : Nat, m ≤ ps.length ∧ jv = .int .i64 m ∧ Hid (∀ q ∈ ps.take m, q.a.size ≤ 100) ∧ wz = w) (fun jv _ => ps.length - (intOf jv).toNat)
        case atStart => exact ⟨0, by omega, rfl, fun q hq => by simp at hq, rfl⟩
        case round =>
          obtain ⟨m, hm, rfl, HB, hwz⟩ := hrel
          have hwz' := hwz.symm
          subst hwz'
          clear hwz
          by_cases hmt : m < ps.length
          · obtain ⟨g2, o2, rfl, z0, z1⟩ := pt_cells HP.out m hmt
            have hzm : (m : Int) < ps.length := by omega
            have HT2 : Hid (ps[m].a.size ≤ 100 → ∀ q ∈ ps.take (m + 1), q.a.size ≤ 100) := fun h q hq => by
              rw [List.take_succ_eq_append_getElem hmt] at hq
              rcases List.mem_append.1 hq with h1 | h1
              · exact HB.out q h1
              · simp at h1; subst h1; exact h
            generalize ps[m] = r at *
            obtain ⟨s, n⟩ := r
            dsimp only at z0 z1 HT2
            by_cases h100 : 100 < s.size
            · have d2 : decide ((100 : Int) < ((s.size : Nat) : Int)) = true := decide_eq_true (by omega)
              clear HT2 HB HT HA
              go_wp2_with fail
              go_ret
              exact GreatEnd.mk true rfl (fun h => by cases h) rfl
            · have d2 : decide ((100 : Int) < ((s.size : Nat) : Int)) = false := decide_eq_false (by omega)
              have HT3 := Lib.hid (HT2.out (by omega))
              clear HT2 HB
              go_wp2_with fail
              go_roundw
              case rel => exact ⟨m + 1, by omega, by go_num, HT3.out, by trivial⟩
              case measure => simp [intOf]; omega
          · have hme : m = ps.length := by omega
            have dm : decide ((m : Int) < ((ps.length : Nat) : Int)) = false := decide_eq_false (by omega)
            have HT3 := Lib.hid (HT.out ⟨by dsimp only; omega, fun q hq => HB.out q (by rw [hme, List.take_length]; exact hq)⟩)
            clear HB HT HA hme
            go_wp2_with fail
            go_roundw
            case rel => exact ⟨k + 1, by omega, by omega, by go_num, HT3.out, by trivial⟩
            case measure => simp [intOf]; omega
    · have d1 : decide ((k : Int) < 61) = false := decide_eq_false (by omega)
      have hk6 : ¬ k < 61 := by omega
      have hk62 : ¬ (k : Int) < 61 := by omega
      clear h61
      have d2 : decide ((60 : Int) < ((L.length : Nat) : Int)) = true := decide_eq_true (by omega)
      have hz : (k : Int) < L.length := by omega
      clear HA
      go_wp2_with fail
      go_ret
      exact GreatEnd.mk true rfl (fun h => by cases h) rfl
    · have HQ : Hid (∀ a ∈ L, a.small) := fun a ha => HA.out a (by rw [hke, List.take_length]; exact ha)
      have d1 : decide ((k : Int) < ((L.length : Nat) : Int)) = false := decide_eq_false (by omega)
      have hkl : ¬ k < L.length := by omega
      clear HA
      by_cases h60 : 60 < L.length
      · have d2 : decide ((60 : Int) < ((L.length : Nat) : Int)) = true := decide_eq_true (by omega)
        go_wp2_with fail
        go_ret
        exact GreatEnd.mk true rfl (fun h => by cases h) rfl
      · have d2 : decide ((60 : Int) < ((L.length : Nat) : Int)) = false := decide_eq_false (by omega)
        go_wp2_with fail
        go_ret
        exact GreatEnd.mk false rfl (fun _ => ⟨by omega, HQ.out⟩) rfl
end Go.Proofs.YtecbnhmnhcpcmaaGreatDoor
/-! Plain facts: many postings. -/
namespace Go.Proofs.YtecbnhmnhcpcmaaGreatDoor
open Go.RowKit Go.WideMaps Go.Maps
set_option linter.unusedVariables false
set_option linter.unusedSimpArgs false
set_option maxRecDepth 100000
/-- what holds of a store of the journal -/
structure Jn (D : DM) (c : Nat) : Prop where
  isM : IsMap D
  wf : WFJ D
  last : lastN D = c
theorem jn_empty : Jn (.map []) 0 := ⟨isMap_empty, wf_empty, last_empty⟩
theorem may_apart {L : List Pt} (h : mayJ L = true) : apartB L = true ∧ ∀ q ∈ L, accB q.a = true := by
  unfold mayJ at h
  rw [Bool.and_eq_true, Bool.and_eq_true] at h
  exact ⟨h.2.2, fun q hq => by simpa using List.all_eq_true.1 h.1 q hq⟩
/-- what a posting answers: an error, and nothing changed; or the next number -/
theorem postO_cases {D : DM} {c : Nat} (h : Jn D c) (hc : c < 1000000) (time : Int) (ten : Nat) (L : List Pt) :
    (∃ e : Int, (e = 1 ∨ e = 32 ∨ e = 30) ∧ postO D time ten L = (0, e, D)) ∨
    (postO D time ten L = (((c + 1 : Nat) : Int), 0, postD D time ten L) ∧ Jn (postD D time ten L) (c + 1) ∧ postsB 1 time L = true ∧ mayJ L = true ∧ evenB allP L = true ∧ evenB unitP L = true ∧ L.any (overB D) = false) := by
  unfold postO
  by_cases h1 : ¬ (postsB 1 time L = true ∧ mayJ L = true)
  · rw [if_pos h1]
    exact .inl ⟨1, .inl rfl, rfl⟩
  rw [if_neg h1]
  by_cases h2 : ¬ (evenB allP L = true ∧ evenB unitP L = true)
  · rw [if_pos h2]
    exact .inl ⟨32, .inr (.inl rfl), rfl⟩
  rw [if_neg h2]
  by_cases h3 : L.any (overB D) = true
  · rw [if_pos h3]
    exact .inl ⟨30, .inr (.inr rfl), rfl⟩
  rw [if_neg h3]
  obtain ⟨g1, g2⟩ := Decidable.not_not.1 h1
  obtain ⟨g3, g4⟩ := Decidable.not_not.1 h2
  have hl := h.last
  refine .inr ⟨by rw [hl], ⟨isM_post h.isM, wf_post h.isM h.wf (may_apart g2).1 (by omega), by rw [post_lastN h.isM (by omega), hl]⟩, g1, g2, g3, g4, by simpa using h3⟩
/-- a store after postings, and those that were posted -/
noncomputable def madeD : DM → List Ac → DM × List Ac
  | D, [] => (D, [])
  | D, a :: r => if (postO D a.t a.ten.toNat a.ps).2.1 = 0 then ((madeD (postO D a.t a.ten.toNat a.ps).2.2 r).1, a :: (madeD (postO D a.t a.ten.toNat a.ps).2.2 r).2) else madeD (postO D a.t a.ten.toNat a.ps).2.2 r
theorem made_no {D : DM} {a : Ac} {r : List Ac} {e : Int} (hp : postO D a.t a.ten.toNat a.ps = (0, e, D)) (he : e ≠ 0) : madeD D (a :: r) = madeD D r := by
  show (if _ then _ else _) = _
  rw [hp]
  exact if_neg he
theorem made_yes {D D' : DM} {a : Ac} {r : List Ac} {x : Int} (hp : postO D a.t a.ten.toNat a.ps = (x, 0, D')) : madeD D (a :: r) = ((madeD D' r).1, a :: (madeD D' r).2) := by
  show (if _ then _ else _) = _
  rw [hp]
  exact if_pos rfl
theorem made_jn : ∀ (l : List Ac) (D : DM) (c : Nat), Jn D c → c + l.length < 1000000 → ∃ c', c' ≤ c + l.length ∧ Jn (madeD D l).1 c'
  | [], D, c, h, _ => ⟨c, by simp, h⟩
  | a :: r, D, c, h, hc => by
    rw [List.length_cons] at hc
    unfold madeD
    rcases postO_cases h (by omega) a.t a.ten.toNat a.ps with ⟨e, he, hp⟩ | ⟨hp, hj, -⟩
    · rw [hp]
      simp only
      rw [if_neg (by omega)]
      obtain ⟨c', h1, h2⟩ := made_jn r D c h (by omega)
      exact ⟨c', by rw [List.length_cons]; omega, h2⟩
    · rw [hp]
      simp only [if_true]
      obtain ⟨c', h1, h2⟩ := made_jn r _ (c + 1) hj (by omega)
      exact ⟨c', by rw [List.length_cons]; omega, h2⟩
/-- all amounts of an account in parts -/
def amt (L : List Pt) (s : ByteArray) : Int := ((L.filter fun q => decide (q.a.data.toList = s.data.toList)).map Pt.n).sum
theorem amt_none {L : List Pt} {s : ByteArray} (h : ∀ q ∈ L, q.a ≠ s) : amt L s = 0 := by
  unfold amt
  rw [List.filter_eq_nil_iff.2 (fun q hq => by simpa using fun e => h q hq (ba_data e))]
  rfl
end Go.Proofs.YtecbnhmnhcpcmaaGreatDoor
