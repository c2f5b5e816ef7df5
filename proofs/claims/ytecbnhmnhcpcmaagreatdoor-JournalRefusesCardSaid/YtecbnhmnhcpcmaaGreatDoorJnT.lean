/- The laws' acts in memory; the walk of great. -/
import Derived.Test.YtecbnhmnhcpcmaaGreatDoorJnS
namespace Go.Proofs.YtecbnhmnhcpcmaaGreatDoor
open Go.RowKit Go.WideMaps Go.Maps
set_option linter.unusedVariables false
set_option linter.unusedSimpArgs false
set_option maxRecDepth 100000
/-- a law's act: a posting -/
structure Ac where
  (t : Int) (ten : Int) (pv : Value) (ps : List Pt)
def Ac.cells (a : Ac) : List Value := [.int .i64 a.t, .int .u32 a.ten, a.pv]
def Ac.ok (w : World) (a : Ac) : Prop := RowsIn w a.pv 2 (a.ps.map Pt.cells) ∧ (0 ≤ a.ten ∧ a.ten ≤ 4294967295) ∧ Acct.inInt a.t ∧ ∀ q ∈ a.ps, Acct.inInt q.n
/-- no more than a law looks at -/
def Ac.small (a : Ac) : Prop := a.ps.length ≤ 40 ∧ ∀ q ∈ a.ps, q.a.size ≤ 100
theorem Ac.ok.below {w w' : World} {a : Ac} (h : a.ok w) (hb : Below w.heap.size w w') : a.ok w' := ⟨h.1.below hb, h.2⟩
theorem ac_cells {w : World} {a : Option Addr} {n c : Nat} {L : List Ac} (h : RowsIn w (.slice a n c) 3 (L.map Ac.cells)) (i : Nat) (hi : i < L.length) : ∃ b o, a = some ⟨b, o, none⟩ ∧ w.cell? ⟨b, o + i * 3, none⟩ = some (.int .i64 L[i].t) ∧ w.cell? ⟨b, o + i * 3 + 1, none⟩ = some (.int .u32 L[i].ten) ∧ w.cell? ⟨b, o + i * 3 + 2, none⟩ = some L[i].pv := by
  obtain ⟨b, o, h1, h2⟩ := rows_cell h i (by simpa using hi)
  have e : ((L.map Ac.cells).getD i []) = L[i].cells := by simp [List.getD, hi]
  rw [e] at h2
  exact ⟨b, o, h1, h2 0 (by omega), by rw [Nat.add_assoc]; exact h2 1 (by omega), by rw [Nat.add_assoc]; exact h2 2 (by omega)⟩
theorem ac_form {w : World} {lv : Value} {L : List Ac} (h : RowsIn w lv 3 (L.map Ac.cells)) : ∃ a c, lv = .slice a L.length c := by
  obtain ⟨a, c, e, -, -⟩ := rows_form h
  rw [List.length_map] at e
  exact ⟨a, c, e⟩
def GreatEnd (L : List Ac) (w : World) (e : Ending) (w' : World) : Prop := ∃ b, e = .returned (.bool b) ∧ (b = false → L.length ≤ 60 ∧ ∀ a ∈ L, a.small) ∧ w = w'
theorem GreatEnd.mk {L : List Ac} {w w' : World} {e : Ending} (b : Bool) (he : e = .returned (.bool b)) (h : b = false → L.length ≤ 60 ∧ ∀ a ∈ L, a.small) (hw : w = w') : GreatEnd L w e w' := ⟨b, he, h, hw⟩
set_option maxHeartbeats 4000000 in
theorem great_any (lv : Value) (L : List Ac) (w : World) (hl : RowsIn w lv 3 (L.map Ac.cells)) (ho : ∀ a ∈ L, a.ok w) : Calls Tryz.prog 8 #[lv] w (GreatEnd L w) := by
  have HL := Lib.hid hl
  have HO := Lib.hid ho
  have hlen : L.length ≤ 9223372036854775807 := by
    obtain ⟨a, c, e, h1, h2⟩ := rows_form hl
    rw [List.length_map] at h1
    unfold maxLen at h2
    omega
  obtain ⟨a, c, rfl⟩ := ac_form hl
  clear hl ho
  go_enter Tryz.func8, Tryz.ntmps8
  go_wp2_with fail
  go_loopw [3] (fun iv wr => ∃ k : Nat, k ≤ L.length ∧ k ≤ 61 ∧ iv = .int .i64 k ∧ Hid (∀ a ∈ L.take k, a.small) ∧ wr = w) (fun iv _ => 61 - (intOf iv).toNat)
  case atStart => exact ⟨0, by omega, by omega, rfl, fun a ha => by simp at ha, rfl⟩
  case round =>
    obtain ⟨k, hk, hk61, rfl, HA, hwr⟩ := hrel
    have hwr' := hwr.symm
    subst hwr'
    clear hwr
    have hx : (k < L.length ∧ k < 61) ∨ (k < L.length ∧ k = 61) ∨ k = L.length := by omega
    rcases hx with ⟨hlt, h61⟩ | ⟨hlt, h61⟩ | hke
    · obtain ⟨g, o, rfl, y0, y1, y2⟩ := ac_cells HL.out k hlt
      have hz : (k : Int) < L.length := by omega
      have hz2 : (k : Int) < 61 := by omega
      have hok := HO.out L[k] (List.getElem_mem hlt)
      have HT : Hid (L[k].small → ∀ a ∈ L.take (k + 1), a.small) := fun h a ha => by
        rw [List.take_succ_eq_append_getElem hlt] at ha
        rcases List.mem_append.1 ha with h1 | h1
        · exact HA.out a h1
        · simp at h1; subst h1; exact h
      generalize L[k] = q at *
      obtain ⟨t, ten, pv, ps⟩ := q
      dsimp only at y0 y1 y2
      have hps := pt_len hok.1
      obtain ⟨pa, pc, e⟩ := pt_form hok.1
      dsimp only at e hps
      subst e
      have HP := Lib.hid hok.1
      dsimp only at HP
      clear hok
      by_cases h40 : 40 < ps.length
      · have d1 : decide ((40 : Int) < ((ps.length : Nat) : Int)) = true := decide_eq_true (by omega)
        clear HT HA
        go_wp2_with fail
        go_ret
        exact GreatEnd.mk true rfl (fun h => by cases h) rfl
      · have d1 : decide ((40 : Int) < ((ps.length : Nat) : Int)) = false := decide_eq_false (by omega)
        go_wp2_with fail
        go_loopw [4] (fun jv wz => ∃ m : Nat, m ≤ ps.length ∧ jv = .int .i64 m ∧ Hid (∀ q ∈ ps.take m, q.a.size ≤ 100) ∧ wz = w) (fun jv _ => ps.length - (intOf jv).toNat)
        case atStart => exact ⟨0, by omega, rfl, fun q hq => by simp at hq, rfl⟩
        case round =>
          obtain ⟨m, hm, rfl, HB, hwz⟩ := hrel
          have hwz' := hwz.symm
          subst hwz'
          clear hwz
          by_cases hmt : m < ps.length
          · obtain ⟨g2, o2, rfl, z0, z1⟩ := pt_cells HP.out m hmt
            have hzm : (m : Int) < ps.length := by omega
            have HT2 : Hid (ps[m].a.size ≤ 100 → ∀ q ∈ ps.take (m + 1), q.a.size ≤ 100) := fun h q hq => by
              rw [List.take_succ_eq_append_getElem hmt] at hq
              rcases List.mem_append.1 hq with h1 | h1
              · exact HB.out q h1
              · simp at h1; subst h1; exact h
            generalize ps[m] = r at *
            obtain ⟨s, n⟩ := r
            dsimp only at z0 z1 HT2
            by_cases h100 : 100 < s.size
            · have d2 : decide ((100 : Int) < ((s.size : Nat) : Int)) = true := decide_eq_true (by omega)
              clear HT2 HB HT HA
              go_wp2_with fail
              go_ret
              exact GreatEnd.mk true rfl (fun h => by cases h) rfl
            · have d2 : decide ((100 : Int) < ((s.size : Nat) : Int)) = false := decide_eq_false (by omega)
              have HT3 := Lib.hid (HT2.out (by omega))
              clear HT2 HB
              go_wp2_with fail
              go_roundw
              case rel => exact ⟨m + 1, by omega, by go_num, HT3.out, by trivial⟩
              case measure => simp [intOf]; omega
          · have hme : m = ps.length := by omega
            have dm : decide ((m : Int) < ((ps.length : Nat) : Int)) = false := decide_eq_false (by omega)
            have HT3 := Lib.hid (HT.out ⟨by dsimp only; omega, fun q hq => HB.out q (by rw [hme, List.take_length]; exact hq)⟩)
            clear HB HT HA hme
            go_wp2_with fail
            go_roundw
            case rel => exact ⟨k + 1, by omega, by omega, by go_num, HT3.out, by trivial⟩
            case measure => simp [intOf]; omega
    · have d1 : decide ((k : Int) < 61) = false := decide_eq_false (by omega)
      have hk6 : ¬ k < 61 := by omega
      have hk62 : ¬ (k : Int) < 61 := by omega
      clear h61
      have d2 : decide ((60 : Int) < ((L.length : Nat) : Int)) = true := decide_eq_true (by omega)
      have hz : (k : Int) < L.length := by omega
      clear HA
      go_wp2_with fail
      go_ret
      exact GreatEnd.mk true rfl (fun h => by cases h) rfl
    · have HQ : Hid (∀ a ∈ L, a.small) := fun a ha => HA.out a (by rw [hke, List.take_length]; exact ha)
      have d1 : decide ((k : Int) < ((L.length : Nat) : Int)) = false := decide_eq_false (by omega)
      have hkl : ¬ k < L.length := by omega
      clear HA
      by_cases h60 : 60 < L.length
      · have d2 : decide ((60 : Int) < ((L.length : Nat) : Int)) = true := decide_eq_true (by omega)
        go_wp2_with fail
        go_ret
        exact GreatEnd.mk true rfl (fun h => by cases h) rfl
      · have d2 : decide ((60 : Int) < ((L.length : Nat) : Int)) = false := decide_eq_false (by omega)
        go_wp2_with fail
        go_ret
        exact GreatEnd.mk false rfl (fun _ => ⟨by omega, HQ.out⟩) rfl
end Go.Proofs.YtecbnhmnhcpcmaaGreatDoor
