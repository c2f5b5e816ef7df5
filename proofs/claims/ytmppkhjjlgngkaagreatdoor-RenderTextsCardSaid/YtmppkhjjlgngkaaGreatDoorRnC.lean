/- The walks of render's line, may and small. -/
import Derived.Test.YtmppkhjjlgngkaaGreatDoorCivB
import Derived.Test.YtmppkhjjlgngkaaGreatDoorNeA
import Derived.Test.YtmppkhjjlgngkaaGreatDoorRds
import Derived.Test.YtmppkhjjlgngkaaGreatDoorRnB
namespace Go.Proofs.YtmppkhjjlgngkaaGreatDoor
open Go.RowKit Civ Ren
set_option linter.unusedVariables false
set_option linter.unusedSimpArgs false
def Ren.Ln.cells (l : Ren.Ln) : List Value := [.int .u8 l.k, .int .u32 l.p, .int .i64 l.d, .int .i64 l.u, .int .i64 l.a]
def Ren.Ln.val (l : Ren.Ln) : Value := .agg #[.int .u8 l.k, .int .u32 l.p, .int .i64 l.d, .int .i64 l.u, .int .i64 l.a]
def Ren.Inv.val (v : Ren.Inv) (lv : Value) : Value := .agg #[.int .u32 v.no, .int .u32 v.te, .int .i64 v.mo, lv, .int .i64 v.tot, .int .i64 v.cr]
theorem cells5 {w : World} {b : Nat} {T : Nat} {x0 x1 x2 x3 x4 : Value} (h : w.heap[b]? = some (.cells #[x0, x1, x2, x3, x4] T (0, 0))) : b < w.heap.size ∧ w.cell? ⟨b, 0, none⟩ = some x0 ∧ w.cell? ⟨b, 1, none⟩ = some x1 ∧ w.cell? ⟨b, 2, none⟩ = some x2 ∧ w.cell? ⟨b, 3, none⟩ = some x3 ∧ w.cell? ⟨b, 4, none⟩ = some x4 := by
  refine ⟨lt_of_block h, ?_, ?_, ?_, ?_, ?_⟩ <;> simp [World.cell?, h]
theorem cells6 {w : World} {b : Nat} {T : Nat} {x0 x1 x2 x3 x4 x5 : Value} (h : w.heap[b]? = some (.cells #[x0, x1, x2, x3, x4, x5] T (0, 0))) : b < w.heap.size ∧ w.cell? ⟨b, 0, none⟩ = some x0 ∧ w.cell? ⟨b, 1, none⟩ = some x1 ∧ w.cell? ⟨b, 2, none⟩ = some x2 ∧ w.cell? ⟨b, 3, none⟩ = some x3 ∧ w.cell? ⟨b, 4, none⟩ = some x4 ∧ w.cell? ⟨b, 5, none⟩ = some x5 := by
  refine ⟨lt_of_block h, ?_, ?_, ?_, ?_, ?_, ?_⟩ <;> simp [World.cell?, h]
theorem ln_cells {w : World} {a : Option Addr} {n c : Nat} {L : List Ren.Ln} (h : RowsIn w (.slice a n c) 5 (L.map Ren.Ln.cells)) (i : Nat) (hi : i < L.length) : ∃ b o, a = some ⟨b, o, none⟩ ∧ w.cell? ⟨b, o + i * 5, none⟩ = some (.int .u8 L[i].k) ∧ w.cell? ⟨b, o + i * 5 + 1, none⟩ = some (.int .u32 L[i].p) ∧ w.cell? ⟨b, o + i * 5 + 2, none⟩ = some (.int .i64 L[i].d) ∧ w.cell? ⟨b, o + i * 5 + 3, none⟩ = some (.int .i64 L[i].u) ∧ w.cell? ⟨b, o + i * 5 + 4, none⟩ = some (.int .i64 L[i].a) := by
  obtain ⟨b, o, h1, h2⟩ := rows_cell h i (by simpa using hi)
  have e : ((L.map Ren.Ln.cells).getD i []) = L[i].cells := by simp [List.getD, hi]
  rw [e] at h2
  exact ⟨b, o, h1, h2 0 (by omega), by rw [Nat.add_assoc]; exact h2 1 (by omega), by rw [Nat.add_assoc]; exact h2 2 (by omega), by rw [Nat.add_assoc]; exact h2 3 (by omega), by rw [Nat.add_assoc]; exact h2 4 (by omega)⟩
set_option maxHeartbeats 4000000 in
theorem line_any (k p d u a : Int) (w : World) : Calls Tryz.prog 20 #[.agg #[.int .u8 k, .int .u32 p, .int .i64 d, .int .i64 u, .int .i64 a]] w fun e w' => e = .returned (.bool (lnB ⟨k, p, d, u, a⟩)) ∧ Below w.heap.size w w' := by
  by_cases h3 : 0 ≤ d ∧ 0 ≤ u ∧ 0 ≤ a
  case neg =>
    have hv : lnB ⟨k, p, d, u, a⟩ = false := by unfold lnB; simp; omega
    rw [hv]
    have hx : d < 0 ∨ (0 ≤ d ∧ u < 0) ∨ (0 ≤ d ∧ 0 ≤ u ∧ a < 0) := by omega
    clear h3 hv
    have hk : k = 1 ∨ k = 2 ∨ k = 3 ∨ (¬ k = 1 ∧ ¬ k = 2 ∧ ¬ k = 3) := by omega
    rcases hx with hx | ⟨hx, hy⟩ | ⟨hx, hy, hz⟩ <;> rcases hk with rfl | rfl | rfl | ⟨k1, k2, k3⟩ <;>
    · go_enter Tryz.func20, Tryz.ntmps20
      go_wp2_with fail
      go_ret
      exact ⟨rfl, below_alloc _ _⟩
  obtain ⟨hd, hu, ha⟩ := h3
  by_cases k1 : k = 1
  · subst k1
    by_cases hu0 : u = 0
    · have hv : lnB ⟨1, p, d, u, a⟩ = true := by unfold lnB; simp; omega
      rw [hv]
      go_enter Tryz.func20, Tryz.ntmps20
      go_wp2_with fail
      go_ret
      exact ⟨rfl, below_alloc _ _⟩
    · have hv : lnB ⟨1, p, d, u, a⟩ = false := by unfold lnB; simp; omega
      rw [hv]
      have h0 : (u == 0) = false := by simpa using hu0
      go_enter Tryz.func20, Tryz.ntmps20
      go_wp2_with fail
      go_ret
      exact ⟨rfl, below_alloc _ _⟩
  by_cases k2 : k = 2
  · subst k2
    by_cases hall : p = 0 ∧ a = 0 ∧ d = 0
    · obtain ⟨rfl, rfl, rfl⟩ := hall
      have hv : lnB ⟨2, 0, 0, u, 0⟩ = true := by unfold lnB; simp; omega
      rw [hv]
      go_enter Tryz.func20, Tryz.ntmps20
      go_wp2_with fail
      go_ret
      exact ⟨rfl, below_alloc _ _⟩
    · have hv : lnB ⟨2, p, d, u, a⟩ = false := by unfold lnB; simp; omega
      rw [hv]
      have hx : (p == 0) = false ∨ (p = 0 ∧ (a == 0) = false) ∨ (p = 0 ∧ a = 0 ∧ (d == 0) = false) := by simp; omega
      clear hall hv k1
      rcases hx with hx | ⟨rfl, hy⟩ | ⟨rfl, rfl, hz⟩ <;>
      · go_enter Tryz.func20, Tryz.ntmps20
        go_wp2_with fail
        go_ret
        exact ⟨rfl, below_alloc _ _⟩
  by_cases k3 : k = 3
  · subst k3
    by_cases hd0 : d = 0
    · have hv : lnB ⟨3, p, d, u, a⟩ = true := by unfold lnB; simp; omega
      rw [hv]
      go_enter Tryz.func20, Tryz.ntmps20
      go_wp2_with fail
      go_ret
      exact ⟨rfl, below_alloc _ _⟩
    · have hv : lnB ⟨3, p, d, u, a⟩ = false := by unfold lnB; simp; omega
      rw [hv]
      have h0 : (d == 0) = false := by simpa using hd0
      go_enter Tryz.func20, Tryz.ntmps20
      go_wp2_with fail
      go_ret
      exact ⟨rfl, below_alloc _ _⟩
  · have hv : lnB ⟨k, p, d, u, a⟩ = false := by unfold lnB; simp; omega
    rw [hv]
    go_enter Tryz.func20, Tryz.ntmps20
    go_wp2_with fail
    go_ret
    exact ⟨rfl, below_alloc _ _⟩
set_option maxHeartbeats 4000000 in
theorem may_any (v : Ren.Inv) (lv : Value) (w : World) (hL : Lens w) (hl : RowsIn w lv 5 (v.ls.map Ren.Ln.cells)) : Calls Tryz.prog 8 #[v.val lv] w fun e w' => e = .returned (.bool (mayB v)) ∧ Below w.heap.size w w' := by
  obtain ⟨no, te, mo, ls, tot, cr⟩ := v
  simp only [Ren.Inv.val]
  obtain ⟨a, c, rfl, h1, h2⟩ := rows_form hl
  simp only [List.length_map] at hl h1 ⊢
  have HL := Lib.hid hl
  have HT := Lib.hid hL
  clear hl hL
  unfold maxLen at h2
  go_enter Tryz.func8, Tryz.ntmps8
  have b0 := below_alloc w (.cells #[.int .u32 no, .int .u32 te, .int .i64 mo, .slice a ls.length c, .int .i64 tot, .int .i64 cr] 25)
  have C0 := cells6 (heap_alloc_new w (.cells #[.int .u32 no, .int .u32 te, .int .i64 mo, .slice a ls.length c, .int .i64 tot, .int .i64 cr] 25))
  have C0 := Lib.hid C0
  have B0 := Lib.hid b0
  clear b0
  go_wp2_with fail
  generalize w.alloc (.cells #[.int .u32 no, .int .u32 te, .int .i64 mo, .slice a ls.length c, .int .i64 tot, .int .i64 cr] 25) = W0 at *
  go_loopw [8] (fun i wr => ∃ k : Nat, k ≤ ls.length ∧ i = .int .i64 k ∧ Hid ((ls.take k).all lnB = true) ∧ Hid (Below W0.heap.size W0 wr)) (fun i _ => ls.length - (intOf i).toNat)
  case atStart => exact ⟨0, by omega, rfl, rfl, Below.refl _ _⟩
  case round =>
    obtain ⟨k, hk, rfl, HA, BR⟩ := hrel
    by_cases hlt : k < ls.length
    · obtain ⟨q, o, rfl, e0, e1, e2, e3, e4⟩ := ln_cells (HL.out.below (onward BR.out B0.out)) k hlt
      have hz : (k : Int) < ls.length := by omega
      have HS : Hid ((ls.take (k + 1)).all lnB = ((ls.take k).all lnB && lnB ls[k])) := by
        show _ = _
        rw [List.take_succ_eq_append_getElem hlt, List.all_append]
        simp
      go_wp2_with fail
      refine (line_any ls[k].k ls[k].p ls[k].d ls[k].u ls[k].a _).mono ?_
      rintro e w2 ⟨rfl, hb⟩
      have B2 := Lib.hid (onward (onward hb (below_alloc wr _)) BR.out)
      clear hb
      cases hB : lnB ls[k]
      · have hm : mayB ⟨no, te, mo, ls, tot, cr⟩ = false := by
          unfold mayB
          have : ls.all lnB = false := by
            rw [List.all_eq_false]
            exact ⟨ls[k], List.getElem_mem hlt, by rw [hB]; decide⟩
          simp only [this, Bool.false_and]
        have HM := Lib.hid hm
        clear hm HS
        go_wp2_with fail
        go_ret
        exact ⟨by rw [HM.out]; first | done | rfl, onward B2.out B0.out⟩
      · have HA2 : Hid ((ls.take (k + 1)).all lnB = true) := by
          show _ = _
          rw [HS.out, HA.out, hB]
          rfl
        clear HS HA
        go_wp2_with fail
        go_roundw
        case rel => exact ⟨k + 1, by omega, by go_num, HA2, B2⟩
        case measure => simp [intOf]; omega
    · obtain rfl : k = ls.length := by omega
      have hall := HA.out
      rw [List.take_length] at hall
      clear hlt HA
      have hm : mayB ⟨no, te, mo, ls, tot, cr⟩ = decide (0 < no ∧ 0 < te ∧ 12 ≤ mo ∧ mo < 120000 ∧ ls.length ≤ 28 ∧ 0 ≤ tot ∧ 0 ≤ cr) := by unfold mayB; simp only [hall, Bool.true_and]
      clear hall
      obtain ⟨-, x0, x1, x2, x3, x4, x5⟩ := C0.out
      have x0 := stays BR.out x0
      have x1 := stays BR.out x1
      have x2 := stays BR.out x2
      have x3 := stays BR.out x3
      have x4 := stays BR.out x4
      have x5 := stays BR.out x5
      by_cases c1 : 0 < no
      case neg =>
        have HV : Hid (mayB ⟨no, te, mo, ls, tot, cr⟩ = false) := by
          show _ = _
          rw [hm]
          simp
          omega
        clear hm
        go_wp2_with fail
        go_ret
        exact ⟨by rw [HV.out]; first | done | rfl, onward BR.out B0.out⟩
      by_cases c2 : 0 < te
      case neg =>
        have HV : Hid (mayB ⟨no, te, mo, ls, tot, cr⟩ = false) := by
          show _ = _
          rw [hm]
          simp
          omega
        clear hm
        go_wp2_with fail
        go_ret
        exact ⟨by rw [HV.out]; first | done | rfl, onward BR.out B0.out⟩
      by_cases c3 : 12 ≤ mo ∧ mo < 120000
      case neg =>
        have hn : lenM mo = 0 := lenM_no (by omega)
        have HV : Hid (mayB ⟨no, te, mo, ls, tot, cr⟩ = false) := by
          show _ = _
          rw [hm]
          simp
          omega
        clear hm
        have HT2 := HT.out.below (onward BR.out B0.out)
        go_wp2_with fail
        refine (length_any mo _ HT2).mono ?_
        rintro e w2 ⟨rfl, rfl⟩
        clear HT2
        go_wp2_with fail
        go_ret
        exact ⟨by rw [HV.out]; first | done | rfl, onward BR.out B0.out⟩
      have hn : 0 < lenM mo := by have := lenM_bd mo c3.1 c3.2; omega
      by_cases c4 : (ls.length : Int) ≤ 28
      case neg =>
        have HV : Hid (mayB ⟨no, te, mo, ls, tot, cr⟩ = false) := by
          show _ = _
          rw [hm]
          simp
          omega
        clear hm
        have HT2 := HT.out.below (onward BR.out B0.out)
        go_wp2_with fail
        refine (length_any mo _ HT2).mono ?_
        rintro e w2 ⟨rfl, rfl⟩
        clear HT2
        go_wp2_with fail
        go_ret
        exact ⟨by rw [HV.out]; first | done | rfl, onward BR.out B0.out⟩
      by_cases c5 : 0 ≤ tot
      case neg =>
        have HV : Hid (mayB ⟨no, te, mo, ls, tot, cr⟩ = false) := by
          show _ = _
          rw [hm]
          simp
          omega
        clear hm
        have HT2 := HT.out.below (onward BR.out B0.out)
        go_wp2_with fail
        refine (length_any mo _ HT2).mono ?_
        rintro e w2 ⟨rfl, rfl⟩
        clear HT2
        go_wp2_with fail
        go_ret
        exact ⟨by rw [HV.out]; first | done | rfl, onward BR.out B0.out⟩
      by_cases c6 : 0 ≤ cr
      case neg =>
        have hd6 : decide (0 ≤ cr) = false := by simp; omega
        have HV : Hid (mayB ⟨no, te, mo, ls, tot, cr⟩ = false) := by
          show _ = _
          rw [hm]
          simp
          omega
        clear hm
        have HT2 := HT.out.below (onward BR.out B0.out)
        go_wp2_with fail
        refine (length_any mo _ HT2).mono ?_
        rintro e w2 ⟨rfl, rfl⟩
        clear HT2
        go_wp2_with fail
        go_ret
        exact ⟨by rw [HV.out]; first | done | rfl, onward BR.out B0.out⟩
      have HV : Hid (mayB ⟨no, te, mo, ls, tot, cr⟩ = true) := by
        show _ = _
        rw [hm]
        simp
        omega
      clear hm
      have HT2 := HT.out.below (onward BR.out B0.out)
      go_wp2_with fail
      refine (length_any mo _ HT2).mono ?_
      rintro e w2 ⟨rfl, rfl⟩
      clear HT2
      go_wp2_with fail
      go_ret
      exact ⟨by rw [HV.out]; first | done | rfl, onward BR.out B0.out⟩
end Go.Proofs.YtmppkhjjlgngkaaGreatDoor
