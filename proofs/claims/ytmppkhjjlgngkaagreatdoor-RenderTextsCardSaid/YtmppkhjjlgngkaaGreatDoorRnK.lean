/- The walks of the law's one and of the reference's SameInvoice. -/
import Derived.Test.YtmppkhjjlgngkaaGreatDoorRnJ
import Derived.Test.YtmppkhjjlgngkaaGreatDoorRnZ
namespace Go.Proofs.YtmppkhjjlgngkaaGreatDoor
open Go.RowKit Civ Ren Go.Shelf
set_option linter.unusedVariables false
set_option linter.unusedSimpArgs false
theorem kept_sixp (w : World) (p : Nat) (u0 u1 u2 u3 u4 u5 : Value) : Kept (fun k => k = p) w ((((((w.setCell ⟨p, 0, none⟩ u0).setCell ⟨p, 1, none⟩ u1).setCell ⟨p, 2, none⟩ u2).setCell ⟨p, 3, none⟩ u3).setCell ⟨p, 4, none⟩ u4).setCell ⟨p, 5, none⟩ u5) := kept_six (fun k => k = p) w p (Eq.refl p) u0 u1 u2 u3 u4 u5
def oneV : Ren.Inv := ⟨1, 2, 23640, [⟨1, 3, 31, 0, 310⟩], 310, 0⟩
set_option maxHeartbeats 8000000 in
set_option maxRecDepth 1000000 in
theorem sameI_any (a b : Ren.Inv) (la lb : Value) (w : World) (ha : RowsIn w la 5 (a.ls.map Ren.Ln.cells)) (hb : RowsIn w lb 5 (b.ls.map Ren.Ln.cells)) :
    Calls Tryz.prog 15 #[a.val la, b.val lb] w fun e w' => ∃ t : Bool, e = .returned (.bool t) ∧ (t = true ↔ a = b) ∧ Below w.heap.size w w' := by
  obtain ⟨no, te, mo, ls, tot, cr⟩ := a
  obtain ⟨no2, te2, mo2, ls2, tot2, cr2⟩ := b
  simp only [Ren.Inv.val]
  obtain ⟨aa, ac, rfl, h1, h2⟩ := rows_form ha
  obtain ⟨ba, bc, rfl, h3, h4⟩ := rows_form hb
  simp only [List.length_map] at ha hb h1 h3 ⊢
  have HA := Lib.hid ha
  have HB := Lib.hid hb
  unfold maxLen at h2 h4
  obtain ⟨b2, k1, k2, -⟩ := two_blocks w #[.int .u32 no, .int .u32 te, .int .i64 mo, .slice aa ls.length ac, .int .i64 tot, .int .i64 cr] #[.int .u32 no2, .int .u32 te2, .int .i64 mo2, .slice ba ls2.length bc, .int .i64 tot2, .int .i64 cr2] 25 25
  obtain ⟨-, c0, c1, c2, c3, c4, c5⟩ := cells6 k1
  obtain ⟨-, d0, d1, d2, d3, d4, d5⟩ := cells6 k2
  have BB := Lib.hid b2
  clear ha hb b2 k1 k2
  by_cases e0 : no = no2
  case neg =>
    have hn : ¬ (⟨no, te, mo, ls, tot, cr⟩ : Ren.Inv) = ⟨no2, te2, mo2, ls2, tot2, cr2⟩ := fun h => by injection h with q0 q1 q2 q3 q4 q5; exact e0 (by assumption)
    have hq : (no == no2) = false := by simpa using e0
    go_enter Tryz.func15, Tryz.ntmps15
    go_wp2_with fail
    go_ret
    exact ⟨false, rfl, ⟨(fun h => by cases h), fun h => absurd h hn⟩, BB.out⟩
  subst e0
  by_cases e1 : te = te2
  case neg =>
    have hn : ¬ (⟨no, te, mo, ls, tot, cr⟩ : Ren.Inv) = ⟨no, te2, mo2, ls2, tot2, cr2⟩ := fun h => by injection h with q0 q1 q2 q3 q4 q5; exact e1 (by assumption)
    have hq : (te == te2) = false := by simpa using e1
    go_enter Tryz.func15, Tryz.ntmps15
    go_wp2_with fail
    go_ret
    exact ⟨false, rfl, ⟨(fun h => by cases h), fun h => absurd h hn⟩, BB.out⟩
  subst e1
  by_cases e2 : mo = mo2
  case neg =>
    have hn : ¬ (⟨no, te, mo, ls, tot, cr⟩ : Ren.Inv) = ⟨no, te, mo2, ls2, tot2, cr2⟩ := fun h => by injection h with q0 q1 q2 q3 q4 q5; exact e2 (by assumption)
    have hq : (mo == mo2) = false := by simpa using e2
    go_enter Tryz.func15, Tryz.ntmps15
    go_wp2_with fail
    go_ret
    exact ⟨false, rfl, ⟨(fun h => by cases h), fun h => absurd h hn⟩, BB.out⟩
  subst e2
  by_cases e3 : tot = tot2
  case neg =>
    have hn : ¬ (⟨no, te, mo, ls, tot, cr⟩ : Ren.Inv) = ⟨no, te, mo, ls2, tot2, cr2⟩ := fun h => by injection h with q0 q1 q2 q3 q4 q5; exact e3 (by assumption)
    have hq : (tot == tot2) = false := by simpa using e3
    go_enter Tryz.func15, Tryz.ntmps15
    go_wp2_with fail
    go_ret
    exact ⟨false, rfl, ⟨(fun h => by cases h), fun h => absurd h hn⟩, BB.out⟩
  subst e3
  by_cases e4 : cr = cr2
  case neg =>
    have hn : ¬ (⟨no, te, mo, ls, tot, cr⟩ : Ren.Inv) = ⟨no, te, mo, ls2, tot, cr2⟩ := fun h => by injection h with q0 q1 q2 q3 q4 q5; exact e4 (by assumption)
    have hq : (cr == cr2) = false := by simpa using e4
    go_enter Tryz.func15, Tryz.ntmps15
    go_wp2_with fail
    go_ret
    exact ⟨false, rfl, ⟨(fun h => by cases h), fun h => absurd h hn⟩, BB.out⟩
  subst e4
  by_cases e9 : (ls.length : Int) = ls2.length
  case neg =>
    have hn : ¬ (⟨no, te, mo, ls, tot, cr⟩ : Ren.Inv) = ⟨no, te, mo, ls2, tot, cr⟩ := fun h => by
      injection h with q0 q1 q2 q3 q4 q5
      exact e9 (by rw [q3])
    have hq : ((ls.length : Int) == ls2.length) = false := by simpa using e9
    go_enter Tryz.func15, Tryz.ntmps15
    go_wp2_with fail
    go_ret
    exact ⟨false, rfl, ⟨(fun h => by cases h), fun h => absurd h hn⟩, BB.out⟩
  go_enter Tryz.func15, Tryz.ntmps15
  have hq : ((ls.length : Int) == ls2.length) = true := by simpa using e9
  go_wp2_with fail
  generalize (w.alloc (.cells #[.int .u32 no, .int .u32 te, .int .i64 mo, .slice aa ls.length ac, .int .i64 tot, .int .i64 cr] 25)).alloc (.cells #[.int .u32 no, .int .u32 te, .int .i64 mo, .slice ba ls2.length bc, .int .i64 tot, .int .i64 cr] 25) = W0 at *
  have hl : ls.length = ls2.length := by omega
  have C3 := Lib.hid c3
  have D3 := Lib.hid d3
  clear c0 c1 c2 c3 c4 c5 d0 d1 d2 d3 d4 d5 hq
  go_loopw [5] (fun i wr => ∃ k : Nat, k ≤ ls.length ∧ i = .int .i64 k ∧ Hid (ls.take k = ls2.take k) ∧ Hid (Below W0.heap.size W0 wr)) (fun i _ => ls.length - (intOf i).toNat)
  case atStart => exact ⟨0, by omega, rfl, rfl, Below.refl _ _⟩
  case round =>
    obtain ⟨k, hk, rfl, HT, BR⟩ := hrel
    have x3 := stays BR.out C3.out
    have y3 := stays BR.out D3.out
    by_cases hlt : k < ls.length
    · obtain ⟨q, o, rfl, p0, p1, p2, p3, p4⟩ := ln_cells (HA.out.below (onward BR.out BB.out)) k hlt
      obtain ⟨q', o', rfl, r0, r1, r2, r3, r4⟩ := ln_cells (HB.out.below (onward BR.out BB.out)) k (by omega)
      have hz : (k : Int) < ls.length := by omega
      have hz2 : (k : Int) < ls2.length := by omega
      have h1T : Hid (ls.take (k + 1) = ls.take k ++ [ls[k]]) := List.take_succ_eq_append_getElem hlt
      have h2T : Hid (ls2.take (k + 1) = ls2.take k ++ [ls2[k]]) := List.take_succ_eq_append_getElem (by omega)
      by_cases heq : ls[k] = ls2[k]
      · have HT2 : Hid (ls.take (k + 1) = ls2.take (k + 1)) := by
          show _ = _
          rw [h1T.out, h2T.out, HT.out, heq]
        rw [← heq] at r0 r1 r2 r3 r4
        generalize ls[k] = l at *
        clear h1T h2T heq HT
        go_upto_region 6 with fail
        go_quiet (fail)
        go_wp2_with fail
        go_roundw
        case rel => exact ⟨k + 1, by omega, by go_num, HT2, World.below_drewN BR.out _⟩
        case measure => simp [intOf]; omega
      · have hn : ¬ (⟨no, te, mo, ls, tot, cr⟩ : Ren.Inv) = ⟨no, te, mo, ls2, tot, cr⟩ := fun h => by
          injection h with q0 q1 q2 q3 q4 q5
          subst q3
          exact heq rfl
        have HN := Lib.hid hn
        have hne := neq_line _ _ heq
        generalize ls[k] = l at *
        generalize ls2[k] = l2 at *
        clear h1T h2T HT hn heq
        go_upto_region 6 with fail
        go_quiet (fail)
        go_wp2_with fail
        go_ret
        exact ⟨false, rfl, ⟨(fun h => by cases h), fun h => absurd h HN.out⟩, World.below_drewN (onward BR.out BB.out) _⟩
    · obtain rfl : k = ls.length := by omega
      have he : ls = ls2 := by
        have := HT.out
        rw [List.take_length, hl, List.take_length] at this
        exact this
      clear hlt
      go_wp2_with fail
      go_ret
      exact ⟨true, rfl, ⟨fun _ => by rw [he], fun _ => rfl⟩, onward BR.out BB.out⟩
end Go.Proofs.YtmppkhjjlgngkaaGreatDoor
