/- The walk of the net's Letters. -/
import Derived.Test.YtgkefciojoffgaaNeK
namespace Go.Proofs.Ytgkefciojoffgaa
open Go.RowKit
set_option linter.unusedVariables false
set_option linter.unusedSimpArgs false
attribute [local go_sem ↓] Go.wp_at_zero Go.wp_at_succ
/-- letters as they read, in a row of its own -/
def RowAt (B base : Nat) (w : World) (v : Value) (R : List (Int × Int × List UInt8)) : Prop :=
  ∃ L : List Lt, w.ownsRow base 30 3 v L.length (L.flatMap Lt.cells) ∧ LtsAt B w L ∧ L.map Lt.says = R ∧ ∀ l ∈ L, OwnB base w l.bv
/-- one letter more -/
theorem RowAt.grow {B base : Nat} {w w2 w3 : World} {v v' : Value} {R : List (Int × Int × List UInt8)} {f t : Int} {bv : Value} {bs : List UInt8} {L : List Lt} (hBb : B ≤ base) (hown : w.ownsRow base 30 3 v L.length (L.flatMap Lt.cells)) (hL : LtsAt B w L) (hR : L.map Lt.says = R) (hN : ∀ l ∈ L, OwnB base w l.bv) (hnb : OwnB base w2 bv) (hb : Below w.heap.size w w2) (h2 : BytesAt B w2 bv bs)
    (hg : w2.grownBy w3 v.ownBlock) (h3 : w3.ownsRow base 30 3 v' (L.length + 1) (L.flatMap Lt.cells ++ [.int .i64 f, .int .i64 t, bv])) : RowAt B base w3 v' (R ++ [(f, t, bs)]) := by
  have hs : Stp B w2 w3 := .of_kept (S := fun k => v.ownBlock = some k) (Kept.of_grown hg fun k hk => hk) fun k hk => by
    obtain ⟨h1, cs, h2⟩ := own_typed hown hk
    have hlt := lt_of_block h2
    exact ⟨by omega, cs, _, _, by rw [hb.block k hlt]; exact h2, by decide⟩
  refine ⟨L ++ [⟨f, t, bv, bs⟩], ?_, ?_, by simp [hR], fun l hl => ?_⟩
  · rw [List.flatMap_append, List.length_append]; exact h3
  · intro l hl
    rcases List.mem_append.1 hl with h | h
    · exact ((hL l h).below hb).step hs
    · simp at h; subst h; exact h2.step hs
  · rcases List.mem_append.1 hl with h | h
    · exact ((hN l h).step (B := B) (.of_below hb)).step hs
    · simp at h; subst h; exact hnb.step hs
set_option maxHeartbeats 1000000 in
theorem letters_nil (w : World) : Calls Try.prog 17 #[.pointer none] w fun e w' => e = .returned (.slice none 0 0) ∧ w = w' := by
  go_enter Try.func17, Try.ntmps17
  go_wp2_with fail
  go_ret
  exact ⟨rfl, rfl⟩
set_option maxHeartbeats 4000000 in
set_option maxRecDepth 1000000 in
theorem letters_any (B pn : Nat) (G : Int) (v : Value) (L : List Lt) (c0 c1 c2 c3 : Bool) (w : World) (hBp : B ≤ pn) (hN : NetV w pn G v L c0 c1 c2 c3) (hL : LtsAt B w L) (hll : L.length ≤ 4096) (hbl : ∀ l ∈ L, l.bs.length ≤ 4096) :
    Calls Try.prog 17 #[.pointer (some ⟨pn, 0, none⟩)] w fun e w' => ∃ v', e = .returned v' ∧ RowAt B w.heap.size w' v' (L.map Lt.says) ∧ Below w.heap.size w w' := by
  obtain ⟨z0, n0, n1, -⟩ := net_cells hN.1
  obtain ⟨a, c, rfl⟩ := net_form hN.2
  have HN := Lib.hid hN
  have HL := Lib.hid hL
  have HBL := Lib.hid hbl
  clear hN hL hbl
  obtain ⟨i0, hi, hz0, hz1, hz2⟩ := info_parts infoL
  go_enter Try.func17, Try.ntmps17
  go_wp2_with fail
  go_loopw [3, 13] (fun v i wr => ∃ k : Nat, k ≤ L.length ∧ i = .int .i64 k ∧ RowAt B w.heap.size wr v ((L.take k).map Lt.says) ∧ Below w.heap.size w wr) (fun _ i _ => L.length - (intOf i).toNat)
  case atStart => exact ⟨0, by omega, rfl, ⟨[], World.ownsRow_nil _ _ _ _, fun l hl => (by cases hl), rfl, fun l hl => (by cases hl)⟩, Below.refl _ _⟩
  case round =>
    obtain ⟨k, hk, rfl, hrow, hbr⟩ := hrel
    by_cases hlt : k < L.length
    · obtain ⟨g, cap, cur, hv, hg, h3, h4, h5, h6, h7⟩ := own_open HN.out.2 (by omega)
      injection hv with hv1 hv2 hv3
      subst hv1 hv3
      have h3' := stays_block hbr h3
      obtain ⟨r0, r1, r2⟩ := row_letter (n := 0) (cap := 0) h3' h7 k hlt
      obtain ⟨ab, cb, hform⟩ := (HL.out L[k] (List.getElem_mem hlt)).form
      rw [hform] at r2
      have hBk : Hid (BytesAt B wr L[k].bv L[k].bs) := ((HL.out L[k] (List.getElem_mem hlt)).below hbr)
      rw [hform] at hBk
      have hbk := HBL.out L[k] (List.getElem_mem hlt)
      have HBR := Lib.hid hbr
      have HROW := Lib.hid hrow
      have hk' : (k : Int) < L.length := by omega
      have hsz := hbr.size
      have HT : Hid ((L.take (k + 1)).map Lt.says = (L.take k).map Lt.says ++ [(L[k].f, L[k].t, L[k].bs)]) := by
        show _ = _
        rw [List.take_succ_eq_append_getElem hlt, List.map_append]
        rfl
      clear h3 h3' h6 h7 hbr hrow hform
      unfold maxLen at h5
      generalize L[k].f = lf at *
      generalize L[k].t = lt' at *
      generalize L[k].bs = bs at *
      go_wp2_with fail
      refine (whole_any B lf lt' _ bs _ (by simp; omega) (hBk.out.below (below_alloc _ _)) (by omega)).mono ?_
      rintro e w2 ⟨bv2, rfl, hb2, hbb, hnw⟩
      have B2 := Lib.hid (onward hbb (below_alloc wr _))
      have H2 := Lib.hid hb2
      have NW : Hid (OwnB w.heap.size w2 bv2) := hnw.le (by simp; omega)
      obtain ⟨L', hO, hL', hR, hNN⟩ := HROW.out
      have HNN := Lib.hid hNN
      have hlen : L'.length = k := by have := congrArg List.length hR; simpa using this.trans (by simp; omega)
      have HO2 := Lib.hid (ownsRow_below hO B2.out)
      have HO := Lib.hid hO
      have HL' := Lib.hid hL'
      have HR := Lib.hid hR
      obtain ⟨a3, c4, rfl⟩ := hb2.form
      clear hO hL' hR hbb hb2 hnw hNN r0 r1 r2
      go_wp2_with (at_builtin; refine wpList_append_own _ rfl _ _ 34 rfl w.heap.size 30 i0 _ 3 40 Try.underlying34 hi hz0 hz1 hz2 rfl (by decide) _ _ _ rfl (HO2.out.alloc _) ⟨w2.heap.size, 0, none⟩ 1 1 [.int .i64 lf, .int .i64 lt', .slice a3 bs.length c4] rfl rfl (new_cells _ _ _) (one_lt _ _ _ _ _) (by unfold maxLen; omega) (by omega) (by have := B2.out.size; simp; omega) ?_)
      intro v' w3 hown3 hgrow3 _
      have B3 := Lib.hid (owned_below ((HO2.out.alloc (.cells #[.int .i64 lf, .int .i64 lt', .slice a3 bs.length c4] 30))) (onward (below_alloc w2 _) (onward B2.out HBR.out)) hgrow3)
      have R3 := Lib.hid (RowAt.grow (by have := HBR.out.size; omega) HO.out HL'.out HR.out HNN.out (NW.out.step (B := B) (.of_below (below_alloc _ _))) (onward (below_alloc w2 (.cells #[.int .i64 lf, .int .i64 lt', .slice a3 bs.length c4] 30)) B2.out) (H2.out.below (below_alloc _ _)) hgrow3 (by rw [hlen]; exact hown3))
      clear hown3 hgrow3 HO2 HO HL' HR HROW
      go_wp2
      go_roundw
      case rel => exact ⟨k + 1, by omega, by go_num, by rw [HT.out]; exact R3.out, B3.out⟩
      case measure => simp [intOf]; omega
    · obtain rfl : k = L.length := by omega
      have HROW := Lib.hid hrow
      have HBR := Lib.hid hbr
      clear hrow hbr hlt
      go_wp2
      go_ret
      exact ⟨_, rfl, by have := HROW.out; rw [List.take_length] at this; exact this, HBR.out⟩
end Go.Proofs.Ytgkefciojoffgaa
