/- The walk of the law NetOnce. -/
import Derived.Test.YtgkefciojoffgaaNfE
import Derived.Deep.DeepCutAuto
import Derived.Deep.CutBlock
namespace Go.Proofs.Ytgkefciojoffgaa
open Go.RowKit Go.WideMaps Go.Maps
set_option linter.unusedVariables false
set_option linter.unusedSimpArgs false
attribute [local go_sem ↓] Go.wp_at_zero Go.wp_at_succ
theorem name_s (B : Nat) (x : Sy) (bv : Value) (w : World) (hB : BytesAt B w bv x.2.2) (hf : i64 x.1) (ht : i64 x.2.1) (hl : x.2.2.length ≤ 4096) :
    Calls Try.prog 23 #[.agg #[.int .i64 x.1, .int .i64 x.2.1, bv]] w fun e w' => e = .returned (.string ⟨(nmOf x).toArray⟩) ∧ Below w.heap.size w w' := name_any B x.1 x.2.1 bv x.2.2 w hB hf ht (by omega)
theorem nm_len (x : Sy) (hl : x.2.2.length ≤ 4096) : (nmOf x).length ≤ 1000000 := by
  unfold nmOf
  simp
  omega
theorem NetS.goods {B pn : Nat} {X : List Nat} {w : World} {G : Int} {R : List Sy} {c1 c2 c3 : Bool} (h : NetS B pn X w G R c1 c2 c3) : ∀ x ∈ R, good G x := by
  obtain ⟨v, L, h1, h2, h3, h4, h5, h6, h7, h8⟩ := h
  exact h6
theorem CntI.room {R : List Sy} {F : List UInt8 → Int} {k : Nat} (h : CntI R F k) (s : List UInt8) : 0 ≤ F s ∧ F s ≤ k := by
  obtain ⟨h1, h2⟩ := h s
  omega
theorem at_in {R : List Sy} {j : Int} (hj : inR j R) : ∃ hl : j.toNat < R.length, at? R j = R[j.toNat] := by
  unfold inR at hj
  have hlt : j.toNat < R.length := by omega
  refine ⟨hlt, ?_⟩
  rw [← at_nat R j.toNat hlt]
  congr 1
  omega
theorem wrap_one (n : Int) (h : i64 n) : IntKind.i64.wrap n = n := by
  unfold i64 at h
  exact IntWalk.i64_in _ (by omega)
set_option maxHeartbeats 8000000 in
set_option maxRecDepth 10000000 in
theorem netOnce_any (v : Value) (A : List Ac) (w : World) (hA : RowsIn w v 5 (A.map Ac.cells)) (hok : ∀ a ∈ A, Ac.ok w a) :
    Calls Try.prog 6 #[v] w fun e w' => e = .returned (.bool true) ∧ Below w.heap.size w w' := by
  obtain ⟨a, c, rfl, h1, h2⟩ := rows_form hA
  simp only [List.length_map] at hA h1 ⊢
  have HA := Lib.hid hA
  have HO := Lib.hid hok
  clear hA hok
  have hmm := @run_makeMap Try.prog
  go_enter Try.func6, Try.ntmps6
  go_wp2_with fail
  refine (great_any w.heap.size _ A w HA.out (fun a ha => (HO.out a ha).2.2.2.1)).mono ?_
  rintro e w1 ⟨b, rfl, hb, rfl⟩
  cases b
  case true =>
    go_wp2_with fail
    go_ret
    exact ⟨rfl, Below.refl _ _⟩
  obtain ⟨hl1, hl2⟩ := hb rfl
  have HL2 := Lib.hid hl2
  clear hb hl2
  go_wp2_with fail
  refine (new_s w.heap.size 3 w (by decide) (by decide) (Nat.le_refl _) [] (fun k hk => by cases hk)).mono ?_
  rintro e w1 ⟨rfl, hS, hb1⟩
  have bm := below_alloc w1 (.map #[] 0)
  have T2 := Lib.hid (hS.more bm [w1.heap.size] (fun k hk => by simp at hk; subst hk; simp))
  have C2 := Lib.hid (CntM.made w1)
  have B2 := Lib.hid (onward bm hb1)
  have I2 := Lib.hid CntI.start
  have hmb := hb1.size
  clear bm hS hb1
  go_wp2_with fail
  generalize w1.heap.size = mb at *
  go_loopw [6] (fun i wr => ∃ (k : Nat) (R : List Sy) (c1 c2 c3 : Bool) (F : List UInt8 → Int), k ≤ A.length ∧ i = .int .i64 k ∧ Hid (NetS w.heap.size w.heap.size [mb] wr 3 R c1 c2 c3) ∧ Hid (CntM wr mb k F) ∧ Hid (CntI R F k) ∧ Hid (Below w.heap.size w wr)) (fun i _ => A.length - (intOf i).toNat)
  case atStart => exact ⟨0, [], false, false, false, _, by omega, rfl, T2, C2, I2, B2⟩
  case round =>
    clear T2 C2 I2 B2
    obtain ⟨k, R, c1, c2, c3, F, hk, rfl, TR, CR, IR, BR⟩ := hrel
    by_cases hlt : k < A.length
    · obtain ⟨q, o, rfl, hq, e0, e1, e2, e3, e4⟩ := ac_cells (ac_more HA.out rfl BR.out) k hlt
      obtain ⟨hd, hf, ht, hbA, hbl, hk64⟩ := HO.out A[k] (List.getElem_mem hlt)
      have hsm := HL2.out A[k] (List.getElem_mem hlt)
      obtain ⟨ba, bc, hform⟩ := hbA.form
      rw [hform] at e3
      have BA : Hid (BytesAt w.heap.size wr (.slice ba A[k].bs.length bc) A[k].bs) := by
        have h := hbA.step (.of_below BR.out)
        rw [hform] at h
        exact h
      have hz : (k : Int) < A.length := by omega
      clear hbA hform
      generalize A[k].d = ad at *
      generalize A[k].f = af at *
      generalize A[k].t = at' at *
      generalize A[k].k = ak at *
      generalize A[k].bs = abs at *
      have bz := below_alloc wr (.cells #[.int .u8 ad, .int .i64 af, .int .i64 at', .slice ba abs.length bc, .int .i64 ak] 45)
      have T1 := Lib.hid (TR.out.more bz [wr.heap.size] (fun k hk => by simp at hk; subst hk; simp))
      have G1 := Lib.hid (alloc_block wr #[.int .u8 ad, .int .i64 af, .int .i64 at', .slice ba abs.length bc, .int .i64 ak] 45 (0, 0))
      have C1 := Lib.hid (CR.out.below bz)
      have BA1 := Lib.hid (BA.out.below bz)
      have B1 := Lib.hid (onward bz BR.out)
      have hmw := CR.out.lt
      clear bz TR CR BA BR
      go_wp2_with fail
      refine (letters_s w.heap.size w.heap.size [wr.heap.size, mb] 3 R c1 c2 c3 _ T1.out).mono ?_
      rintro e w2 ⟨vl, rfl, hrow, hb2⟩
      have T2 := Lib.hid (T1.out.below hb2)
      have TM : Hid (∀ g, wr.heap.size + 1 ≤ g → g < w2.heap.size → NetS w.heap.size w.heap.size [g, wr.heap.size, mb] w2 3 R c1 c2 c3) := fun g hg1 hg2 => T1.out.more hb2 [g] (fun k hk => by simp at hk; subst hk; exact ⟨by rw [show (wr.alloc (.cells #[.int .u8 ad, .int .i64 af, .int .i64 at', .slice ba abs.length bc, .int .i64 ak] 45)).heap.size = wr.heap.size + 1 from Array.size_push _]; exact hg1, hg2⟩)
      have G2 := Lib.hid (stays_block hb2 G1.out)
      have C2 := Lib.hid (C1.out.below hb2)
      have BA2 := Lib.hid (BA1.out.below hb2)
      have B2 := Lib.hid (onward hb2 B1.out)
      have HR := Lib.hid hrow
      have hs2 := hb2.size
      rw [show (wr.alloc (.cells #[.int .u8 ad, .int .i64 af, .int .i64 at', .slice ba abs.length bc, .int .i64 ak] 45)).heap.size = wr.heap.size + 1 from Array.size_push _] at hs2
      clear T1 G1 C1 BA1 B1 hrow hb2 e0 e1 e2 e3 e4
      obtain ⟨-, q0, q1, q2, q3, q4⟩ := five_cells G2.out
      have hm : ad % 7 = 0 ∨ ad % 7 = 1 ∨ ad % 7 = 2 ∨ ad % 7 = 3 ∨ ad % 7 = 4 ∨ ad % 7 = 5 ∨ ad % 7 = 6 := by omega
      rcases hm with hm | hm | hm | hm | hm | hm | hm
      case inl =>
        go_wp2_with fail
        refine (send_s w.heap.size w.heap.size [wr.heap.size, mb] 3 R c1 c2 c3 af at' _ abs w2 T2.out BA2.out hf ht (by omega)).mono ?_
        rintro e w3 ⟨rfl, hS, hO⟩
        have C3 := Lib.hid (C2.out.same (hO.2.2.2 mb (by simp)))
        have G3 := Lib.hid ((hO.2.2.2 wr.heap.size (by simp)).trans G2.out)
        have BA3 := Lib.hid (BA2.out.step hO.2.1)
        have B3 := Lib.hid (B2.out.trans hO.1)
        clear q0 q1 q2 q3 q4 C2 G2 BA2 T2 B2 HR
        by_cases hj : sendJ 3 R (af, at', abs) = 0
        · have hR : sendR 3 R (af, at', abs) = R ++ [(af, at', abs)] := by unfold sendR; rw [if_pos hj]
          rw [hR] at hS
          have hlen : abs.length ≤ 4096 := (sendI_good (G := 3) (f := af) (t := at') (n := R.length) hj).2.1
          rw [hj]
          have S3 := Lib.hid hS
          clear hS hO hR hj
          obtain ⟨-, q0, q1, q2, q3, q4⟩ := five_cells G3.out
          go_wp2_with fail
          refine (name_s w.heap.size (af, at', abs) _ w3 BA3.out hf ht hlen).mono ?_
          rintro e w4 ⟨rfl, hb4⟩
          have S4 := Lib.hid (S3.out.below hb4)
          have C4 := Lib.hid (C3.out.below hb4)
          have B4 := Lib.hid (onward hb4 B3.out)
          have I4 := Lib.hid (IR.out.push (af, at', abs))
          have hnl := nm_len (af, at', abs) hlen
          generalize nmOf (af, at', abs) = nm at *
          have hrun := C4.out.look nm hnl
          have hroom := IR.out.room nm
          have hw : IntKind.i64.wrap (F nm + 1) = F nm + 1 := wrap_one _ (by unfold i64; omega)
          clear q0 q1 q2 q3 q4 S3 C3 B3 hb4 BA3 G3 IR
          go_wp2_with (at_mapUpdate; refine wpList_mapUpdate_cnt _ rfl _ _ _ rfl mb k F rfl C4.out (by omega) nm hnl (F nm + 1) rfl rfl (by unfold i64; omega) ?_)
          intro w5 hC5 hg5
          obtain ⟨hS5, hst5, hb5⟩ := S4.out.mapped hg5 (by simp) hmb C4.out.isMap
          have S5 := Lib.hid (hS5.drop (Y := [mb]) (by simp))
          have C5 := Lib.hid hC5
          have B5 := Lib.hid (B4.out.trans hb5)
          clear hS5 hst5 hb5 hC5 hg5 hrun
          go_wp2
          go_roundw
          case rel => exact ⟨k + 1, _, c1, c2, c3, _, by omega, by go_num, S5, C5, I4, B5⟩
          case measure => simp [intOf]; omega
        · have hR : sendR 3 R (af, at', abs) = R := by unfold sendR; rw [if_neg hj]
          rw [hR] at hS
          have S3 := Lib.hid (hS.drop (Y := [mb]) (by simp))
          have hj' : (sendJ 3 R (af, at', abs) == 0) = false := by simp [hj]
          clear hS hO hR hj
          go_wp2
          go_roundw
          case rel => exact ⟨k + 1, R, c1, c2, c3, F, by omega, by go_num, S3, C3.out.mono (by omega), IR.out.more, B3⟩
          case measure => simp [intOf]; omega
      case inr.inl =>
        go_wp2_with fail
        refine (take_s w.heap.size w.heap.size [wr.heap.size, mb] 3 R c1 c2 c3 ak w2 T2.out).mono ?_
        rintro e w3 ⟨x, rfl, ⟨bv3, rfl, hx⟩, hS, hO⟩
        obtain ⟨a3, c3', rfl⟩ := hx.form
        have C3 := Lib.hid (C2.out.same (hO.2.2.2 mb (by simp)))
        have B3 := Lib.hid (B2.out.trans hO.1)
        have X3 := Lib.hid hx
        have GD := Lib.hid T2.out.goods
        have hs3 := hO.2.2.1
        clear q0 q1 q2 q3 q4 C2 G2 BA2 T2 B2 HR hx hO
        by_cases hj : takeI R c1 c2 c3 ak = 0
        · have hin : inR ak R := by
            unfold takeI at hj
            split at hj
            · assumption
            · cases hj
          obtain ⟨hlj, hat⟩ := at_in hin
          have hR : takeR R c1 c2 c3 ak = R.eraseIdx ak.toNat := by unfold takeR; rw [if_pos hj]
          have hL : takeL R c1 c2 c3 ak = R[ak.toNat] := by unfold takeL; rw [if_pos hj, hat]
          rw [hL] at X3 ⊢
          rw [hR] at hS
          obtain ⟨hf1, hone⟩ := IR.out.take hlj
          have hgd := GD.out R[ak.toNat] (List.getElem_mem hlj)
          generalize R[ak.toNat] = x at *
          generalize R.eraseIdx ak.toNat = R' at *
          rw [hj]
          have bz := below_alloc w3 (.cells #[.int .i64 x.1, .int .i64 x.2.1, .slice a3 x.2.2.length c3'] 30)
          have S3 := Lib.hid (hS.more bz [w3.heap.size] (fun k hk => by simp at hk; subst hk; simp))
          have G3 := Lib.hid (alloc_block w3 #[.int .i64 x.1, .int .i64 x.2.1, .slice a3 x.2.2.length c3'] 30 (0, 0))
          have C3b := Lib.hid (C3.out.below bz)
          have X3b := Lib.hid (X3.out.below bz)
          have B3b := Lib.hid (onward bz B3.out)
          have I4 := Lib.hid hone
          have hmw3 := C3.out.lt
          clear hS hR hj bz C3 X3 B3 hin hat hL hone
          go_wp2_with fail
          refine (name_s w.heap.size x _ _ X3b.out hgd.1 hgd.2.1 hgd.2.2.2).mono ?_
          rintro e w4 ⟨rfl, hb4⟩
          have S4 := Lib.hid (S3.out.below hb4)
          have C4 := Lib.hid (C3b.out.below hb4)
          have B4 := Lib.hid (onward hb4 B3b.out)
          have X4 := Lib.hid (X3b.out.below hb4)
          have G4 := Lib.hid (stays_block hb4 G3.out)
          have hnl := nm_len x hgd.2.2.2
          have hnx : nmOf x = nmOf x := rfl
          have hroom := IR.out.room (nmOf x)
          have hrun := C4.out.look (nmOf x) hnl
          have NM : Hid (∀ (W : World), BytesAt w.heap.size W (.slice a3 x.2.2.length c3') x.2.2 → Calls Try.prog 23 #[.agg #[.int .i64 x.1, .int .i64 x.2.1, .slice a3 x.2.2.length c3']] W fun e w' => e = .returned (.string ⟨(nmOf x).toArray⟩) ∧ Below W.heap.size W w') := fun W h => name_s w.heap.size x _ W h hgd.1 hgd.2.1 hgd.2.2.2
          clear hnx
          generalize nmOf x = nm at *
          have hw : IntKind.i64.wrap (F nm - 1) = F nm - 1 := wrap_one _ (by unfold i64; omega)
          clear S3 C3b B3b hb4 G3 IR X3b
          go_wp2_with (at_mapUpdate; refine wpList_mapUpdate_cnt _ rfl _ _ _ rfl mb k F rfl C4.out (by omega) nm hnl (F nm - 1) rfl rfl (by unfold i64; omega) ?_)
          intro w5 hC5 hg5
          obtain ⟨hS5, hst5, hb5⟩ := S4.out.mapped hg5 (by simp) hmb C4.out.isMap
          have S5 := Lib.hid hS5
          have C5 := Lib.hid hC5
          have B5 := Lib.hid (B4.out.trans hb5)
          have X5 := Lib.hid (X4.out.step hst5)
          have G5 := Lib.hid ((hg5.block w3.heap.size (lt_of_block G4.out) (by intro e; injection e with e; omega)).trans G4.out)
          clear hS5 hst5 hb5 hC5 hg5 hrun S4 C4 B4 X4 G4
          obtain ⟨-, q0, q1, q2⟩ := three_cells G5.out
          go_wp2_with fail
          refine (NM.out w5 X5.out).mono ?_
          rintro e w6 ⟨rfl, hb6⟩
          have S6 := Lib.hid ((S5.out.below hb6).drop (Y := [mb]) (by simp))
          have C6 := Lib.hid (C5.out.below hb6)
          have B6 := Lib.hid (onward hb6 B5.out)
          have hrun := C6.out.look nm hnl
          have hup : upd F nm (F nm - 1) nm = F nm - 1 := by unfold upd; rw [if_pos rfl]
          rw [hup] at hrun
          have hnn : ¬ (F nm - 1 < 0) := by omega
          clear q0 q1 q2 S5 C5 B5 X5 G5 hb6 hup NM
          go_wp2
          go_roundw
          case rel => exact ⟨k + 1, R', c1, c2, c3, _, by omega, by go_num, S6, C6, I4, B6⟩
          case measure => simp [intOf]; omega
        · have hR : takeR R c1 c2 c3 ak = R := by unfold takeR; rw [if_neg hj]
          rw [hR] at hS
          have hj' : (takeI R c1 c2 c3 ak == 0) = false := by simp [hj]
          have bz := below_alloc w3 (.cells #[.int .i64 (takeL R c1 c2 c3 ak).1, .int .i64 (takeL R c1 c2 c3 ak).2.1, .slice a3 (takeL R c1 c2 c3 ak).2.2.length c3'] 30)
          have S3 := Lib.hid ((hS.below bz).drop (Y := [mb]) (by simp))
          have C3b := Lib.hid ((C3.out.below bz).mono (Nat.le_succ k))
          have B3b := Lib.hid (onward bz B3.out)
          clear hS hR hj bz C3 X3 B3
          go_wp2
          go_roundw
          case rel => exact ⟨k + 1, R, c1, c2, c3, F, by omega, by go_num, S3, C3b, IR.out.more, B3b⟩
          case measure => simp [intOf]; omega
      case inr.inr.inl =>
        go_wp2_with fail
        refine (drop_s w.heap.size w.heap.size [wr.heap.size, mb] 3 R c1 c2 c3 ak w2 T2.out).mono ?_
        rintro e w3 ⟨rfl, hS, hO⟩
        have C3 := Lib.hid ((C2.out.same (hO.2.2.2 mb (by simp))).mono (Nat.le_succ k))
        have B3 := Lib.hid (B2.out.trans hO.1)
        have S3 := Lib.hid (hS.drop (Y := [mb]) (by simp))
        clear q0 q1 q2 q3 q4 C2 G2 BA2 T2 B2 HR hS hO
        go_wp2
        go_roundw
        case rel => exact ⟨k + 1, _, c1, c2, c3, F, by omega, by go_num, S3, C3, IR.out.drop ak, B3⟩
        case measure => simp [intOf]; omega
      case inr.inr.inr.inl =>
        by_cases hin : inR ak R
        · obtain ⟨hlj, hat⟩ := at_in hin
          obtain ⟨ka, kb⟩ := hin
          obtain ⟨j, rfl⟩ := Int.eq_ofNat_of_zero_le ka
          rw [Int.toNat_natCast] at hlj
          have hat : at? R (j : Int) = R[j] := at_nat R j hlj
          obtain ⟨g, cap, bvg, rfl, hbg, hgw, hbb, hcs⟩ := HR.out.letter j hlj
          rw [show (wr.alloc (.cells #[.int .u8 ad, .int .i64 af, .int .i64 at', .slice ba abs.length bc, .int .i64 (j : Int)] 45)).heap.size = wr.heap.size + 1 from Array.size_push _] at hbg
          have hgd := T2.out.goods R[j] (List.getElem_mem hlj)
          obtain ⟨bga, bgc, rfl⟩ := hbb.form
          have XG := Lib.hid hbb
          have CS := Lib.hid hcs
          have hin : inR (j : Int) R := ⟨ka, kb⟩
          have hdI : doubleI 3 R (j : Int) = sendJ 3 R R[j] := by unfold doubleI; rw [if_pos hin, hat]
          have hdR : doubleR 3 R (j : Int) = sendR 3 R R[j] := by unfold doubleR; rw [if_pos hin, hat]
          have TG := Lib.hid (TM.out g hbg hgw)
          clear hin hat hbb hcs TM T2
          go_wp2_with fail
          refine (double_s w.heap.size w.heap.size [g, wr.heap.size, mb] 3 R c1 c2 c3 j w2 TG.out).mono ?_
          rintro e w3 ⟨rfl, hS, hO⟩
          rw [hdR] at hS
          rw [hdI]
          have C3 := Lib.hid (C2.out.same (hO.2.2.2 mb (by simp)))
          have G3 := Lib.hid ((hO.2.2.2 wr.heap.size (by simp)).trans G2.out)
          have XG3 := Lib.hid (XG.out.step hO.2.1)
          have B3 := Lib.hid (B2.out.trans hO.1)
          obtain ⟨r0, r1, r2⟩ := CS.out w3 (hO.2.2.2 g (by simp))
          clear q0 q1 q2 q3 q4 C2 G2 BA2 B2 HR hdI hdR TG XG CS hO
          by_cases hj : sendJ 3 R R[j] = 0
          · have hR : sendR 3 R R[j] = R ++ [R[j]] := by unfold sendR; rw [if_pos hj]
            rw [hR] at hS
            rw [hj]
            have S3 := Lib.hid hS
            clear hS hR hj
            generalize R[j] = x at *
            obtain ⟨-, q0, q1, q2, q3, q4⟩ := five_cells G3.out
            go_wp2_with fail
            refine (name_s w.heap.size x _ w3 XG3.out hgd.1 hgd.2.1 hgd.2.2.2).mono ?_
            rintro e w4 ⟨rfl, hb4⟩
            have S4 := Lib.hid (S3.out.below hb4)
            have C4 := Lib.hid (C3.out.below hb4)
            have B4 := Lib.hid (onward hb4 B3.out)
            have I4 := Lib.hid (IR.out.push x)
            have hnl := nm_len x hgd.2.2.2
            generalize nmOf x = nm at *
            have hrun := C4.out.look nm hnl
            have hroom := IR.out.room nm
            have hw : IntKind.i64.wrap (F nm + 1) = F nm + 1 := wrap_one _ (by unfold i64; omega)
            clear q0 q1 q2 q3 q4 S3 C3 B3 hb4 G3 IR r0 r1 r2 XG3
            go_wp2_with (at_mapUpdate; refine wpList_mapUpdate_cnt _ rfl _ _ _ rfl mb k F rfl C4.out (by omega) nm hnl (F nm + 1) rfl rfl (by unfold i64; omega) ?_)
            intro w5 hC5 hg5
            obtain ⟨hS5, hst5, hb5⟩ := S4.out.mapped hg5 (by simp) hmb C4.out.isMap
            have S5 := Lib.hid (hS5.drop (Y := [mb]) (by simp))
            have C5 := Lib.hid hC5
            have B5 := Lib.hid (B4.out.trans hb5)
            clear hS5 hst5 hb5 hC5 hg5 hrun
            go_wp2
            go_roundw
            case rel => exact ⟨k + 1, _, c1, c2, c3, _, by omega, by go_num, S5, C5, I4, B5⟩
            case measure => simp [intOf]; omega
          · have hR : sendR 3 R R[j] = R := by unfold sendR; rw [if_neg hj]
            rw [hR] at hS
            have S3 := Lib.hid (hS.drop (Y := [mb]) (by simp))
            have hj' : (sendJ 3 R R[j] == 0) = false := by simp [hj]
            clear hS hR hj r0 r1 r2 XG3
            go_wp2
            go_roundw
            case rel => exact ⟨k + 1, R, c1, c2, c3, F, by omega, by go_num, S3, C3.out.mono (by omega), IR.out.more, B3⟩
            case measure => simp [intOf]; omega
        · have hdI : doubleI 3 R ak = 1 := by unfold doubleI; rw [if_neg hin]
          have hdR : doubleR 3 R ak = R := by unfold doubleR; rw [if_neg hin]
          go_wp2_with fail
          refine (double_s w.heap.size w.heap.size [wr.heap.size, mb] 3 R c1 c2 c3 ak w2 T2.out).mono ?_
          rintro e w3 ⟨rfl, hS, hO⟩
          rw [hdR] at hS
          rw [hdI]
          have C3 := Lib.hid ((C2.out.same (hO.2.2.2 mb (by simp))).mono (Nat.le_succ k))
          have B3 := Lib.hid (B2.out.trans hO.1)
          have S3 := Lib.hid (hS.drop (Y := [mb]) (by simp))
          clear q0 q1 q2 q3 q4 C2 G2 BA2 T2 B2 HR hS hO hdI hdR hin
          go_wp2
          go_roundw
          case rel => exact ⟨k + 1, R, c1, c2, c3, F, by omega, by go_num, S3, C3, IR.out.more, B3⟩
          case measure => simp [intOf]; omega
      case inr.inr.inr.inr.inl =>
        go_wp2_with fail
        refine (hold_s w.heap.size w.heap.size [wr.heap.size, mb] 3 R c1 c2 c3 ak w2 T2.out).mono ?_
        rintro e w3 ⟨rfl, hS, hO⟩
        have C3 := Lib.hid ((C2.out.same (hO.2.2.2 mb (by simp))).mono (Nat.le_succ k))
        have B3 := Lib.hid (B2.out.trans hO.1)
        have S3 := Lib.hid (hS.drop (Y := [mb]) (by simp))
        clear q0 q1 q2 q3 q4 C2 G2 BA2 T2 B2 HR hS hO
        go_wp2
        go_roundw
        case rel => exact ⟨k + 1, _, c1, c2, c3, F, by omega, by go_num, S3, C3, IR.out.hold ak, B3⟩
        case measure => simp [intOf]; omega
      case inr.inr.inr.inr.inr.inl =>
        go_wp2_with fail
        refine (cut_s w.heap.size w.heap.size [wr.heap.size, mb] 3 R c1 c2 c3 af true w2 T2.out).mono ?_
        rintro e w3 ⟨rfl, hS, hO⟩
        have C3 := Lib.hid ((C2.out.same (hO.2.2.2 mb (by simp))).mono (Nat.le_succ k))
        have B3 := Lib.hid (B2.out.trans hO.1)
        have S3 := Lib.hid (hS.drop (Y := [mb]) (by simp))
        clear q0 q1 q2 q3 q4 C2 G2 BA2 T2 B2 HR hS hO
        go_wp2
        go_roundw
        case rel => exact ⟨k + 1, R, _, _, _, F, by omega, by go_num, S3, C3, IR.out.more, B3⟩
        case measure => simp [intOf]; omega
      case inr.inr.inr.inr.inr.inr =>
        go_wp2_with fail
        refine (cut_s w.heap.size w.heap.size [wr.heap.size, mb] 3 R c1 c2 c3 af false w2 T2.out).mono ?_
        rintro e w3 ⟨rfl, hS, hO⟩
        have C3 := Lib.hid ((C2.out.same (hO.2.2.2 mb (by simp))).mono (Nat.le_succ k))
        have B3 := Lib.hid (B2.out.trans hO.1)
        have S3 := Lib.hid (hS.drop (Y := [mb]) (by simp))
        clear q0 q1 q2 q3 q4 C2 G2 BA2 T2 B2 HR hS hO
        go_wp2
        go_roundw
        case rel => exact ⟨k + 1, R, _, _, _, F, by omega, by go_num, S3, C3, IR.out.more, B3⟩
        case measure => simp [intOf]; omega
    · obtain rfl : k = A.length := by omega
      clear hlt
      go_wp2_with fail
      refine (goes_any _).mono ?_
      rintro e w3 ⟨rfl, hb⟩
      have HB := Lib.hid (onward hb BR.out)
      clear hb
      go_wp2_with fail
      go_ret
      exact ⟨rfl, HB.out⟩
end Go.Proofs.Ytgkefciojoffgaa
