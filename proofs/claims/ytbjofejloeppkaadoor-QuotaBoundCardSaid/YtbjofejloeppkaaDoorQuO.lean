/- The walk of law 22's QuotaBound, what is admitted. -/
import Derived.Test.YtbjofejloeppkaaDoorQuL
namespace Go.Proofs.YtbjofejloeppkaaDoor
open Go.RowKit Go.Shelf Acct
set_option linter.unusedVariables false
set_option linter.unusedSimpArgs false
def wdF : List UInt8 := [102, 114, 101, 101]
def wdO : List UInt8 := [111, 118, 101, 114]
def wdP : List UInt8 := [112, 97, 99, 107]
set_option maxHeartbeats 4000000 in
set_option maxRecDepth 10000000 in
theorem bound_yes (t sh da mo pl dl du dh ro us he fr ou ov pk n : Int) (a : Option Addr) (c : Nat) (ns : List Int) (w : World) (hP : Pow w) (hl : ns.length ≤ 8) (ht : 0 ≤ t ∧ t < 4294967296) (hn : inInt n) (hI : ∀ i, i < ns.length → ∃ b o, a = some ⟨b, o, none⟩ ∧ w.cell? ⟨b, o + i, none⟩ = some (.int .u32 (ns.getD i 0))) (hu : ∀ u ∈ ns, 0 ≤ u ∧ u ≤ 4294967295) (ho : Hv.any ⟨dl, du, dh, ro, us, he, fr, ou, ov, pk⟩ = false) (k0 : -1099511627776 ≤ da) (k1 : da ≤ 1099511627776) (k2 : -1099511627776 ≤ mo) (k3 : mo ≤ 1099511627776) (hz : admitI ⟨dl, du, dh, ro, us, he, fr, ou, ov, (usum (lsOf ns ns.length))⟩ n = 0) : Calls Tryd.prog 5 #[.int .u32 t, .agg #[.int .i64 sh, .int .i64 da, .int .i64 mo, .int .u32 pl], .agg #[.int .i64 dl, .int .i64 du, .int .i64 dh, .int .i64 ro, .int .i64 us, .int .i64 he, .int .i64 fr, .int .i64 ou, .int .i64 ov, .int .i64 pk], .slice a ns.length c, .int .i64 n] w fun e w' => e = .returned (.bool true) ∧ Below w.heap.size w w' := by
  have G0 := bound_boxes w sh da mo pl ⟨dl, du, dh, ro, us, he, fr, ou, ov, pk⟩
  unfold Hv.cells at G0
  simp only at G0
  have Ho := Lib.hid ho
  have Hz := Lib.hid hz
  have HI := Lib.hid hI
  have HU := Lib.hid hu
  have HN := Lib.hid hn
  have HP := Lib.hid hP
  have OK := Hv.any_no ho
  unfold Hv.ok nar at OK
  simp only at OK
  obtain ⟨q0, q1, q2, q3, q4, q5, q6, q7, q8, q9⟩ := OK
  have HM := Lib.hid (fun x => @lsOf_mem ns x hu hl)
  clear ho hz hI hu hP hn
  have d0 : decide ((8 : Int) < (ns.length : Int)) = false := decide_eq_false (by omega)
  have d1 : decide (da < -1099511627776) = false := decide_eq_false (by omega)
  have d2 : decide (1099511627776 < da) = false := decide_eq_false (by omega)
  have d3 : decide (mo < -1099511627776) = false := decide_eq_false (by omega)
  have d4 : decide (1099511627776 < mo) = false := decide_eq_false (by omega)
  go_enter Tryd.func5, Tryd.ntmps5
  go_wp2_with fail
  generalize (w.alloc (.cells #[.int .i64 sh, .int .i64 da, .int .i64 mo, .int .u32 pl] 31)).alloc (.cells #[.int .i64 dl, .int .i64 du, .int .i64 dh, .int .i64 ro, .int .i64 us, .int .i64 he, .int .i64 fr, .int .i64 ou, .int .i64 ov, .int .i64 pk] 23) = V at *
  obtain ⟨g1, g2, g3, g4⟩ := G0
  have P0 := Lib.hid g1
  have A0 := Lib.hid g2
  have D0 := Lib.hid g3
  have Z0 := Lib.hid g4
  have z0 : w.heap.size + 1 < V.heap.size := by omega
  clear g1 g2 g3 g4
  refine (open_any ⟨dl, du, dh, ro, us, he, fr, ou, ov, pk⟩ _).mono ?_
  rintro e w1 ⟨rfl, hb⟩
  rw [Ho.out]
  have P1 := Lib.hid (P0.out.below hb)
  have A1 := Lib.hid (A0.out.below hb)
  have E1 := Lib.hid hb
  clear hb
  obtain ⟨p0, p1, p2, p3, p4⟩ := PlaceAt.all P1.out
  go_wp2_with fail
  clear p1 p2 p3 p4 P1 A1
  obtain ⟨i0, hi, hz0, hz1, hz2⟩ := info_parts infoLeft
  go_loopw [11, 12] (fun s i wr => ∃ (k : Nat) (v : Value), k ≤ ns.length ∧ i = .int .i64 k ∧ v = s ∧ wr.ownsRow V.heap.size 37 3 v k ((lsOf ns k).flatMap leftC) ∧ Below V.heap.size V wr) (fun _ i _ => ns.length - (intOf i).toNat)
  case atStart => exact ⟨0, _, by omega, rfl, rfl, World.ownsRow_nil _ _ _ _, E1.out⟩
  case round =>
    obtain ⟨k, v, hk, rfl, rfl, hown, hbr⟩ := hrel
    have BR := Lib.hid hbr
    have HO := Lib.hid hown
    clear hown hbr
    by_cases hlt : k < ns.length
    · obtain ⟨b, o, rfl, h1⟩ := HI.out k hlt
      replace h1 := stays (onward BR.out D0.out) h1
      have hx := HU.out _ (List.getElem_mem hlt)
      have HS := Lib.hid (lsOf_snoc ns k)
      rw [getD_at _ _ _ hlt] at h1 HS
      generalize ns[k] = u at *
      go_wp2_with (at_builtin; refine wpList_append_own _ rfl _ _ 33 rfl V.heap.size 37 i0 _ 3 24 Tryd.underlying33 hi hz0 hz1 hz2 rfl (by decide) _ _ _ rfl (HO.out.alloc _) ⟨wr.heap.size, 0, none⟩ 1 1 [.int .u32 (k + 1), .int .i64 0, .int .i64 u] rfl rfl (new_cells _ _ _) (one3 _ _ _) (by unfold maxLen; omega) (by omega) (by have := BR.out.size; simp; omega) ?_)
      intro v' w3 hown3 hgrow3 _
      have B3 := Lib.hid (owned_below (HO.out.alloc _) (BR.out.alloc BR.out.size _) hgrow3)
      have O3 : Hid (w3.ownsRow V.heap.size 37 3 v' (k + 1) ((lsOf ns (k + 1)).flatMap leftC)) := by
        unfold Hid
        rw [HS.out, List.flatMap_append]
        exact hown3
      clear hown3 hgrow3 HO BR h1
      go_wp2
      go_roundw
      case rel => exact ⟨k + 1, _, by omega, by go_num, rfl, O3.out, B3.out⟩
      case measure => simp [intOf]; omega
    · obtain rfl : k = ns.length := by omega
      have HO' : Hid (wr.ownsRow V.heap.size 37 3 v (lsOf ns ns.length).length ((lsOf ns ns.length).flatMap leftC)) := by
        unfold Hid
        rw [lsOf_len]
        exact HO.out
      clear HO
      have TB := usum_bd (lsOf ns ns.length) fun x hx => (HM.out x hx).2
      rw [lsOf_len] at TB
      go_wp2_with fail
      refine (total_any v (lsOf ns ns.length) _ (LeftsAt.of_own HO'.out rfl) (fun x hx => (HM.out x hx).2) (by rw [lsOf_len]; omega)).mono ?_
      rintro e w2 ⟨rfl, hb⟩
      have P2 := Lib.hid ((P0.out.below BR.out).below hb)
      have A2 := Lib.hid ((A0.out.below BR.out).below hb)
      have D2 := Lib.hid (onward hb (onward BR.out D0.out))
      have O2 := Lib.hid (ownsRow_below HO'.out hb)
      clear hb HO' P0 A0 E1
      obtain ⟨tot, htot⟩ : ∃ z, usum (lsOf ns ns.length) = z := ⟨_, rfl⟩
      rw [htot] at Hz TB ⊢
      have HTOT := Lib.hid htot
      clear htot
      obtain ⟨c0, c1, c2, c3, c4, c5, c6, c7, c8, c9, c10⟩ := HvAt.all A2.out
      have f9 := HvAt.free A2.out 9
      go_wp2_with fail
      clear c1 c2 c3 c4 c5 c6 c7 c8 c9 c10 f9
      have A3 := Lib.hid (A2.out.set9 tot)
      simp only at A3
      have P3 := Lib.hid (P2.out.set (b2 := w.heap.size + 1) (j := 9) (u := .int .i64 tot) (by omega))
      have D3 := Lib.hid (D2.out.setCell (show w.heap.size ≤ (⟨w.heap.size + 1, 9, none⟩ : Addr).block from Nat.le_succ _) (.int .i64 tot))
      have O3 := Lib.hid (ownsRow_setCell_other (a := ⟨w.heap.size + 1, 9, none⟩) O2.out (fun e => by have h1 := (O2.out.lt _ e).1; have h2 : w.heap.size + 1 < V.heap.size := z0; exact absurd h1 (by show ¬ V.heap.size ≤ w.heap.size + 1; omega)) (.int .i64 tot))
      clear A2 P2 D2 O2
      generalize w2.setCell ⟨w.heap.size + 1, 9, none⟩ (.int .i64 tot) = w3 at *
      have OKT : Hid (Hv.ok ⟨dl, du, dh, ro, us, he, fr, ou, ov, tot⟩) := by
        unfold Hid Hv.ok nar
        simp only
        omega
      refine (admit_any ⟨dl, du, dh, ro, us, he, fr, ou, ov, tot⟩ n _ OKT.out HN.out).mono ?_
      rintro e w4 ⟨rfl, hb⟩
      rw [Hz.out]
      have A4 := Lib.hid (A3.out.below hb)
      have P4 := Lib.hid (P3.out.below hb)
      have D4 := Lib.hid (onward hb D3.out)
      have O4 := Lib.hid (ownsRow_below O3.out hb)
      clear hb A3 P3 D3 O3
      have nb := admit_bd Hz.out
      obtain ⟨c0, c1, c2, c3, c4, c5, c6, c7, c8, c9, c10⟩ := HvAt.all A4.out
      obtain ⟨p0, p1, p2, p3, p4⟩ := PlaceAt.all P4.out
      go_wp2_with fail
      clear c1 c2 c3 c4 c5 c6 c7 c8 c9 c10 p1 p2 p3 p4
      refine (split_any t n v (lsOf ns ns.length) sh da mo pl dl du dh ro us he fr ou ov tot _ (pow_below HP.out D4.out) (LeftsAt.of_own O4.out rfl) ht (fun x hx => by have := (HM.out x hx).1; omega) (by rw [lsOf_len]; omega) (by omega) (by omega) (by omega) (by unfold inInt; omega) (by unfold inInt; omega)).mono ?_
      rintro e w5 ⟨rv, rfl, hb, hown⟩
      have SS := split_sums t n (lsOf ns ns.length) da mo ro fr ht (fun x hx => by have := HM.out x hx; omega) nb.1 ⟨k2, k3⟩ ⟨k0, k1⟩
      have SA := split_amts t n (lsOf ns ns.length) da mo ro fr (fun x hx => by have := HM.out x hx; omega) nb.1
      have SL := split_len t n (lsOf ns ns.length) da mo ro fr
      have SN := split_names t n (lsOf ns ns.length) da mo ro fr
      rw [lsOf_len] at SL
      have htot2 : ((lsOf ns ns.length).map (·.2.2)).sum = tot := HTOT.out
      rw [htot2] at SS
      generalize splitL t n (lsOf ns ns.length) da mo ro fr = L at *
      have HQ := PartsAt.of_own hown
      have A5 := Lib.hid (A4.out.below hb)
      have D5 := Lib.hid (onward hb D4.out)
      clear hb hown A4 P4 D4 O4 htot2 HTOT
      obtain ⟨S0, S1, S2, S3⟩ := SS
      obtain ⟨F', hF⟩ : ∃ z, min n (max 0 (ro - fr)) = z := ⟨_, rfl⟩
      rw [hF] at S1 S2 S3
      obtain ⟨O', hO⟩ : ∃ z, max 0 (n - F' - tot) = z := ⟨_, rfl⟩
      rw [hO] at S2 S3
      obtain ⟨D', hD⟩ : ∃ z, n - F' - O' = z := ⟨_, rfl⟩
      rw [hD] at S3
      have BF := bound_facts OKT.out Hz.out hF.symm hO.symm hD.symm
      have HS0 := Lib.hid S0
      have HS1 := Lib.hid S1
      have HS2 := Lib.hid S2
      have HS3 := Lib.hid S3
      have HBF := Lib.hid BF
      have HB0 : Hid (∀ k, -(n * 13) ≤ asum (L.take k) ∧ asum (L.take k) ≤ n * 13) := fun k => by
        have h1 := asum_bd (B := n) (by omega) (L.take k) fun p hp => SA p (List.mem_of_mem_take hp)
        have h2 : (L.take k).length ≤ 13 := by rw [List.length_take]; omega
        have h3 : n * ((L.take k).length : Int) ≤ n * 13 := Int.mul_le_mul_of_nonneg_left (by omega) (by omega)
        omega
      have HB1 : Hid (∀ wd k, -(n * 13) ≤ wsum wd (L.take k) ∧ wsum wd (L.take k) ≤ n * 13) := fun wd k => by
        have h1 := wsum_bd (B := n) (by omega) wd (L.take k) fun p hp => SA p (List.mem_of_mem_take hp)
        have h2 : (L.take k).length ≤ 13 := by rw [List.length_take]; omega
        have h3 : n * ((L.take k).length : Int) ≤ n * 13 := Int.mul_le_mul_of_nonneg_left (by omega) (by omega)
        omega
      have HA := Lib.hid SA
      have HNm := Lib.hid SN
      clear S0 S1 S2 S3 hF hO hD BF SA SN
      obtain ⟨a2, c2, rfl, hq⟩ := HQ
      have HQ := Lib.hid hq
      clear hq
      go_wp2_with fail
      go_loopw [13, 14, 15, 17, 18] (fun f d o sm i wr => ∃ k : Nat, k ≤ L.length ∧ i = .int .i64 k ∧ f = .int .i64 (wsum wdF (L.take k)) ∧ d = .int .i64 (wsum wdP (L.take k)) ∧ o = .int .i64 (wsum wdO (L.take k)) ∧ sm = .int .i64 (asum (L.take k)) ∧ wr = w5) (fun _ _ _ _ i _ => L.length - (intOf i).toNat)
      case atStart => exact ⟨0, by omega, rfl, by simp [wsum], by simp [wsum], by simp [wsum], by simp [asum], rfl⟩
      case round =>
        obtain ⟨k, hk, rfl, rfl, rfl, rfl, rfl, rfl⟩ := hrel
        have b0 := HB0.out k
        have b1 := HB1.out wdF k
        have b2 := HB1.out wdP k
        have b3 := HB1.out wdO k
        by_cases hlt : k < L.length
        · obtain ⟨b, o, rfl, x1, x2⟩ := HQ.out k hlt
          rw [getD_at _ _ _ hlt] at x1 x2
          have hA := HA.out _ (List.getElem_mem hlt)
          have hS := HNm.out _ (List.getElem_mem hlt)
          have T0 : Hid (asum (L.take (k + 1)) = asum (L.take k) + L[k].2) := by
            unfold Hid
            rw [List.take_succ_eq_append_getElem hlt, asum_snoc]
          have T1 : Hid (∀ wd, wsum wd (L.take (k + 1)) = wsum wd (L.take k) + (if wordOf L[k].1 = wd then -L[k].2 else 0)) := fun wd => by
            rw [List.take_succ_eq_append_getElem hlt, wsum_snoc]
          generalize L[k] = p at *
          obtain ⟨s, am⟩ := p
          simp only at x1 x2 hA hS T0 T1
          generalize asum (L.take k) = s0 at *
          have T2 := Lib.hid (T1.out wdF)
          have T3 := Lib.hid (T1.out wdP)
          have T4 := Lib.hid (T1.out wdO)
          clear T1 HQ HB0 HB1 HA HNm
          generalize wsum wdF (L.take k) = s1 at *
          generalize wsum wdP (L.take k) = s2 at *
          generalize wsum wdO (L.take k) = s3 at *
          have hcase : wordOf s = wdF ∨ wordOf s = wdO ∨ wordOf s = wdP ∨ (wordOf s ≠ wdF ∧ wordOf s ≠ wdO ∧ wordOf s ≠ wdP) := by
            by_cases e1 : wordOf s = wdF
            · exact .inl e1
            by_cases e2 : wordOf s = wdO
            · exact .inr (.inl e2)
            by_cases e3 : wordOf s = wdP
            · exact .inr (.inr (.inl e3))
            exact .inr (.inr (.inr ⟨e1, e2, e3⟩))
          rcases hcase with hw | hw | hw | ⟨g1, g2, g3⟩
          · have HW : Hid (wordOf s = [102, 114, 101, 101]) := hw
            rw [hw] at T2 T3 T4
            rw [if_pos (by decide)] at T2; rw [if_neg (by decide)] at T3; rw [if_neg (by decide)] at T4
            clear hw
            go_wp2_with (go_at_call 11; refine (word_any _ _ (by omega)).mono ?_; rintro e w' ⟨rfl, rfl⟩; rw [HW.out])
            go_roundw
            case rel => exact ⟨k + 1, by omega, by go_num, congrArg (Value.int .i64) (by rw [T2.out]; try omega), congrArg (Value.int .i64) (by rw [T3.out]; try omega), congrArg (Value.int .i64) (by rw [T4.out]; try omega), congrArg (Value.int .i64) (by rw [T0.out]), by first | trivial | rfl⟩
            case measure => simp [intOf]; omega
          · have HW : Hid (wordOf s = [111, 118, 101, 114]) := hw
            rw [hw] at T2 T3 T4
            rw [if_neg (by decide)] at T2; rw [if_neg (by decide)] at T3; rw [if_pos (by decide)] at T4
            clear hw
            go_wp2_with (go_at_call 11; refine (word_any _ _ (by omega)).mono ?_; rintro e w' ⟨rfl, rfl⟩; rw [HW.out])
            go_roundw
            case rel => exact ⟨k + 1, by omega, by go_num, congrArg (Value.int .i64) (by rw [T2.out]; try omega), congrArg (Value.int .i64) (by rw [T3.out]; try omega), congrArg (Value.int .i64) (by rw [T4.out]; try omega), congrArg (Value.int .i64) (by rw [T0.out]), by first | trivial | rfl⟩
            case measure => simp [intOf]; omega
          · have HW : Hid (wordOf s = [112, 97, 99, 107]) := hw
            rw [hw] at T2 T3 T4
            rw [if_neg (by decide)] at T2; rw [if_pos (by decide)] at T3; rw [if_neg (by decide)] at T4
            clear hw
            go_wp2_with (go_at_call 11; refine (word_any _ _ (by omega)).mono ?_; rintro e w' ⟨rfl, rfl⟩; rw [HW.out])
            go_roundw
            case rel => exact ⟨k + 1, by omega, by go_num, congrArg (Value.int .i64) (by rw [T2.out]; try omega), congrArg (Value.int .i64) (by rw [T3.out]; try omega), congrArg (Value.int .i64) (by rw [T4.out]; try omega), congrArg (Value.int .i64) (by rw [T0.out]), by first | trivial | rfl⟩
            case measure => simp [intOf]; omega
          · rw [if_neg g1, Int.add_zero] at T2
            rw [if_neg g3, Int.add_zero] at T3
            rw [if_neg g2, Int.add_zero] at T4
            have l1 := beq_eq_false_iff_ne.2 g1
            have l2 := beq_eq_false_iff_ne.2 g2
            have l3 := beq_eq_false_iff_ne.2 g3
            unfold wdF at l1
            unfold wdO at l2
            unfold wdP at l3
            clear g1 g2 g3
            go_wp2_with (go_at_call 11; refine (word_any _ _ (by omega)).mono ?_; rintro e w' ⟨rfl, rfl⟩)
            go_roundw
            case rel => exact ⟨k + 1, by omega, by go_num, congrArg (Value.int .i64) (by rw [T2.out]; try omega), congrArg (Value.int .i64) (by rw [T3.out]; try omega), congrArg (Value.int .i64) (by rw [T4.out]; try omega), congrArg (Value.int .i64) (by rw [T0.out]), by first | trivial | rfl⟩
            case measure => simp [intOf]; omega
        · obtain rfl : k = L.length := by omega
          rw [List.take_length, show wsum wdF L = F' from HS1.out, show wsum wdP L = D' from HS3.out, show wsum wdO L = O' from HS2.out, HS0.out]
          clear b0 b1 b2 b3 HQ HB0 HB1 HA HNm HS0 HS1 HS2 HS3
          obtain ⟨f1, f2, f3, f4, f5, f6, f7, f8, f9, f10, f11, f12⟩ := HBF.out
          have hsum : (F' + D' + O' != n) = false := by rw [f7]; simp
          have hdl : (dl = 0 ∧ (dl == 0) = true) ∨ ((dl == 0) = false ∧ du + dh + n ≤ dl) := by
            by_cases e : dl = 0
            · exact .inl ⟨e, by simpa using e⟩
            · exact .inr ⟨by simpa using e, by omega⟩
          have hdo : (0 < O' ∧ (O' == 0) = false ∧ (D' != tot) = false ∧ ou + O' ≤ ov) ∨ (¬ 0 < O' ∧ (O' == 0) = true) := by
            by_cases e : 0 < O'
            · have e2 : D' = tot := f9 e
              have e3 : ¬ O' = 0 := by omega
              exact .inl ⟨e, by simpa using e3, by simpa using e2, by omega⟩
            · have e3 : O' = 0 := by omega
              exact .inr ⟨e, by simpa using e3⟩
          have hdd : (0 < D' ∧ ro ≤ fr + F') ∨ ¬ 0 < D' := by omega
          clear f7 f8 f9 f11 f12 HBF
          obtain ⟨c0, c1, c2, c3, c4, c5, c6, c7, c8, c9, c10⟩ := HvAt.all A5.out
          rcases hdl with ⟨_, g1⟩ | ⟨g1, g2⟩ <;> rcases hdo with ⟨g3, g4, g5, g6⟩ | ⟨g3, g4⟩ <;> rcases hdd with ⟨g7, g8⟩ | g7
          all_goals
            go_wp2_with fail
            refine (qgoes_any _ (pow_below HP.out D5.out)).mono ?_
            rintro e w9 ⟨rfl, hb⟩
            have D9 := Lib.hid (onward hb D5.out)
            clear hb
            go_wp2
            go_ret
            exact ⟨rfl, D9.out⟩
theorem bound_any (t sh da mo pl dl du dh ro us he fr ou ov pk n : Int) (v : Value) (ns : List Int) (w : World) (hP : Pow w) (hN : NumsAt .u32 w v ns) (hu : ∀ u ∈ ns, 0 ≤ u ∧ u ≤ 4294967295) (ht : 0 ≤ t ∧ t < 4294967296) (hn : inInt n) : Calls Tryd.prog 5 #[.int .u32 t, .agg #[.int .i64 sh, .int .i64 da, .int .i64 mo, .int .u32 pl], .agg #[.int .i64 dl, .int .i64 du, .int .i64 dh, .int .i64 ro, .int .i64 us, .int .i64 he, .int .i64 fr, .int .i64 ou, .int .i64 ov, .int .i64 pk], v, .int .i64 n] w fun e w' => e = .returned (.bool true) ∧ Below w.heap.size w w' := by
  obtain ⟨a, c, rfl, hI⟩ := hN
  by_cases hl : 8 < ns.length
  · exact bound_long _ _ _ _ _ _ _ _ _ _ _ _ _ _ _ _ _ _ _ w hP hl
  replace hl : ns.length ≤ 8 := by omega
  cases ho : Hv.any ⟨dl, du, dh, ro, us, he, fr, ou, ov, pk⟩
  case true => exact bound_open _ _ _ _ _ _ _ _ _ _ _ _ _ _ _ _ _ _ _ w hP hl ho
  by_cases kk0 : da < -1099511627776
  · exact bound_far0 _ _ _ _ _ _ _ _ _ _ _ _ _ _ _ _ _ _ _ w hP hl ho  kk0
  have k0 : -1099511627776 ≤ da := by omega
  by_cases kk1 : 1099511627776 < da
  · exact bound_far1 _ _ _ _ _ _ _ _ _ _ _ _ _ _ _ _ _ _ _ w hP hl ho k0 kk1
  have k1 : da ≤ 1099511627776 := by omega
  by_cases kk2 : mo < -1099511627776
  · exact bound_far2 _ _ _ _ _ _ _ _ _ _ _ _ _ _ _ _ _ _ _ w hP hl ho k0 k1 kk2
  have k2 : -1099511627776 ≤ mo := by omega
  by_cases kk3 : 1099511627776 < mo
  · exact bound_far3 _ _ _ _ _ _ _ _ _ _ _ _ _ _ _ _ _ _ _ w hP hl ho k0 k1 k2 kk3
  have k3 : mo ≤ 1099511627776 := by omega
  by_cases hz : admitI ⟨dl, du, dh, ro, us, he, fr, ou, ov, (usum (lsOf ns ns.length))⟩ n = 0
  · exact bound_yes _ _ _ _ _ _ _ _ _ _ _ _ _ _ _ _ _ _ _ w hP hl ht hn hI hu ho k0 k1 k2 k3 hz
  · exact bound_no _ _ _ _ _ _ _ _ _ _ _ _ _ _ _ _ _ _ _ w hP hl ht hn hI hu ho k0 k1 k2 k3 _ rfl (by rw [bne_iff_ne]; exact hz)
end Go.Proofs.YtbjofejloeppkaaDoor
