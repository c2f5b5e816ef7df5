/- The walk of the reference's number. -/
import Derived.Test.YtecbnhmnhcpcmaaGreatDoorPkJournalPlays15
/-! The walk of the reference's number. -/
namespace Go.Proofs.YtecbnhmnhcpcmaaGreatDoor
open Go.RowKit Go.Shelf Acct
set_option linter.unusedVariables false
set_option linter.unusedSimpArgs false
def NumEndR (s : ByteArray) (w : World) (e : Ending) (w' : World) : Prop := w = w' ∧ ∃ n b, NumR s.data.toList n b ∧ e = .returned (.tuple #[.int .i64 n, .bool b])
theorem head_is (s : ByteArray) (h0 : 0 < s.size) : s.data.toList = s[0] :: s.data.toList.drop 1 := by
  have h := size_list s
  rw [← List.drop_zero (l := s.data.toList), List.drop_eq_getElem_cons (by omega)]
  rfl
theorem w64_in {n : Int} (h : inInt n) : wrap64 n = n := IntWalk.wrap64_in n ⟨h.1, h.2⟩
theorem w64_bd (n : Int) : inInt (wrap64 n) := by unfold wrap64 inInt; omega
set_option maxHeartbeats 2000000 in
theorem number_neg (s : ByteArray) (w : World) (hs : s.size ≤ 100000) (h0 : 0 < s.size) (hc : s[0] = 45) : Calls Tryz.prog 40 #[.string s] w (NumEndR s w) := by
  have f0 : (((s[0]).toNat : Int) == 45) = true := by rw [hc]; rfl
  have hsl := size_list s
  have hhd := head_is s h0
  have HF : Hid (s.data.toList = 45 :: s.data.toList.drop 1) := by rw [hc] at hhd; exact hhd
  obtain ⟨D, hD⟩ : ∃ D, s.data.toList.drop 1 = D := ⟨_, rfl⟩
  have HL : D.length = s.size - 1 := by rw [← hD]; rw [List.length_drop]; omega
  rw [hD] at HF
  have HD := Lib.hid hD
  clear hc hhd hD hsl
  by_cases z0 : s.size - 1 = 0
  · have HN : Hid (∀ m, inInt m → s.data.toList ≠ Lib.itoa m) := by rw [HF.out]; exact no_num_neg (.inl (List.eq_nil_of_length_eq_zero (by omega)))
    clear HL
    go_enter Tryz.func40, Tryz.ntmps40
    go_wp2_with fail
    go_ret2
    exact ⟨rfl, 0, false, NumR.no HN.out, rfl⟩
  by_cases z1 : 19 < s.size - 1
  · have HN : Hid (∀ m, inInt m → s.data.toList ≠ Lib.itoa m) := by rw [HF.out]; exact no_num_neg (.inr (.inl (by omega)))
    have z2 : (((s.size - 1 : Nat) : Int) == 0) = false := by rw [beq_eq_false_iff_ne]; omega
    clear HL
    go_enter Tryz.func40, Tryz.ntmps40
    go_wp2_with fail
    go_ret2
    exact ⟨rfl, 0, false, NumR.no HN.out, rfl⟩
  have z2 : (((s.size - 1 : Nat) : Int) == 0) = false := by rw [beq_eq_false_iff_ne]; omega
  have HLL := Lib.hid HL
  clear HL
  go_enter Tryz.func40, Tryz.ntmps40
  go_wp2_with fail
  obtain ⟨d, hd⟩ : ∃ d, s.extract 1 s.size = d := ⟨_, rfl⟩
  rw [hd]
  have HDD : Hid (d.data.toList = D) := by rw [← hd, ext_end]; exact HD.out
  have hds : d.size ≤ 19 := by rw [← size_list d, HDD.out, HLL.out]; omega
  have HDS : Hid (d.size = D.length) := by rw [← size_list d, HDD.out]; rfl
  clear hd
  go_loop [6, 7] (fun v i => ∃ k : Nat, k ≤ d.size ∧ i = .int .i64 k ∧ v = .int .u64 (dvL (D.take k)) ∧ Hid (∀ c ∈ D.take k, dgt c)) (fun _ i => d.size - (intOf i).toNat)
  case atStart => exact ⟨0, by omega, rfl, rfl, fun c hc => by simp at hc⟩
  case round =>
    obtain ⟨k, hk, rfl, rfl, HG⟩ := hrel
    have hv : dvL (D.take k) < 10 ^ k := dv_lt k _ (by rw [List.length_take]; have := HDS.out; omega) HG.out
    have hv19 : dvL (D.take k) < 10000000000000000000 := Nat.lt_of_lt_of_le hv (Nat.pow_le_pow_right (n := 10) (by decide) (show k ≤ 19 by omega))
    clear hv
    by_cases hlt : k < d.size
    · have hkD : k < D.length := by have := HDS.out; omega
      have hg : D[k] = d[k] := by
        have h1 : d.data.toList[k]'(by rw [size_list]; exact hlt) = d[k] := rfl
        rw [← h1]
        have h2 := HDD.out
        simp only [← h2]
      by_cases hc : dgt d[k]
      · have HG' : Hid (∀ c ∈ D.take (k + 1), dgt c) := fun c hm => by
          rw [List.take_succ_eq_append_getElem hkD] at hm
          rcases List.mem_append.1 hm with h | h
          · exact HG.out c h
          · simp at h; subst h; rw [hg]; exact hc
        have HV : Hid ((dvL (D.take (k + 1)) : Int) = 10 * (dvL (D.take k) : Int) + ((d[k].toNat : Int) - 48)) := by
          show _ = _
          rw [List.take_succ_eq_append_getElem hkD, dv_snoc, hg]
          have := hc.1
          omega
        have hv2 : dvL (D.take (k + 1)) < 10 ^ (k + 1) := dv_lt (k + 1) _ (by rw [List.length_take]; omega) HG'.out
        have hv3 : dvL (D.take (k + 1)) < 10000000000000000000 := Nat.lt_of_lt_of_le hv2 (Nat.pow_le_pow_right (n := 10) (by decide) (show k + 1 ≤ 19 by omega))
        have hv4 : 10 * (dvL (D.take k) : Int) + ((d[k].toNat : Int) - 48) < 10000000000000000000 := by rw [← HV.out]; omega
        obtain ⟨c1, c2⟩ := hc
        have f1 : decide (((d[k]).toNat : Int) < 48) = false := decide_eq_false (by omega)
        have f2 : decide ((57 : Int) < ((d[k]).toNat : Int)) = false := decide_eq_false (by omega)
        clear hv2 hv3 hg hkD
        generalize dvL (D.take k) = v at *
        go_wp2
        go_round
        case rel => exact ⟨k + 1, by omega, by go_num, congrArg (Value.int .u64) (by rw [HV.out]), HG'⟩
        case measure => simp [intOf]; omega
      · have HN : Hid (∀ m, inInt m → s.data.toList ≠ Lib.itoa m) := by rw [HF.out]; exact no_num_neg (.inr (.inr ⟨D[k], List.getElem_mem _, by rw [hg]; exact hc⟩))
        unfold dgt at hc
        rcases Nat.lt_or_ge (d[k]).toNat 48 with hq | hq
        · have f1 : decide (((d[k]).toNat : Int) < 48) = true := decide_eq_true (by omega)
          clear hc hg hq hkD
          go_wp2
          go_ret2
          exact ⟨rfl, 0, false, NumR.no HN.out, rfl⟩
        · have f1 : decide (((d[k]).toNat : Int) < 48) = false := decide_eq_false (by omega)
          have f2 : decide ((57 : Int) < ((d[k]).toNat : Int)) = true := decide_eq_true (by omega)
          clear hc hg hq hkD
          go_wp2
          go_ret2
          exact ⟨rfl, 0, false, NumR.no HN.out, rfl⟩
    · obtain rfl : k = d.size := by omega
      rw [show D.take d.size = D from by rw [HDS.out, List.take_length]] at hv19 ⊢
      have HM : Hid (∀ m, inInt m → s.data.toList = Lib.itoa m → (dvL D : Int) = -m) := fun m hm e => val_neg hm (by rw [← HF.out]; exact e)
      clear HG
      generalize dvL D = v at *
      go_wp2_with fail
      refine (decimal_any _ _ (w64_bd _)).mono ?_
      rintro e w1 ⟨rfl, rfl⟩
      have hin : inInt (wrap64 (-wrap64 (v : Int))) := w64_bd _
      have HM2 : Hid (∀ m, inInt m → s.data.toList = Lib.itoa m → (wrap64 (-wrap64 (v : Int))) = m) := fun m hm e => by
        have h1 := HM.out m hm e
        obtain ⟨h2, h3⟩ := hm
        unfold wrap64
        omega
      generalize wrap64 (-wrap64 (v : Int)) = n at *
      by_cases he : s.data.toList = Lib.itoa n
      · have HY : Hid (NumR s.data.toList n true) := NumR.yes hin he
        have e1 : (Lib.itoa n == s.toList) = true := by rw [ByteArray.toList_eq, he]; simp
        clear he
        go_wp2
        go_ret2
        exact ⟨rfl, n, true, HY.out, rfl⟩
      · have HY : Hid (NumR s.data.toList n false) := NumR.other hin HM2.out he
        have e1 : (Lib.itoa n == s.toList) = false := by rw [ByteArray.toList_eq, beq_eq_false_iff_ne]; exact fun e => he e.symm
        clear he
        go_wp2
        go_ret2
        exact ⟨rfl, n, false, HY.out, rfl⟩
set_option maxHeartbeats 2000000 in
theorem number_pos (s : ByteArray) (w : World) (hs : s.size ≤ 100000) (h0 : 0 < s.size) (hc : s[0] ≠ 45) : Calls Tryz.prog 40 #[.string s] w (NumEndR s w) := by
  have f0 : (((s[0]).toNat : Int) == 45) = false := by rw [beq_eq_false_iff_ne]; exact fun e => hc (UInt8.toNat_inj.1 (by show (s[0]).toNat = 45; omega))
  have hsl := size_list s
  have hhd := head_is s h0
  have HF : Hid (s.data.toList.head? ≠ some 45) := by show _ ≠ _; rw [hhd]; simpa using hc
  obtain ⟨D, hD⟩ : ∃ D, s.data.toList = D := ⟨_, rfl⟩
  have HL : D.length = s.size := by rw [← hD]; exact hsl
  have HD := Lib.hid hD
  clear hc hhd hD hsl
  by_cases z0 : s.size = 0
  · have HN : Hid (∀ m, inInt m → s.data.toList ≠ Lib.itoa m) := no_num_pos HF.out (.inl (List.eq_nil_of_length_eq_zero (by rw [size_list]; omega)))
    clear HL
    go_enter Tryz.func40, Tryz.ntmps40
    go_wp2_with fail
    go_ret2
    exact ⟨rfl, 0, false, NumR.no HN.out, rfl⟩
  by_cases z1 : 19 < s.size
  · have HN : Hid (∀ m, inInt m → s.data.toList ≠ Lib.itoa m) := no_num_pos HF.out (.inr (.inl (by rw [size_list]; omega)))
    have z2 : (((s.size : Nat) : Int) == 0) = false := by rw [beq_eq_false_iff_ne]; omega
    clear HL
    go_enter Tryz.func40, Tryz.ntmps40
    go_wp2_with fail
    go_ret2
    exact ⟨rfl, 0, false, NumR.no HN.out, rfl⟩
  have z2 : (((s.size : Nat) : Int) == 0) = false := by rw [beq_eq_false_iff_ne]; omega
  have HLL := Lib.hid HL
  clear HL
  go_enter Tryz.func40, Tryz.ntmps40
  go_wp2_with fail
  have HDD : Hid (s.data.toList = D) := HD
  have hds : s.size ≤ 19 := by omega
  have HDS : Hid (s.size = D.length) := HLL.out.symm
  go_loop [6, 7] (fun v i => ∃ k : Nat, k ≤ s.size ∧ i = .int .i64 k ∧ v = .int .u64 (dvL (D.take k)) ∧ Hid (∀ c ∈ D.take k, dgt c)) (fun _ i => s.size - (intOf i).toNat)
  case atStart => exact ⟨0, by omega, rfl, rfl, fun c hc => by simp at hc⟩
  case round =>
    obtain ⟨k, hk, rfl, rfl, HG⟩ := hrel
    have hv : dvL (D.take k) < 10 ^ k := dv_lt k _ (by rw [List.length_take]; have := HDS.out; omega) HG.out
    have hv19 : dvL (D.take k) < 10000000000000000000 := Nat.lt_of_lt_of_le hv (Nat.pow_le_pow_right (n := 10) (by decide) (show k ≤ 19 by omega))
    clear hv
    by_cases hlt : k < s.size
    · have hkD : k < D.length := by have := HDS.out; omega
      have hg : D[k] = s[k] := by
        have h1 : s.data.toList[k]'(by rw [size_list]; exact hlt) = s[k] := rfl
        rw [← h1]
        have h2 := HDD.out
        simp only [← h2]
      by_cases hc : dgt s[k]
      · have HG' : Hid (∀ c ∈ D.take (k + 1), dgt c) := fun c hm => by
          rw [List.take_succ_eq_append_getElem hkD] at hm
          rcases List.mem_append.1 hm with h | h
          · exact HG.out c h
          · simp at h; subst h; rw [hg]; exact hc
        have HV : Hid ((dvL (D.take (k + 1)) : Int) = 10 * (dvL (D.take k) : Int) + ((s[k].toNat : Int) - 48)) := by
          show _ = _
          rw [List.take_succ_eq_append_getElem hkD, dv_snoc, hg]
          have := hc.1
          omega
        have hv2 : dvL (D.take (k + 1)) < 10 ^ (k + 1) := dv_lt (k + 1) _ (by rw [List.length_take]; omega) HG'.out
        have hv3 : dvL (D.take (k + 1)) < 10000000000000000000 := Nat.lt_of_lt_of_le hv2 (Nat.pow_le_pow_right (n := 10) (by decide) (show k + 1 ≤ 19 by omega))
        have hv4 : 10 * (dvL (D.take k) : Int) + ((s[k].toNat : Int) - 48) < 10000000000000000000 := by rw [← HV.out]; omega
        obtain ⟨c1, c2⟩ := hc
        have f1 : decide (((s[k]).toNat : Int) < 48) = false := decide_eq_false (by omega)
        have f2 : decide ((57 : Int) < ((s[k]).toNat : Int)) = false := decide_eq_false (by omega)
        clear hv2 hv3 hg hkD
        generalize dvL (D.take k) = v at *
        go_wp2
        go_round
        case rel => exact ⟨k + 1, by omega, by go_num, congrArg (Value.int .u64) (by rw [HV.out]), HG'⟩
        case measure => simp [intOf]; omega
      · have HN : Hid (∀ m, inInt m → s.data.toList ≠ Lib.itoa m) := no_num_pos HF.out (.inr (.inr ⟨D[k], by rw [HDD.out]; exact List.getElem_mem _, by rw [hg]; exact hc⟩))
        unfold dgt at hc
        rcases Nat.lt_or_ge (s[k]).toNat 48 with hq | hq
        · have f1 : decide (((s[k]).toNat : Int) < 48) = true := decide_eq_true (by omega)
          clear hc hg hq hkD
          go_wp2
          go_ret2
          exact ⟨rfl, 0, false, NumR.no HN.out, rfl⟩
        · have f1 : decide (((s[k]).toNat : Int) < 48) = false := decide_eq_false (by omega)
          have f2 : decide ((57 : Int) < ((s[k]).toNat : Int)) = true := decide_eq_true (by omega)
          clear hc hg hq hkD
          go_wp2
          go_ret2
          exact ⟨rfl, 0, false, NumR.no HN.out, rfl⟩
    · obtain rfl : k = s.size := by omega
      rw [show D.take s.size = D from by rw [HDS.out, List.take_length]] at hv19 ⊢
      have HM : Hid (∀ m, inInt m → s.data.toList = Lib.itoa m → (dvL D : Int) = m) := fun m hm e => by rw [← HDD.out]; exact val_pos HF.out hm e
      clear HG
      generalize dvL D = v at *
      go_wp2_with fail
      refine (decimal_any _ _ (w64_bd _)).mono ?_
      rintro e w1 ⟨rfl, rfl⟩
      have hin : inInt (wrap64 (v : Int)) := w64_bd _
      have HM2 : Hid (∀ m, inInt m → s.data.toList = Lib.itoa m → (wrap64 (v : Int)) = m) := fun m hm e => by
        have h1 := HM.out m hm e
        obtain ⟨h2, h3⟩ := hm
        unfold wrap64
        omega
      generalize wrap64 (v : Int) = n at *
      by_cases he : s.data.toList = Lib.itoa n
      · have HY : Hid (NumR s.data.toList n true) := NumR.yes hin he
        have e1 : (Lib.itoa n == s.toList) = true := by rw [ByteArray.toList_eq, he]; simp
        clear he
        go_wp2
        go_ret2
        exact ⟨rfl, n, true, HY.out, rfl⟩
      · have HY : Hid (NumR s.data.toList n false) := NumR.other hin HM2.out he
        have e1 : (Lib.itoa n == s.toList) = false := by rw [ByteArray.toList_eq, beq_eq_false_iff_ne]; exact fun e => he e.symm
        clear he
        go_wp2
        go_ret2
        exact ⟨rfl, n, false, HY.out, rfl⟩
theorem number_any (s : ByteArray) (w : World) (hs : s.size ≤ 100000) : Calls Tryz.prog 40 #[.string s] w (NumEndR s w) := by
  by_cases h0 : 0 < s.size
  · by_cases hc : s[0] = 45
    · exact number_neg s w hs h0 hc
    · exact number_pos s w hs h0 hc
  · have h1 : s.data.toList = [] := List.eq_nil_of_length_eq_zero (by rw [size_list]; omega)
    have HN : Hid (∀ m, inInt m → s.data.toList ≠ Lib.itoa m) := by rw [h1]; exact no_num_pos (by simp) (.inl rfl)
    have z0 : s.size = 0 := by omega
    clear h1
    go_enter Tryz.func40, Tryz.ntmps40
    go_wp2_with fail
    go_ret2
    exact ⟨rfl, 0, false, NumR.no HN.out, rfl⟩
end Go.Proofs.YtecbnhmnhcpcmaaGreatDoor
