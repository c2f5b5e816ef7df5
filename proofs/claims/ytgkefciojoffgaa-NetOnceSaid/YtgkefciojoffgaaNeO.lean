/- The walk of the law NetKnown. -/
import Derived.Test.YtgkefciojoffgaaNeN
namespace Go.Proofs.Ytgkefciojoffgaa
open Go.RowKit
set_option linter.unusedVariables false
set_option linter.unusedSimpArgs false
attribute [local go_sem ↓] Go.wp_at_zero Go.wp_at_succ
def x1 : Sy := (1, 0, [])
theorem gate1 : gateB 1 1 0 = true := by decide +kernel
theorem sendJ_rep (k : Nat) (h : k < 4096) : sendJ 1 (List.replicate k x1) (1, 0, []) = 0 := by
  unfold sendJ sendI
  rw [if_neg (by show ¬ gateB 1 1 0 = false; rw [gate1]; decide), if_neg (by simp), if_neg (by simp; omega)]
theorem sendR_rep (k : Nat) (h : k < 4096) : sendR 1 (List.replicate k x1) (1, 0, []) = List.replicate (k + 1) x1 := by
  unfold sendR
  rw [if_pos (sendJ_rep k h), ← show x1 = (1, 0, []) from rfl, List.replicate_succ']
theorem sendJ_full : sendJ 1 (List.replicate 4096 x1) (1, 0, []) = 3 := by
  unfold sendJ sendI
  rw [if_neg (by show ¬ gateB 1 1 0 = false; rw [gate1]; decide), if_neg (by simp), if_pos (by rw [List.length_replicate]; exact Nat.le_refl _)]
theorem sendR_full : sendR 1 (List.replicate 4096 x1) (1, 0, []) = List.replicate 4096 x1 := by
  unfold sendR
  rw [sendJ_full, if_neg (by decide)]
theorem inR_rep (n : Nat) (k : Int) (h0 : 0 ≤ k) (h : k < n) : inR k (List.replicate n x1) := ⟨h0, by rw [List.length_replicate]; exact h⟩
theorem at_rep (n : Nat) (k : Int) (h0 : 0 ≤ k) (h : k < n) : at? (List.replicate n x1) k = (1, 0, []) := by
  unfold at?
  rw [getD_at _ _ _ (by rw [List.length_replicate]; omega), List.getElem_replicate]
  rfl
theorem doubleI_full : doubleI 1 (List.replicate 4096 x1) 0 = 3 := by
  unfold doubleI
  rw [if_pos (inR_rep 4096 0 (by omega) (by omega)), at_rep 4096 0 (by omega) (by omega), sendJ_full]
theorem doubleR_full : doubleR 1 (List.replicate 4096 x1) 0 = List.replicate 4096 x1 := by
  unfold doubleR
  rw [if_pos (inR_rep 4096 0 (by omega) (by omega)), at_rep 4096 0 (by omega) (by omega), sendR_full]
theorem dropI_full : dropI (List.replicate 4096 x1) 4095 = 0 := by
  unfold dropI
  rw [if_pos (inR_rep 4096 4095 (by omega) (by omega))]
theorem dropR_full : dropR (List.replicate 4096 x1) 4095 = List.replicate 4095 x1 := by
  unfold dropR
  rw [if_pos (inR_rep 4096 4095 (by omega) (by omega)), show (4095 : Int).toNat = 4095 from rfl, List.eraseIdx_replicate, if_pos (by omega)]
theorem doubleI_one : doubleI 1 (List.replicate 4095 x1) 0 = 0 := by
  unfold doubleI
  rw [if_pos (inR_rep 4095 0 (by omega) (by omega)), at_rep 4095 0 (by omega) (by omega), sendJ_rep 4095 (by omega)]
theorem zeros_are (n : Nat) : (madeCells (Value.cells (.int .u8 0)) (n * 1)).toList = bytesV (List.replicate n 0) := by
  rw [Nat.mul_one, show Value.cells (.int .u8 0) = #[.int .u8 0] from rfl, toList_madeCells_one]
  simp [bytesV]
/-- make([]byte, n) -/
theorem make_bytes (B n : Nat) (w : World) (hn : n ≤ 100000) : ∃ w', (Instr.makeSlice 28 (.int .i64 (n : Int)) (.int .i64 (n : Int))).run Try.prog w = .ok (.slice (some ⟨w.heap.size, 0, none⟩) n n) w' ∧ BytesAt B w' (.slice (some ⟨w.heap.size, 0, none⟩) n n) (List.replicate n 0) ∧ Below w.heap.size w w' := by
  obtain ⟨i0, hi, hz0, hz1, hz2⟩ := info_parts infoB
  obtain ⟨w', h1, h2, h3⟩ := run_make_full w w.heap.size 28 5 i0 (.int .u8 0) 1 Try.underlying28 hi hz0 hz1 .i64 .i64 n (by rw [hz2]; omega) (by unfold maxLen; omega) (Nat.le_refl _)
  rw [zeros_are] at h2
  have h2' : w'.ownsRow w.heap.size 5 1 (.slice (some ⟨w.heap.size, 0, none⟩) n n) (List.replicate n (0 : UInt8)).length (bytesV (List.replicate n 0)) := by rw [List.length_replicate]; exact h2
  exact ⟨w', h1, BytesAt.of_own h2', (Below.refl _ _).grown h3 (Nat.le_refl _) (fun k hk => by cases hk)⟩
set_option maxHeartbeats 4000000 in
set_option maxRecDepth 1000000 in
theorem netKnown_any (w : World) : Calls Try.prog 3 #[] w fun e w' => e = .returned (.bool true) ∧ Below w.heap.size w w' := by
  go_enter Try.func3, Try.ntmps3
  go_wp2_with fail
  refine (new_s w.heap.size 1 w (by decide) (by decide) (Nat.le_refl _) [] (fun k hk => by cases hk)).mono ?_
  rintro e w1 ⟨rfl, hS, hb⟩
  have S1 := Lib.hid hS
  have B1 := Lib.hid hb
  clear hS hb
  go_wp2_with fail
  refine (send_s w.heap.size w.heap.size [] 1 [] false false false 2 0 _ [] _ S1.out (bytes_nil _ _) (by unfold i64; omega) (by unfold i64; omega) (by decide)).mono ?_
  rw [show sendJ 1 [] (2, 0, []) = 1 by decide +kernel, show sendR 1 [] (2, 0, []) = [] by decide +kernel]
  rintro e w2 ⟨rfl, hS, hO, -⟩
  have S2 := Lib.hid hS
  have B2 := Lib.hid (B1.out.trans hO)
  clear hS hO
  go_wp2_with fail
  refine (send_s w.heap.size w.heap.size [] 1 [] false false false 0 0 _ [] _ S2.out (bytes_nil _ _) (by unfold i64; omega) (by unfold i64; omega) (by decide)).mono ?_
  rw [show sendJ 1 [] (0, 0, []) = 1 by decide +kernel, show sendR 1 [] (0, 0, []) = [] by decide +kernel]
  rintro e w3 ⟨rfl, hS, hO, -⟩
  have S3 := Lib.hid hS
  have B3 := Lib.hid (B2.out.trans hO)
  clear hS hO
  obtain ⟨w4, hmk, hb4, hbl4⟩ := make_bytes w.heap.size 4097 w3 (by omega)
  have hmk : (Instr.makeSlice 28 (.int .i64 4097) (.int .i64 4097)).run Try.prog w3 = .ok (.slice (some ⟨w3.heap.size, 0, none⟩) 4097 4097) w4 := hmk
  obtain ⟨bs, hbs⟩ : ∃ bs : List UInt8, bs = List.replicate 4097 0 := ⟨_, rfl⟩
  have hlen : bs.length = 4097 := by rw [hbs, List.length_replicate]
  have HL := Lib.hid hlen
  rw [← hbs] at hb4
  have H4 := Lib.hid hb4
  have S4 := Lib.hid (S3.out.below hbl4)
  have B4 := Lib.hid (onward hbl4 B3.out)
  have hJ : Hid (sendJ 1 [] (1, 0, bs) = 2) := by
    show _ = _
    unfold sendJ sendI
    rw [if_neg (by show ¬ gateB 1 1 0 = false; rw [gate1]; decide), if_pos (by rw [hlen]; omega)]
  clear hb4 hbl4 hbs hlen
  go_wp2_with fail
  refine (send_s w.heap.size w.heap.size [] 1 [] false false false 1 0 _ bs _ S4.out H4.out (by unfold i64; omega) (by unfold i64; omega) (by rw [HL.out]; omega)).mono ?_
  rw [show sendR 1 [] (1, 0, bs) = [] by unfold sendR; rw [hJ.out, if_neg (by decide)], hJ.out]
  rintro e w5 ⟨rfl, hS, hO, -⟩
  have S5 := Lib.hid hS
  have B5 := Lib.hid (B4.out.trans hO)
  clear hS hO hmk S4 H4 hJ HL
  go_wp2_with fail
  refine (cut_s w.heap.size w.heap.size [] 1 _ false false false 2 true _ S5.out).mono ?_
  rw [show cutI 1 2 = 1 by decide +kernel, show cutC 1 2 true false 1 = false by decide +kernel, show cutC 1 2 true false 2 = false by decide +kernel, show cutC 1 2 true false 3 = false by decide +kernel]
  rintro e w6 ⟨rfl, hS, hO, -⟩
  have S6 := Lib.hid hS
  have B6 := Lib.hid (B5.out.trans hO)
  clear hS hO
  go_wp2_with fail
  refine (cut_s w.heap.size w.heap.size [] 1 _ false false false 0 true _ S6.out).mono ?_
  rw [show cutI 1 0 = 1 by decide +kernel, show cutC 1 0 true false 1 = false by decide +kernel, show cutC 1 0 true false 2 = false by decide +kernel, show cutC 1 0 true false 3 = false by decide +kernel]
  rintro e w7 ⟨rfl, hS, hO, -⟩
  have S7 := Lib.hid hS
  have B7 := Lib.hid (B6.out.trans hO)
  clear hS hO S1 B1 S2 B2 S3 B3 B4 S5 B5 S6 B6
  go_wp2_with fail
  go_loopw [3] (fun i wr => ∃ k : Nat, k ≤ 4096 ∧ i = .int .i64 k ∧ Hid (NetS w.heap.size w.heap.size [] wr 1 (List.replicate k x1) false false false) ∧ Hid (Below w.heap.size w wr)) (fun i _ => 4096 - (intOf i).toNat)
  case atStart => exact ⟨0, by omega, rfl, S7, B7⟩
  case round =>
    obtain ⟨k, hk, rfl, SK, BK⟩ := hrel
    by_cases hlt : k < 4096
    · go_wp2_with fail
      refine (send_s w.heap.size w.heap.size [] 1 _ false false false 1 0 _ [] _ SK.out (bytes_nil _ _) (by unfold i64; omega) (by unfold i64; omega) (by decide)).mono ?_
      rw [sendJ_rep k hlt, sendR_rep k hlt]
      rintro e w8 ⟨rfl, hS, hO, -⟩
      have S8 := Lib.hid hS
      have B8 := Lib.hid (BK.out.trans hO)
      clear hS hO
      go_wp2_with fail
      go_roundw
      case rel => exact ⟨k + 1, by omega, by go_num, S8, B8⟩
      case measure => simp [intOf]; omega
    · obtain rfl : k = 4096 := by omega
      clear hlt
      go_wp2_with fail
      refine (send_s w.heap.size w.heap.size [] 1 _ false false false 1 0 _ [] _ SK.out (bytes_nil _ _) (by unfold i64; omega) (by unfold i64; omega) (by decide)).mono ?_
      rw [sendJ_full, sendR_full]
      rintro e w8 ⟨rfl, hS, hO, -⟩
      have S8 := Lib.hid hS
      have B8 := Lib.hid (BK.out.trans hO)
      clear hS hO
      go_wp2_with fail
      refine (double_s w.heap.size w.heap.size [] 1 _ false false false 0 _ S8.out).mono ?_
      rw [doubleI_full, doubleR_full]
      rintro e w9 ⟨rfl, hS, hO, -⟩
      have S9 := Lib.hid hS
      have B9 := Lib.hid (B8.out.trans hO)
      clear hS hO
      go_wp2_with fail
      refine (drop_s w.heap.size w.heap.size [] 1 _ false false false 4095 _ S9.out).mono ?_
      rw [dropI_full, dropR_full]
      rintro e wa ⟨rfl, hS, hO, -⟩
      have SA := Lib.hid hS
      have BA := Lib.hid (B9.out.trans hO)
      clear hS hO
      go_wp2_with fail
      refine (double_s w.heap.size w.heap.size [] 1 _ false false false 0 _ SA.out).mono ?_
      rw [doubleI_one]
      rintro e wb ⟨rfl, -, hO, -⟩
      have BB := Lib.hid (BA.out.trans hO)
      clear hO
      go_wp2_with fail
      refine (new_no 0 _ (by omega)).mono ?_
      rintro e wc ⟨rfl, rfl⟩
      go_wp2_with fail
      refine (new_no 4 _ (by omega)).mono ?_
      rintro e wc ⟨rfl, rfl⟩
      go_wp2_with fail
      refine (goes_any _).mono ?_
      rintro e wc ⟨rfl, hO⟩
      have BC := Lib.hid (onward hO BB.out)
      clear hO
      go_wp2_with fail
      go_ret
      exact ⟨rfl, BC.out⟩
end Go.Proofs.Ytgkefciojoffgaa
