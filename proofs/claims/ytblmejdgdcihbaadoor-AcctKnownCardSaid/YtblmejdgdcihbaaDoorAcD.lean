/- The walks of the reference's digits, Decimal, Name and number. -/
import Derived.Test.YtblmejdgdcihbaaDoorAcB
import Derived.BigGuardPart
namespace Go.Proofs.YtblmejdgdcihbaaDoor
open Go.RowKit Go.Shelf Acct
set_option linter.unusedVariables false
set_option linter.unusedSimpArgs false
theorem dg_piece (d : Nat) (h : d < 10) : (⟨#[48, 49, 50, 51, 52, 53, 54, 55, 56, 57]⟩ : ByteArray).extract d (d + 1) = ⟨#[UInt8.ofNat (48 + d)]⟩ := by
  have : d = 0 ∨ d = 1 ∨ d = 2 ∨ d = 3 ∨ d = 4 ∨ d = 5 ∨ d = 6 ∨ d = 7 ∨ d = 8 ∨ d = 9 := by omega
  rcases this with rfl | rfl | rfl | rfl | rfl | rfl | rfl | rfl | rfl | rfl <;> rfl
set_option maxHeartbeats 1000000 in
theorem digits_any (m : Nat) : ∀ (u : Nat) (w : World), u < m → u < 18446744073709551616 → Calls Tryd.prog 49 #[.int .u64 u] w fun e w' => e = .returned (.string ⟨(Lib.decDigits u).toArray⟩) ∧ w = w' := by
  induction m with
  | zero => intro u w h; omega
  | succ m ih =>
    intro u w hm hu
    have HP := Lib.hid (dg_piece (u % 10) (by omega))
    by_cases h10 : u < 10
    · have HD : Hid (Lib.decDigits u = [UInt8.ofNat (48 + u % 10)]) := by
        rw [show u % 10 = u from by omega]; exact Lib.decDigits_one h10
      go_enter Tryd.func49, Tryd.ntmps49
      go_wp2_with fail
      go_ret
      exact ⟨ret_str (by rw [HD.out]; exact HP.out), rfl⟩
    · have HD : Hid (Lib.decDigits u = Lib.decDigits (u / 10) ++ [UInt8.ofNat (48 + u % 10)]) := by
        show _ = _
        rw [Lib.decDigits, dif_neg h10]
      have IH := Lib.hid (ih (u / 10) w (by omega) (by omega))
      go_enter Tryd.func49, Tryd.ntmps49
      go_wp2_with fail
      refine IH.out.mono ?_
      rintro e w1 ⟨rfl, rfl⟩
      have hl : (Lib.decDigits (u / 10)).length ≤ 20 := by rw [Lib.decDigits_length]; exact Lib.nDigits_le20 _ (by omega)
      generalize Lib.decDigits (u / 10) = ds at *
      go_wp2_with fail
      go_ret
      exact ⟨ret_str (by rw [HD.out, ← bcat]; exact congrArg (⟨ds.toArray⟩ ++ ·) HP.out), rfl⟩
set_option maxHeartbeats 1000000 in
theorem decimal_any (n : Int) (w : World) (h : inInt n) : Calls Tryd.prog 30 #[.int .i64 n] w fun e w' => e = .returned (.string ⟨(Lib.itoa n).toArray⟩) ∧ w = w' := by
  obtain ⟨h1, h2⟩ := h
  by_cases hn : n < 0
  · have HI : Hid (Lib.itoa n = 45 :: Lib.decDigits n.natAbs) := by show _ = _; unfold Lib.itoa; rw [if_pos hn]
    have HW : Hid (IntKind.u64.wrap (-IntKind.u64.wrap n) = ((n.natAbs : Nat) : Int)) := by
      show _ = _
      have e1 : IntKind.u64.wrap n = n % 18446744073709551616 := rfl
      have e2 : ∀ x, IntKind.u64.wrap x = x % 18446744073709551616 := fun _ => rfl
      rw [e2, e2]; omega
    go_enter Tryd.func30, Tryd.ntmps30
    go_wp2_with fail
    rw [HW.out]
    refine (digits_any (n.natAbs + 1) n.natAbs _ (by omega) (by omega)).mono ?_
    rintro e w1 ⟨rfl, rfl⟩
    have hl : (Lib.decDigits n.natAbs).length ≤ 20 := by rw [Lib.decDigits_length]; exact Lib.nDigits_le20 _ (by omega)
    generalize Lib.decDigits n.natAbs = ds at *
    go_wp2_with fail
    go_ret
    exact ⟨ret_str (by rw [HI.out]; exact bcat [45] ds), rfl⟩
  · obtain ⟨u, rfl⟩ : ∃ u : Nat, n = u := ⟨n.toNat, by omega⟩
    have HI : Hid (Lib.itoa (u : Int) = Lib.decDigits u) := Lib.itoa_nonneg u
    have HW : Hid (IntKind.u64.wrap (u : Int) = (u : Int)) := by
      show _ = _
      have e2 : ∀ x, IntKind.u64.wrap x = x % 18446744073709551616 := fun _ => rfl
      rw [e2]; omega
    go_enter Tryd.func30, Tryd.ntmps30
    go_wp2_with fail
    try rw [HW.out]
    refine (digits_any (u + 1) u _ (by omega) (by omega)).mono ?_
    rintro e w1 ⟨rfl, rfl⟩
    go_wp2_with fail
    go_ret
    exact ⟨ret_str (by rw [HI.out]), rfl⟩
set_option maxHeartbeats 2000000 in
theorem rname_any (word : ByteArray) (v : Value) (ns : List Int) (w : World) (hI : IntsAt w v ns) (hn : ∀ n ∈ ns, inInt n) (hl : ns.length ≤ 1000) (hs : word.size ≤ 1000000) :
    Calls Tryd.prog 15 #[.string word, v] w fun e w' => e = .returned (.string (nameB word ns)) ∧ w = w' := by
  obtain ⟨a, c, rfl, hc⟩ := hI
  have HC := Lib.hid hc
  have HN : Hid (∀ k, k < ns.length → inInt (ns.getD k 0)) := fun k hk => by rw [getD_at _ _ _ hk]; exact hn _ (List.getElem_mem _)
  have HPL : Hid (∀ k, (partsL (ns.take k)).length ≤ 22000) := fun k => by
    have := partsL_len (ns.take k) (fun n h => hn n (List.mem_of_mem_take h))
    have h2 : (ns.take k).length ≤ ns.length := by rw [List.length_take]; omega
    omega
  have hwl := size_list word
  clear hc hn
  go_enter Tryd.func15, Tryd.ntmps15
  by_cases h0 : word.size = 0
  · have hb0 : (((word.size : Nat) : Int) == 0) = true := by rw [h0]; rfl
    have HQ : Hid (nameB word ns = ⟨#[]⟩) := by
      show _ = _
      unfold nameB
      rw [nameL_word (by unfold lettersL; rw [List.eq_nil_of_length_eq_zero (hwl.trans h0)]; rfl)]
    clear h0 hwl
    go_wp2_with fail
    go_ret
    exact ⟨ret_str HQ.out.symm, rfl⟩
  · have hb0 : (((word.size : Nat) : Int) == 0) = false := by rw [beq_eq_false_iff_ne]; omega
    go_wp2_with fail
    go_loop [5] (fun i => ∃ k : Nat, k ≤ word.size ∧ i = .int .i64 k ∧ Hid (∀ j, j < k → isL (word.data.toList.getD j 0) = true)) (fun i => word.size - (intOf i).toNat)
    case atStart => exact ⟨0, by omega, rfl, fun j hj => by omega⟩
    case round =>
      obtain ⟨k, hk, rfl, HL⟩ := hrel
      by_cases hlt : k < word.size
      · have hg : word.data.toList.getD k 0 = word[k] := by rw [getD_at _ _ _ (by omega)]; rfl
        by_cases hc : 97 ≤ (word[k]).toNat ∧ (word[k]).toNat ≤ 122
        · have HL' : Hid (∀ j, j < k + 1 → isL (word.data.toList.getD j 0) = true) := fun j hj => by
            by_cases e : j = k
            · subst e; rw [hg]; exact (isL_iff _).2 hc
            · exact HL.out j (by omega)
          have f1 : decide (((word[k]).toNat : Int) < 97) = false := decide_eq_false (by omega)
          have f2 : decide ((122 : Int) < ((word[k]).toNat : Int)) = false := decide_eq_false (by omega)
          clear hc hg hwl
          go_wp2
          go_round
          case rel => exact ⟨k + 1, by omega, by go_num, HL'⟩
          case measure => simp [intOf]; omega
        · have HQ : Hid (nameB word ns = ⟨#[]⟩) := by
            show _ = _
            unfold nameB
            rw [nameL_word]
            unfold lettersL
            rw [Bool.and_eq_false_iff]
            right
            rw [← Bool.not_eq_true, List.all_eq_true]
            intro ha
            have := ha _ (List.getElem_mem (show k < word.data.toList.length by omega))
            rw [← getD_at _ _ 0 (by omega), hg] at this
            exact hc ((isL_iff _).1 this)
          rcases Nat.lt_or_ge (word[k]).toNat 97 with hq | hq
          · have f1 : decide (((word[k]).toNat : Int) < 97) = true := decide_eq_true (by omega)
            clear hc hg hwl hq
            go_wp2
            go_ret
            exact ⟨ret_str HQ.out.symm, rfl⟩
          · have f1 : decide (((word[k]).toNat : Int) < 97) = false := decide_eq_false (by omega)
            have f2 : decide ((122 : Int) < ((word[k]).toNat : Int)) = true := decide_eq_true (by omega)
            clear hc hg hwl hq
            go_wp2
            go_ret
            exact ⟨ret_str HQ.out.symm, rfl⟩
      · obtain rfl : k = word.size := by omega
        have HW : Hid (lettersL word.data.toList = true) := by
          show _ = _
          unfold lettersL
          rw [Bool.and_eq_true, List.all_eq_true]
          constructor
          · cases hq : word.data.toList with
            | nil => rw [hq] at hwl; simp at hwl; omega
            | cons c r => rfl
          · intro c hc
            obtain ⟨j, hj, rfl⟩ := List.getElem_of_mem hc
            have := HL.out j (by omega)
            rw [getD_at _ _ _ hj] at this
            exact this
        obtain ⟨l, hl0⟩ : ∃ l : List UInt8, word = ⟨l.toArray⟩ := ⟨word.data.toList, by simp⟩
        subst hl0
        have hs' : l.length ≤ 1000000 := (sizeMk l) ▸ hs
        have hne : 0 < l.length := by have := sizeMk l; omega
        clear hlt HL hs h0 hb0 hk hwl
        go_wp2_with fail
        go_loop [6, 7] (fun o i => ∃ k : Nat, k ≤ ns.length ∧ i = .int .i64 k ∧ o = .string ⟨(l ++ partsL (ns.take k)).toArray⟩) (fun _ i => ns.length - (intOf i).toNat)
        case atStart => exact ⟨0, by omega, rfl, by simp [partsL]⟩
        case round =>
          obtain ⟨k, hk, rfl, rfl⟩ := hrel
          have hpl := HPL.out k
          by_cases hlt : k < ns.length
          · obtain ⟨b, o, rfl, hcell⟩ := HC.out k hlt
            have hin := HN.out k hlt
            have HT : Hid (l ++ partsL (ns.take k) ++ (47 :: Lib.itoa (ns.getD k 0)) = l ++ partsL (ns.take (k + 1))) := by
              unfold Hid
              rw [List.append_assoc, ← partsL_snoc, List.take_succ_eq_append_getElem hlt, getD_at _ _ _ hlt]
            rw [getD_at _ _ _ hlt] at hin HT hcell
            generalize ns[k] = d at *
            go_wp2_with fail
            refine (decimal_any d _ hin).mono ?_
            rintro e w2 ⟨rfl, rfl⟩
            have hln : (Lib.itoa d).length ≤ 21 := Lib.itoa_length_le d hin.1 hin.2
            clear hcell HC hin
            go_wp2
            go_round
            case rel => exact ⟨k + 1, by omega, by go_num, by rw [← HT.out]; simp [bcat]⟩
            case measure => simp [intOf]; omega
          · obtain rfl : k = ns.length := by omega
            rw [List.take_length] at hpl ⊢
            by_cases h32 : (l ++ partsL ns).length ≤ 32
            · have HQ : Hid (nameB ⟨l.toArray⟩ ns = ⟨(l ++ partsL ns).toArray⟩) := by
                unfold Hid nameB
                rw [nameL_yes HW.out h32]
              generalize l ++ partsL ns = q at *
              go_wp2
              go_ret
              exact ⟨ret_str HQ.out.symm, rfl⟩
            · have HQ : Hid (nameB ⟨l.toArray⟩ ns = ⟨#[]⟩) := by
                unfold Hid nameB
                rw [nameL_long h32]
              rw [List.length_append] at h32
              have hq : (l ++ partsL ns).length = l.length + (partsL ns).length := List.length_append
              generalize l ++ partsL ns = q at *
              go_wp2
              go_ret
              exact ⟨ret_str HQ.out.symm, rfl⟩
end Go.Proofs.YtblmejdgdcihbaaDoor
