/- The walks of acct.letters and acct.Name. -/
import Derived.Test.YtecbnhmnhcpcmaaGreatDoorPkJournalEven12
import Derived.Test.YtecbnhmnhcpcmaaGreatDoorProg
import Derived.Test.YtecbnhmnhcpcmaaGreatDoorPkJournalEven0
import Derived.Test.YtecbnhmnhcpcmaaGreatDoorPkJournalEven13
/-! The walks of acct.letters and acct.Name. -/
namespace Go.Proofs.YtecbnhmnhcpcmaaGreatDoor
open Go.RowKit Go.Shelf Acct
set_option linter.unusedVariables false
set_option linter.unusedSimpArgs false
theorem notL_fn (w : World) : Go.Proofs.PredAtRunes Tryz.prog 120 #[] notL w := fun W r _ _ => by
  unfold Go.Proofs.FnGives
  by_cases h1 : r < 97 <;> by_cases h2 : 122 < r
  all_goals
    have z1 : (r : Int) < 97 ↔ r < 97 := by omega
    have z2 : 122 < (r : Int) ↔ 122 < r := by omega
    go_enter Tryz.func120, Tryz.ntmps120
    go_wp2
    all_goals first | (exfalso; omega) | (go_ret; exact ⟨by simp [notL, h1, h2], 0, rfl⟩)
set_option maxHeartbeats 1000000 in
theorem letters_any (s : ByteArray) (w : World) : Calls Tryz.prog 87 #[.string s] w fun e w' => e = .returned (.bool (lettersL s.data.toList)) ∧ Below w.heap.size w w' := by
  have hC := Tryz.strings_ContainsFunc_runes 120 #[] (enters_of Tryz.func120 (by kernel_rfl) rfl) notL s w (notL_fn w)
  rw [idx_letters] at hC
  obtain ⟨al, hal⟩ : ∃ al, s.data.toList.all isL = al := ⟨_, rfl⟩
  rw [hal] at hC
  have HL : Hid (lettersL s.data.toList = (!s.toList.isEmpty && al)) := by unfold Hid lettersL; rw [baIsEmpty, hal]
  clear hal
  cases he : s.toList.isEmpty
  all_goals
    rw [he] at HL
    have hem : s.toList = [] ↔ s.toList.isEmpty = true := by simp
    go_enter Tryz.func87, Tryz.ntmps87
    go_wp2_with (go_at_call 119; refine hC.mono ?_; rintro e w' ⟨rfl, hb⟩)
    go_ret
    refine ⟨ret_bool ?_, ?_⟩
    · rw [HL.out]; simp
    · first | exact hb | exact Below.refl _ _
abbrev Pow (w : World) : Prop := Lib.TabIs Tryz.prog w "internal/strconv.uint64pow10" .u64 Lib.pow10Tab
theorem pow_below {w w' : World} (h : Pow w) (hb : Below w.heap.size w w') : Pow w' := Lib.tabBelow_of_tabIs h _ hb
/-- a row of numbers lies in memory -/
def IntsAt (w : World) (v : Value) (ns : List Int) : Prop := ∃ a c, v = .slice a ns.length c ∧ ∀ i, i < ns.length → ∃ b o, a = some ⟨b, o, none⟩ ∧ w.cell? ⟨b, o + i, none⟩ = some (.int .i64 (ns.getD i 0))
theorem IntsAt.below {w w' : World} {v : Value} {ns : List Int} (h : IntsAt w v ns) (hb : Below w.heap.size w w') : IntsAt w' v ns := by
  obtain ⟨a, c, rfl, hc⟩ := h
  exact ⟨a, c, rfl, fun i hi => by
    obtain ⟨b, o, rfl, hcell⟩ := hc i hi
    exact ⟨b, o, rfl, stays hb hcell⟩⟩
theorem format_any (n : Int) (w : World) (hP : Pow w) (h : inInt n) :
    Calls Tryz.prog 88 #[.int .i64 n, .int .i64 10] w fun e w' => e = .returned (.string ⟨(Lib.itoa n).toArray⟩) ∧ Below w.heap.size w w' :=
  (Tryz.strconv_FormatInt_10 n h.1 h.2 w hP).mono fun _ _ ⟨he, k, os, hw⟩ => ⟨he, hw ▸ Lib.below_grow _ w (Nat.le_refl _) k os⟩
set_option maxHeartbeats 1000000 in
theorem name_any (word : ByteArray) (v : Value) (ns : List Int) (w : World) (hP : Pow w) (hI : IntsAt w v ns) (hn : ∀ n ∈ ns, inInt n) (hl : ns.length ≤ 200000) (hs : word.size ≤ 1000000) :
    Calls Tryz.prog 64 #[.string word, v] w fun e w' => e = .returned (.string (nameB word ns)) ∧ Below w.heap.size w w' := by
  have HP := Lib.hid hP
  obtain ⟨a, c, rfl, hc⟩ := hI
  have HC := Lib.hid hc
  have HN : Hid (∀ k, k < ns.length → inInt (ns.getD k 0)) := fun k hk => by rw [getD_at _ _ _ hk]; exact hn _ (List.getElem_mem _)
  have HPL : Hid (∀ k, (partsL (ns.take k)).length ≤ 4400000) := fun k => by
    have := partsL_len (ns.take k) (fun n h => hn n (List.mem_of_mem_take h))
    have h2 : (ns.take k).length ≤ ns.length := by rw [List.length_take]; omega
    omega
  clear hP hc hn
  obtain ⟨l, rfl⟩ : ∃ l : List UInt8, word = ⟨l.toArray⟩ := ⟨word.data.toList, by simp⟩
  have hs' : l.length ≤ 1000000 := (sizeMk l) ▸ hs
  clear hs
  cases hw : lettersL (ByteArray.mk l.toArray).data.toList
  · have HW := Lib.hid hw
    clear hw
    go_enter Tryz.func64, Tryz.ntmps64
    go_wp2_with (go_at_call 87; refine (letters_any _ _).mono ?_; rintro e w' ⟨rfl, hb⟩; rw [HW.out])
    go_ret
    exact ⟨ret_str (by unfold nameB nameL; rw [HW.out]; rfl), hb⟩
  · have HW := Lib.hid hw
    clear hw
    go_enter Tryz.func64, Tryz.ntmps64
    go_wp2_with (go_at_call 87; refine (letters_any _ _).mono ?_; rintro e w' ⟨rfl, hb⟩; rw [HW.out])
    have HB := Lib.hid hb
    clear hb
    go_loopw [5, 14] (fun o i wr => ∃ k : Nat, k ≤ ns.length ∧ i = .int .i64 k ∧ o = .string ⟨(l ++ partsL (ns.take k)).toArray⟩ ∧ Below w.heap.size w wr) (fun _ i _ => ns.length - (intOf i).toNat)
    case atStart => exact ⟨0, by omega, rfl, by simp [partsL], HB.out⟩
    case round =>
      obtain ⟨k, hk, rfl, rfl, hbr⟩ := hrel
      have BR := Lib.hid hbr
      clear hbr HB
      have hpl := HPL.out k
      by_cases hlt : k < ns.length
      · obtain ⟨b, o, rfl, hcell⟩ := HC.out k hlt
        have hcell' := stays BR.out hcell
        have hin := HN.out k hlt
        have HT : Hid (l ++ partsL (ns.take k) ++ (47 :: Lib.itoa (ns.getD k 0)) = l ++ partsL (ns.take (k + 1))) := by
          unfold Hid
          rw [List.append_assoc, ← partsL_snoc, List.take_succ_eq_append_getElem hlt, getD_at _ _ _ hlt]
        clear hcell
        go_wp2_with fail
        obtain ⟨d, hd⟩ : ∃ d, ns[k] = d := ⟨_, rfl⟩
        rw [getD_at _ _ _ hlt, hd] at hin HT
        rw [hd]
        refine (format_any d _ (pow_below HP.out BR.out) hin).mono ?_
        rintro e w2 ⟨rfl, hb⟩
        have B2 : Hid (Below w.heap.size w w2) := onward hb BR.out
        have hln : (Lib.itoa d).length ≤ 21 := Lib.itoa_length_le d hin.1 hin.2
        clear hb hcell' HC BR hd hin
        go_wp2
        go_roundw
        case rel => exact ⟨k + 1, by omega, by go_num, by rw [← HT.out]; simp [bcat], B2.out⟩
        case measure => simp [intOf]; omega
      · obtain rfl : k = ns.length := by omega
        rw [List.take_length] at hpl ⊢
        by_cases h32 : (l ++ partsL ns).length ≤ 32
        · have HQ : Hid (nameB ⟨l.toArray⟩ ns = ⟨(l ++ partsL ns).toArray⟩) := by
            unfold Hid nameB
            rw [nameL_yes HW.out h32]
          generalize l ++ partsL ns = q at *
          go_wp2
          go_ret
          exact ⟨ret_str HQ.out.symm, BR.out⟩
        · have HQ : Hid (nameB ⟨l.toArray⟩ ns = ⟨#[]⟩) := by
            unfold Hid nameB
            rw [nameL_long h32]
          rw [List.length_append] at h32
          have hq : (l ++ partsL ns).length = l.length + (partsL ns).length := List.length_append
          generalize l ++ partsL ns = q at *
          go_wp2
          go_ret
          exact ⟨ret_str HQ.out.symm, BR.out⟩
end Go.Proofs.YtecbnhmnhcpcmaaGreatDoor
