/- The walks of acct.letters and acct.Name. The walks of money.Sum and Add. Plain laws of account names: cut at strokes, numerals read back. No program. -/
import Derived.Test.YtcaihncnmjegoaaGreatDoorPkPacksAl4
import Derived.Test.YtcaihncnmjegoaaGreatDoorProg
import Derived.Test.YtcaihncnmjegoaaGreatDoorPkPacksAl0
import Derived.Test.YtcaihncnmjegoaaGreatDoorPkPacksAl5
import Derived.Laws.Externs
import Derived.Laws.Shifts
import Derived.Lib.ParseIntBCases
/-! The walks of acct.letters and acct.Name. -/
namespace Go.Proofs.YtcaihncnmjegoaaGreatDoor
open Go.RowKit Go.Shelf Acct
set_option linter.unusedVariables false
set_option linter.unusedSimpArgs false
theorem notL_fn (w : World) : Go.Proofs.PredAtRunes Tryz.prog 52 #[] notL w := fun W r _ _ => by
  unfold Go.Proofs.FnGives
  by_cases h1 : r < 97 <;> by_cases h2 : 122 < r
  all_goals
    have z1 : (r : Int) < 97 ↔ r < 97 := by omega
    have z2 : 122 < (r : Int) ↔ 122 < r := by omega
    go_enter Tryz.func52, Tryz.ntmps52
    go_wp2
    all_goals first | (exfalso; omega) | (go_ret; exact ⟨by simp [notL, h1, h2], 0, rfl⟩)
set_option maxHeartbeats 1000000 in
theorem letters_any (s : ByteArray) (w : World) : Calls Tryz.prog 32 #[.string s] w fun e w' => e = .returned (.bool (lettersL s.data.toList)) ∧ Below w.heap.size w w' := by
  have hC := Tryz.strings_ContainsFunc_runes 52 #[] (enters_of Tryz.func52 (by kernel_rfl) rfl) notL s w (notL_fn w)
  rw [idx_letters] at hC
  obtain ⟨al, hal⟩ : ∃ al, s.data.toList.all isL = al := ⟨_, rfl⟩
  rw [hal] at hC
  have HL : Hid (lettersL s.data.toList = (!s.toList.isEmpty && al)) := by unfold Hid lettersL; rw [baIsEmpty, hal]
  clear hal
  cases he : s.toList.isEmpty
  all_goals
    rw [he] at HL
    have hem : s.toList = [] ↔ s.toList.isEmpty = true := by simp
    go_enter Tryz.func32, Tryz.ntmps32
    go_wp2_with (go_at_call 51; refine hC.mono ?_; rintro e w' ⟨rfl, hb⟩)
    go_ret
    refine ⟨ret_bool ?_, ?_⟩
    · rw [HL.out]; simp
    · first | exact hb | exact Below.refl _ _
abbrev Pow (w : World) : Prop := Lib.TabIs Tryz.prog w "internal/strconv.uint64pow10" .u64 Lib.pow10Tab
theorem pow_below {w w' : World} (h : Pow w) (hb : Below w.heap.size w w') : Pow w' := Lib.tabBelow_of_tabIs h _ hb
/-- a row of numbers lies in memory -/
def IntsAt (w : World) (v : Value) (ns : List Int) : Prop := ∃ a c, v = .slice a ns.length c ∧ ∀ i, i < ns.length → ∃ b o, a = some ⟨b, o, none⟩ ∧ w.cell? ⟨b, o + i, none⟩ = some (.int .i64 (ns.getD i 0))
theorem IntsAt.below {w w' : World} {v : Value} {ns : List Int} (h : IntsAt w v ns) (hb : Below w.heap.size w w') : IntsAt w' v ns := by
  obtain ⟨a, c, rfl, hc⟩ := h
  exact ⟨a, c, rfl, fun i hi => by
    obtain ⟨b, o, rfl, hcell⟩ := hc i hi
    exact ⟨b, o, rfl, stays hb hcell⟩⟩
theorem format_any (n : Int) (w : World) (hP : Pow w) (h : inInt n) :
    Calls Tryz.prog 33 #[.int .i64 n, .int .i64 10] w fun e w' => e = .returned (.string ⟨(Lib.itoa n).toArray⟩) ∧ Below w.heap.size w w' :=
  (Tryz.strconv_FormatInt_10 n h.1 h.2 w hP).mono fun _ _ ⟨he, k, os, hw⟩ => ⟨he, hw ▸ Lib.below_grow _ w (Nat.le_refl _) k os⟩
set_option maxHeartbeats 1000000 in
theorem name_any (word : ByteArray) (v : Value) (ns : List Int) (w : World) (hP : Pow w) (hI : IntsAt w v ns) (hn : ∀ n ∈ ns, inInt n) (hl : ns.length ≤ 200000) (hs : word.size ≤ 1000000) :
    Calls Tryz.prog 20 #[.string word, v] w fun e w' => e = .returned (.string (nameB word ns)) ∧ Below w.heap.size w w' := by
  have HP := Lib.hid hP
  obtain ⟨a, c, rfl, hc⟩ := hI
  have HC := Lib.hid hc
  have HN : Hid (∀ k, k < ns.length → inInt (ns.getD k 0)) := fun k hk => by rw [getD_at _ _ _ hk]; exact hn _ (List.getElem_mem _)
  have HPL : Hid (∀ k, (partsL (ns.take k)).length ≤ 4400000) := fun k => by
    have := partsL_len (ns.take k) (fun n h => hn n (List.mem_of_mem_take h))
    have h2 : (ns.take k).length ≤ ns.length := by rw [List.length_take]; omega
    omega
  clear hP hc hn
  obtain ⟨l, rfl⟩ : ∃ l : List UInt8, word = ⟨l.toArray⟩ := ⟨word.data.toList, by simp⟩
  have hs' : l.length ≤ 1000000 := (sizeMk l) ▸ hs
  clear hs
  cases hw : lettersL (ByteArray.mk l.toArray).data.toList
  · have HW := Lib.hid hw
    clear hw
    go_enter Tryz.func20, Tryz.ntmps20
    go_wp2_with (go_at_call 32; refine (letters_any _ _).mono ?_; rintro e w' ⟨rfl, hb⟩; rw [HW.out])
    go_ret
    exact ⟨ret_str (by unfold nameB nameL; rw [HW.out]; rfl), hb⟩
  · have HW := Lib.hid hw
    clear hw
    go_enter Tryz.func20, Tryz.ntmps20
    go_wp2_with (go_at_call 32; refine (letters_any _ _).mono ?_; rintro e w' ⟨rfl, hb⟩; rw [HW.out])
    have HB := Lib.hid hb
    clear hb
    go_loopw [5, 14] (fun o i wr => ∃ k : Nat, k ≤ ns.length ∧ i = .int .i64 k ∧ o = .string ⟨(l ++ partsL (ns.take k)).toArray⟩ ∧ Below w.heap.size w wr) (fun _ i _ => ns.length - (intOf i).toNat)
    case atStart => exact ⟨0, by omega, rfl, by simp [partsL], HB.out⟩
    case round =>
      obtain ⟨k, hk, rfl, rfl, hbr⟩ := hrel
      have BR := Lib.hid hbr
      clear hbr HB
      have hpl := HPL.out k
      by_cases hlt : k < ns.length
      · obtain ⟨b, o, rfl, hcell⟩ := HC.out k hlt
        have hcell' := stays BR.out hcell
        have hin := HN.out k hlt
        have HT : Hid (l ++ partsL (ns.take k) ++ (47 :: Lib.itoa (ns.getD k 0)) = l ++ partsL (ns.take (k + 1))) := by
          unfold Hid
          rw [List.append_assoc, ← partsL_snoc, List.take_succ_eq_append_getElem hlt, getD_at _ _ _ hlt]
        clear hcell
        go_wp2_with fail
        obtain ⟨d, hd⟩ : ∃ d, ns[k] = d := ⟨_, rfl⟩
        rw [getD_at _ _ _ hlt, hd] at hin HT
        rw [hd]
        refine (format_any d _ (pow_below HP.out BR.out) hin).mono ?_
        rintro e w2 ⟨rfl, hb⟩
        have B2 : Hid (Below w.heap.size w w2) := onward hb BR.out
        have hln : (Lib.itoa d).length ≤ 21 := Lib.itoa_length_le d hin.1 hin.2
        clear hb hcell' HC BR hd hin
        go_wp2
        go_roundw
        case rel => exact ⟨k + 1, by omega, by go_num, by rw [← HT.out]; simp [bcat], B2.out⟩
        case measure => simp [intOf]; omega
      · obtain rfl : k = ns.length := by omega
        rw [List.take_length] at hpl ⊢
        by_cases h32 : (l ++ partsL ns).length ≤ 32
        · have HQ : Hid (nameB ⟨l.toArray⟩ ns = ⟨(l ++ partsL ns).toArray⟩) := by
            unfold Hid nameB
            rw [nameL_yes HW.out h32]
          generalize l ++ partsL ns = q at *
          go_wp2
          go_ret
          exact ⟨ret_str HQ.out.symm, BR.out⟩
        · have HQ : Hid (nameB ⟨l.toArray⟩ ns = ⟨#[]⟩) := by
            unfold Hid nameB
            rw [nameL_long h32]
          rw [List.length_append] at h32
          have hq : (l ++ partsL ns).length = l.length + (partsL ns).length := List.length_append
          generalize l ++ partsL ns = q at *
          go_wp2
          go_ret
          exact ⟨ret_str HQ.out.symm, BR.out⟩
end Go.Proofs.YtcaihncnmjegoaaGreatDoor

/-! The walks of money.Sum and Add. -/
namespace Go.Proofs.YtcaihncnmjegoaaGreatDoor
open Go.RowKit Go.WideMaps Go.Maps
set_option linter.unusedVariables false
set_option linter.unusedSimpArgs false
set_option maxRecDepth 100000
theorem IntsAt.cell {w : World} {a : Option Addr} {n c : Nat} {ns : List Int} (h : IntsAt w (.slice a n c) ns) (k : Nat) (hk : k < ns.length) : ∃ g o, a = some ⟨g, o, none⟩ ∧ w.cell? ⟨g, o + k, none⟩ = some (.int .i64 ns[k]) := by
  obtain ⟨a', c', h1, h2⟩ := h
  injection h1 with h1 _ _
  subst h1
  obtain ⟨g, o, h3, h4⟩ := h2 k hk
  rw [getD_at _ _ _ hk] at h4
  exact ⟨g, o, h3, h4⟩
end Go.Proofs.YtcaihncnmjegoaaGreatDoor

/-! Plain laws of account names: cut at strokes, numerals read back. No program. -/
namespace Go.Proofs.YtcaihncnmjegoaaGreatDoor.Acct
open Go Go.Lib
set_option linter.unusedVariables false
theorem dec_digit (u : Nat) : ∀ c ∈ decDigits u, 48 ≤ c.toNat ∧ c.toNat ≤ 57 := by
  induction u using Nat.strongRecOn with
  | ind u ih =>
    intro c hc
    rw [decDigits] at hc
    split at hc
    · simp only [List.mem_singleton] at hc
      subst hc
      rw [UInt8.toNat_ofNat_of_lt' (by show _ < 256; omega)]
      omega
    · rcases List.mem_append.1 hc with h | h
      · exact ih (u / 10) (by omega) c h
      · simp only [List.mem_singleton] at h
        subst h
        rw [UInt8.toNat_ofNat_of_lt' (by show _ < 256; omega)]
        omega
theorem dec_ne (u : Nat) : decDigits u ≠ [] := by
  rw [decDigits]
  split <;> simp
theorem parseM_dec (M : Nat) (hM : M ≤ 18446744073709551615) (u : Nat) : u ≤ M → ∀ r, parseUintM M 0 (decDigits u ++ r) = parseUintM M u r := by
  induction u using Nat.strongRecOn with
  | ind u ih =>
    intro hu r
    rw [decDigits]
    split
    · have e : (UInt8.ofNat (48 + u)).toNat = 48 + u := UInt8.toNat_ofNat_of_lt' (by show _ < 256; omega)
      rw [List.singleton_append, parseUintM, if_pos (by rw [e]; omega), if_neg (by omega), e, if_neg (by omega)]
      congr 1
      omega
    · have e : (UInt8.ofNat (48 + u % 10)).toNat = 48 + u % 10 := UInt8.toNat_ofNat_of_lt' (by show _ < 256; omega)
      rw [List.append_assoc, ih (u / 10) (by omega) (by omega), List.singleton_append, parseUintM, if_pos (by rw [e]; omega), if_neg (by omega), e, if_neg (by omega)]
      congr 1
      omega
theorem parseU_dec (u : Nat) (h : u ≤ 18446744073709551615) : parseUintB 64 (decDigits u) = .ok u := by
  unfold parseUintB
  rw [if_neg (dec_ne u)]
  have := parseM_dec 18446744073709551615 (Nat.le_refl _) u h []
  rw [List.append_nil] at this
  exact this
/-- a numeral comes back -/
theorem parse_itoa (n : Int) (h : inInt n) : parseIntB 64 (itoa n) = .ok n := by
  obtain ⟨h1, h2⟩ := h
  unfold itoa
  split
  · rw [parseIntB_minus, parseU_dec _ (by omega)]
    unfold signedC
    simp only
    rw [if_neg (by show ¬ 9223372036854775808 < _; omega)]
    congr 1
    omega
  · have hd := dec_digit n.toNat
    have hp := parseU_dec n.toNat (by omega)
    cases hc : decDigits n.toNat with
    | nil => exact absurd hc (dec_ne _)
    | cons c r =>
      rw [hc] at hd hp
      have := hd c List.mem_cons_self
      rw [parseIntB_plain 64 c r (by omega) (by omega), hp]
      unfold signlessC
      simp only
      rw [if_neg (by show ¬ 9223372036854775808 ≤ _; omega)]
      congr 1
      omega
theorem itoa_inj {n m : Int} (hn : inInt n) (hm : inInt m) (h : itoa n = itoa m) : n = m := by
  have h1 := parse_itoa n hn
  rw [h, parse_itoa m hm] at h1
  injection h1 with h1
  exact h1.symm
theorem itoa_char (n : Int) : ∀ c ∈ itoa n, c.toNat = 45 ∨ (48 ≤ c.toNat ∧ c.toNat ≤ 57) := by
  intro c hc
  unfold itoa at hc
  split at hc
  · rcases List.mem_cons.1 hc with h | h
    · subst h; exact .inl rfl
    · exact .inr (dec_digit _ c h)
  · exact .inr (dec_digit _ c hc)
theorem itoa_no (n : Int) : (47 : UInt8) ∉ itoa n := fun h => by
  have := itoa_char n _ h
  have e : (47 : UInt8).toNat = 47 := rfl
  omega
theorem letters_no {l : List UInt8} (h : l.all isL = true) : (47 : UInt8) ∉ l := fun hm => by
  have := List.all_eq_true.1 h _ hm
  revert this
  decide
theorem occ_one (l : List UInt8) (j : Nat) : occAt l [47] j = decide (l[j]? = some 47) := by
  unfold occAt
  cases hd : l.drop j with
  | nil =>
    have : l.length ≤ j := List.drop_eq_nil_iff.1 hd
    rw [List.getElem?_eq_none this]
    rfl
  | cons c r =>
    have hj : j < l.length := by
      rcases Nat.lt_or_ge j l.length with h | h
      · exact h
      · rw [List.drop_eq_nil_of_le h] at hd; cases hd
    have e : l[j]? = some c := by
      have := congrArg List.head? hd
      rw [List.head?_drop] at this
      simpa using this
    rw [e]
    by_cases hc : c = 47
    · subst hc; simp
    · have : ((47 : UInt8) == c) = false := by simpa using fun h => hc h.symm
      simp [List.isPrefixOf, this, hc]
theorem idx_hit (a r : List UInt8) (h : (47 : UInt8) ∉ a) : index (a ++ 47 :: r) [47] = a.length := by
  apply index_first
  · simp
  · rw [occ_one]; simp
  · intro j hj
    rw [occ_one, List.getElem?_append_left hj]
    apply decide_eq_false
    intro e
    exact h (List.mem_of_getElem? e)
theorem idx_miss (a : List UInt8) (h : (47 : UInt8) ∉ a) : index a [47] = -1 := by
  apply index_none
  intro j hj
  rw [occ_one]
  exact decide_eq_false fun e => h (List.mem_of_getElem? e)
theorem split_one (a : List UInt8) (h : (47 : UInt8) ∉ a) : split a [47] = [a] := by
  unfold split
  rw [count_miss (idx_miss a h)]
  rfl
theorem split_app (a r : List UInt8) (h : (47 : UInt8) ∉ a) : split (a ++ 47 :: r) [47] = a :: split r [47] := by
  have e := idx_hit a r h
  unfold split
  have hd : (a ++ 47 :: r).drop (a.length + ([47] : List UInt8).length) = r := by
    rw [show a.length + [(47 : UInt8)].length = (a ++ [47]).length from by simp, show a ++ 47 :: r = (a ++ [47]) ++ r from by simp, List.drop_left]
  rw [count_hit (by simp) e, hd, Nat.add_comm, splitK, e]
  have hm : ¬ (((a.length : Int)) == -1) = true := fun e => by have := beq_iff_eq.1 e; omega
  rw [if_neg hm, show ((a.length : Int)).toNat = a.length from by omega, hd, Nat.add_zero, List.take_left]
/-- the pieces of a name -/
theorem split_name : ∀ (ns : List Int) (w : List UInt8), (47 : UInt8) ∉ w → split (w ++ partsL ns) [47] = w :: ns.map itoa
  | [], w, h => by rw [partsL, List.append_nil]; exact split_one w h
  | n :: ns, w, h => by
    rw [partsL, split_app w _ h, split_name ns (itoa n) (itoa_no n)]
    rfl
/-- a text is the name of a word and numbers -/
def Named (l : List UInt8) (w : List UInt8) (ns : List Int) : Prop := nameL w ns = l ∧ l ≠ [] ∧ ∀ n ∈ ns, inInt n
theorem Named.is {l w : List UInt8} {ns : List Int} (h : Named l w ns) : lettersL w = true ∧ l = w ++ partsL ns ∧ l.length ≤ 32 := by
  obtain ⟨h1, h2, h3⟩ := h
  unfold nameL at h1
  split at h1
  · rename_i h4
    exact ⟨h4.1, h1.symm, by rw [← h1]; exact h4.2⟩
  · exact absurd h1.symm h2
theorem named_of {w : List UInt8} {ns : List Int} (h1 : lettersL w = true) (h2 : (w ++ partsL ns).length ≤ 32) (h3 : ∀ n ∈ ns, inInt n) : Named (w ++ partsL ns) w ns := by
  refine ⟨nameL_yes h1 h2, ?_, h3⟩
  unfold lettersL at h1
  cases w with
  | nil => simp at h1
  | cons c r => simp
theorem letters_all {w : List UInt8} (h : lettersL w = true) : w.all isL = true := by
  unfold lettersL at h
  rw [Bool.and_eq_true] at h
  exact h.2
theorem Named.split {l w : List UInt8} {ns : List Int} (h : Named l w ns) : split l [47] = w :: ns.map itoa := by
  obtain ⟨h1, h2, _⟩ := h.is
  rw [h2]
  exact split_name ns w (letters_no (letters_all h1))
theorem map_itoa_inj : ∀ (a b : List Int), (∀ n ∈ a, inInt n) → (∀ n ∈ b, inInt n) → a.map itoa = b.map itoa → a = b
  | [], [], _, _, _ => rfl
  | [], y :: b, _, _, h => by simp at h
  | x :: a, [], _, _, h => by simp at h
  | x :: a, y :: b, ha, hb, h => by
    simp only [List.map_cons, List.cons.injEq] at h
    rw [itoa_inj (ha x List.mem_cons_self) (hb y List.mem_cons_self) h.1, map_itoa_inj a b (fun n hn => ha n (List.mem_cons_of_mem _ hn)) (fun n hn => hb n (List.mem_cons_of_mem _ hn)) h.2]
theorem Named.only {l w w' : List UInt8} {ns ns' : List Int} (h : Named l w ns) (h' : Named l w' ns') : w = w' ∧ ns = ns' := by
  have h1 := h.split
  rw [h'.split] at h1
  simp only [List.cons.injEq] at h1
  exact ⟨h1.1.symm, map_itoa_inj _ _ h.2.2 h'.2.2 h1.2.symm⟩
/-- numerals, read one by one -/
def numsL : List (List UInt8) → Option (List Int)
  | [] => some []
  | s :: r => match parseIntB 64 s with
    | .ok n => (numsL r).map (n :: ·)
    | _ => none
theorem numsL_itoa : ∀ (ns : List Int), (∀ n ∈ ns, inInt n) → numsL (ns.map itoa) = some ns
  | [], _ => rfl
  | n :: ns, h => by
    rw [List.map_cons, numsL, parse_itoa n (h n List.mem_cons_self)]
    simp only
    rw [numsL_itoa ns fun m hm => h m (List.mem_cons_of_mem _ hm)]
    rfl
theorem parseI_bd {l : List UInt8} {n : Int} (h : parseIntB 64 l = .ok n) : inInt n := by
  have hp : (2 : Nat) ^ (64 - 1) = 9223372036854775808 := by decide
  cases l with
  | nil => cases h
  | cons c r =>
    simp only [parseIntB, hp] at h
    split at h
    · cases h
    · cases h
    · split at h
      · cases h
      · split at h
        · cases h
        · injection h with h
          subst h
          unfold inInt
          split <;> omega
theorem splitB_one (s : ByteArray) : (Lib.splitB ⟨#[47]⟩ 0 (Lib.countB s ⟨#[47]⟩) s).map (·.data.toList) = split s.data.toList [47] := by
  rw [splitB_data]
  rfl
theorem nDig {k u : Nat} (h : u < 10 ^ k) (hk : 1 ≤ k) : Lib.nDigits u ≤ k := by
  induction k generalizing u with
  | zero => omega
  | succ k ih =>
    by_cases h1 : u < 10
    · rw [Lib.nDigits_small h1]; omega
    · rw [Lib.nDigits_big h1]
      rcases Nat.eq_zero_or_pos k with rfl | hk0
      · simp at h; omega
      · have := ih (u := u / 10) (by rw [Nat.pow_succ] at h; omega) hk0
        omega
/-- what number answers -/
def NumR (s : List UInt8) (n : Int) (b : Bool) : Prop := inInt n ∧ ((b = true ∧ s = itoa n) ∨ (b = false ∧ ∀ m, inInt m → s ≠ itoa m))
theorem NumR.no {s : List UInt8} (h : ∀ m, inInt m → s ≠ itoa m) : NumR s 0 false := ⟨⟨by decide, by decide⟩, .inr ⟨rfl, h⟩⟩
theorem NumR.yes {s : List UInt8} {n : Int} (hn : inInt n) (h : s = itoa n) : NumR s n true := ⟨hn, .inl ⟨rfl, h⟩⟩
theorem NumR.other {s : List UInt8} {n : Int} (hn : inInt n) (h : ∀ m, inInt m → s = itoa m → n = m) (hne : s ≠ itoa n) : NumR s n false :=
  ⟨hn, .inr ⟨rfl, fun m hm e => hne (by rw [h m hm e]; exact e)⟩⟩
end Go.Proofs.YtcaihncnmjegoaaGreatDoor.Acct

