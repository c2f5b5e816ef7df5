/- The walks of acct.letters and acct.Name. The walks of money.Sum and Add. -/
import Derived.Test.YtecbnhmnhcpcmaaGreatDoorPkJournalPlays10
import Derived.Test.YtecbnhmnhcpcmaaGreatDoorProg
import Derived.Test.YtecbnhmnhcpcmaaGreatDoorPkJournalPlays0
import Derived.Test.YtecbnhmnhcpcmaaGreatDoorPkJournalPlays11
import Derived.Laws.Externs
import Derived.Laws.Shifts
/-! The walks of acct.letters and acct.Name. -/
namespace Go.Proofs.YtecbnhmnhcpcmaaGreatDoor
open Go.RowKit Go.Shelf Acct
set_option linter.unusedVariables false
set_option linter.unusedSimpArgs false
theorem notL_fn (w : World) : Go.Proofs.PredAtRunes Tryz.prog 120 #[] notL w := fun W r _ _ => by
  unfold Go.Proofs.FnGives
  by_cases h1 : r < 97 <;> by_cases h2 : 122 < r
  all_goals
    have z1 : (r : Int) < 97 ↔ r < 97 := by omega
    have z2 : 122 < (r : Int) ↔ 122 < r := by omega
    go_enter Tryz.func120, Tryz.ntmps120
    go_wp2
    all_goals first | (exfalso; omega) | (go_ret; exact ⟨by simp [notL, h1, h2], 0, rfl⟩)
set_option maxHeartbeats 1000000 in
theorem letters_any (s : ByteArray) (w : World) : Calls Tryz.prog 87 #[.string s] w fun e w' => e = .returned (.bool (lettersL s.data.toList)) ∧ Below w.heap.size w w' := by
  have hC := Tryz.strings_ContainsFunc_runes 120 #[] (enters_of Tryz.func120 (by kernel_rfl) rfl) notL s w (notL_fn w)
  rw [idx_letters] at hC
  obtain ⟨al, hal⟩ : ∃ al, s.data.toList.all isL = al := ⟨_, rfl⟩
  rw [hal] at hC
  have HL : Hid (lettersL s.data.toList = (!s.toList.isEmpty && al)) := by unfold Hid lettersL; rw [baIsEmpty, hal]
  clear hal
  cases he : s.toList.isEmpty
  all_goals
    rw [he] at HL
    have hem : s.toList = [] ↔ s.toList.isEmpty = true := by simp
    go_enter Tryz.func87, Tryz.ntmps87
    go_wp2_with (go_at_call 119; refine hC.mono ?_; rintro e w' ⟨rfl, hb⟩)
    go_ret
    refine ⟨ret_bool ?_, ?_⟩
    · rw [HL.out]; simp
    · first | exact hb | exact Below.refl _ _
abbrev Pow (w : World) : Prop := Lib.TabIs Tryz.prog w "internal/strconv.uint64pow10" .u64 Lib.pow10Tab
theorem pow_below {w w' : World} (h : Pow w) (hb : Below w.heap.size w w') : Pow w' := Lib.tabBelow_of_tabIs h _ hb
/-- a row of numbers lies in memory -/
def IntsAt (w : World) (v : Value) (ns : List Int) : Prop := ∃ a c, v = .slice a ns.length c ∧ ∀ i, i < ns.length → ∃ b o, a = some ⟨b, o, none⟩ ∧ w.cell? ⟨b, o + i, none⟩ = some (.int .i64 (ns.getD i 0))
theorem IntsAt.below {w w' : World} {v : Value} {ns : List Int} (h : IntsAt w v ns) (hb : Below w.heap.size w w') : IntsAt w' v ns := by
  obtain ⟨a, c, rfl, hc⟩ := h
  exact ⟨a, c, rfl, fun i hi => by
    obtain ⟨b, o, rfl, hcell⟩ := hc i hi
    exact ⟨b, o, rfl, stays hb hcell⟩⟩
theorem format_any (n : Int) (w : World) (hP : Pow w) (h : inInt n) :
    Calls Tryz.prog 88 #[.int .i64 n, .int .i64 10] w fun e w' => e = .returned (.string ⟨(Lib.itoa n).toArray⟩) ∧ Below w.heap.size w w' :=
  (Tryz.strconv_FormatInt_10 n h.1 h.2 w hP).mono fun _ _ ⟨he, k, os, hw⟩ => ⟨he, hw ▸ Lib.below_grow _ w (Nat.le_refl _) k os⟩
set_option maxHeartbeats 1000000 in
theorem name_any (word : ByteArray) (v : Value) (ns : List Int) (w : World) (hP : Pow w) (hI : IntsAt w v ns) (hn : ∀ n ∈ ns, inInt n) (hl : ns.length ≤ 200000) (hs : word.size ≤ 1000000) :
    Calls Tryz.prog 64 #[.string word, v] w fun e w' => e = .returned (.string (nameB word ns)) ∧ Below w.heap.size w w' := by
  have HP := Lib.hid hP
  obtain ⟨a, c, rfl, hc⟩ := hI
  have HC := Lib.hid hc
  have HN : Hid (∀ k, k < ns.length → inInt (ns.getD k 0)) := fun k hk => by rw [getD_at _ _ _ hk]; exact hn _ (List.getElem_mem _)
  have HPL : Hid (∀ k, (partsL (ns.take k)).length ≤ 4400000) := fun k => by
    have := partsL_len (ns.take k) (fun n h => hn n (List.mem_of_mem_take h))
    have h2 : (ns.take k).length ≤ ns.length := by rw [List.length_take]; omega
    omega
  clear hP hc hn
  obtain ⟨l, rfl⟩ : ∃ l : List UInt8, word = ⟨l.toArray⟩ := ⟨word.data.toList, by simp⟩
  have hs' : l.length ≤ 1000000 := (sizeMk l) ▸ hs
  clear hs
  cases hw : lettersL (ByteArray.mk l.toArray).data.toList
  · have HW := Lib.hid hw
    clear hw
    go_enter Tryz.func64, Tryz.ntmps64
    go_wp2_with (go_at_call 87; refine (letters_any _ _).mono ?_; rintro e w' ⟨rfl, hb⟩; rw [HW.out])
    go_ret
    exact ⟨ret_str (by unfold nameB nameL; rw [HW.out]; rfl), hb⟩
  · have HW := Lib.hid hw
    clear hw
    go_enter Tryz.func64, Tryz.ntmps64
    go_wp2_with (go_at_call 87; refine (letters_any _ _).mono ?_; rintro e w' ⟨rfl, hb⟩; rw [HW.out])
    have HB := Lib.hid hb
    clear hb
    go_loopw [5, 14] (fun o i wr => ∃ k : Nat, k ≤ ns.length ∧ i = .int .i64 k ∧ o = .string ⟨(l ++ partsL (ns.take k)).toArray⟩ ∧ Below w.heap.size w wr) (fun _ i _ => ns.length - (intOf i).toNat)
    case atStart => exact ⟨0, by omega, rfl, by simp [partsL], HB.out⟩
    case round =>
      obtain ⟨k, hk, rfl, rfl, hbr⟩ := hrel
      have BR := Lib.hid hbr
      clear hbr HB
      have hpl := HPL.out k
      by_cases hlt : k < ns.length
      · obtain ⟨b, o, rfl, hcell⟩ := HC.out k hlt
        have hcell' := stays BR.out hcell
        have hin := HN.out k hlt
        have HT : Hid (l ++ partsL (ns.take k) ++ (47 :: Lib.itoa (ns.getD k 0)) = l ++ partsL (ns.take (k + 1))) := by
          unfold Hid
          rw [List.append_assoc, ← partsL_snoc, List.take_succ_eq_append_getElem hlt, getD_at _ _ _ hlt]
        clear hcell
        go_wp2_with fail
        obtain ⟨d, hd⟩ : ∃ d, ns[k] = d := ⟨_, rfl⟩
        rw [getD_at _ _ _ hlt, hd] at hin HT
        rw [hd]
        refine (format_any d _ (pow_below HP.out BR.out) hin).mono ?_
        rintro e w2 ⟨rfl, hb⟩
        have B2 : Hid (Below w.heap.size w w2) := onward hb BR.out
        have hln : (Lib.itoa d).length ≤ 21 := Lib.itoa_length_le d hin.1 hin.2
        clear hb hcell' HC BR hd hin
        go_wp2
        go_roundw
        case rel => exact ⟨k + 1, by omega, by go_num, by rw [← HT.out]; simp [bcat], B2.out⟩
        case measure => simp [intOf]; omega
      · obtain rfl : k = ns.length := by omega
        rw [List.take_length] at hpl ⊢
        by_cases h32 : (l ++ partsL ns).length ≤ 32
        · have HQ : Hid (nameB ⟨l.toArray⟩ ns = ⟨(l ++ partsL ns).toArray⟩) := by
            unfold Hid nameB
            rw [nameL_yes HW.out h32]
          generalize l ++ partsL ns = q at *
          go_wp2
          go_ret
          exact ⟨ret_str HQ.out.symm, BR.out⟩
        · have HQ : Hid (nameB ⟨l.toArray⟩ ns = ⟨#[]⟩) := by
            unfold Hid nameB
            rw [nameL_long h32]
          rw [List.length_append] at h32
          have hq : (l ++ partsL ns).length = l.length + (partsL ns).length := List.length_append
          generalize l ++ partsL ns = q at *
          go_wp2
          go_ret
          exact ⟨ret_str HQ.out.symm, BR.out⟩
end Go.Proofs.YtecbnhmnhcpcmaaGreatDoor
/-! The walks of money.Sum and Add. -/
namespace Go.Proofs.YtecbnhmnhcpcmaaGreatDoor
open Go.RowKit Go.WideMaps Go.Maps
set_option linter.unusedVariables false
set_option linter.unusedSimpArgs false
set_option maxRecDepth 100000
theorem add64_run (x y c : Nat) (hc : c ≤ 1) (w : World) : (callFunc 49 #[.int .u64 x, .int .u64 y, .int .u64 c]).run Tryz.prog w =
      .ok (.value (.tuple #[.int .u64 (((x + y + c) % 18446744073709551616 : Nat) : Int), .int .u64 (((x + y + c) / 18446744073709551616 : Nat) : Int)])) w := by
  rw [run_callFunc_extern Tryz.func49 (by kernel_rfl) (by kernel_rfl) (by kernel_rfl) (e := add64Entry) (by kernel_rfl), run_add64 x y c (by omega) (by omega) (by omega) (by omega)]
  simp only [Result.andThen]
  congr 5 <;> omega
theorem add64_zero (x y : Nat) (w : World) : (callFunc 49 #[.int .u64 x, .int .u64 y, .int .u64 0]).run Tryz.prog w =
      .ok (.value (.tuple #[.int .u64 (((x + y) % 18446744073709551616 : Nat) : Int), .int .u64 (((x + y) / 18446744073709551616 : Nat) : Int)])) w := add64_run x y 0 (by omega) w
theorem lin128 (M N hi lo s a g u q r t z k d : Int) (hN : N = M * M) (e1 : lo + u = q * M + r) (e2 : hi + g + q = t * M + z) (hk : hi * M + lo - s = N * k) (hd : g * M + u - a = d * N) : z * M + r - (s + a) = (k + d - t) * N := by
  have hz : z = hi + g + q - t * M := by omega
  have h1 : z * M = hi * M + g * M + q * M - t * M * M := by rw [hz]; simp only [Int.add_mul, Int.sub_mul]
  have h2 : t * M * M = t * N := by rw [hN, Int.mul_assoc]
  have h3 : (k + d - t) * N = k * N + d * N - t * N := by simp only [Int.add_mul, Int.sub_mul]
  have h4 : N * k = k * N := Int.mul_comm _ _
  rw [h3]
  omega
/-- the sum, if it fits -/
def sumE (l : List Int) : Int × Int := if -9223372036854775808 ≤ l.sum ∧ l.sum ≤ 9223372036854775807 then (l.sum, 0) else (0, 30)
/-- high and low words of a sum -/
def Hl (s : Int) (hi lo : Nat) : Prop := hi < 18446744073709551616 ∧ lo < 18446744073709551616 ∧ (((hi * 18446744073709551616 + lo : Nat) : Int) - s) % 340282366920938463463374607431768211456 = 0
def sgn (a : Int) : Nat := if a < 0 then 18446744073709551615 else 0
theorem hl_start : Hl 0 0 0 := ⟨by omega, by omega, by decide⟩
theorem hl_step {s a : Int} {hi lo : Nat} (h : Hl s hi lo) (ha1 : -9223372036854775808 ≤ a) (ha2 : a ≤ 9223372036854775807) : Hl (s + a) ((hi + sgn a + (lo + toU a) / 18446744073709551616) % 18446744073709551616) ((lo + toU a) % 18446744073709551616) := by
  obtain ⟨h1, h2, h3⟩ := h
  obtain ⟨k, hk⟩ := Int.dvd_of_emod_eq_zero h3
  obtain ⟨u, hu⟩ : ∃ u, toU a = u := ⟨_, rfl⟩
  obtain ⟨g, hg⟩ : ∃ g, sgn a = g := ⟨_, rfl⟩
  have hδ : ∃ d : Int, (g : Int) * 18446744073709551616 + u - a = d * 340282366920938463463374607431768211456 := by
    rw [← hu, ← hg]
    unfold sgn toU
    by_cases hn : a < 0
    · rw [if_pos hn]
      exact ⟨1, by omega⟩
    · rw [if_neg hn]
      exact ⟨0, by omega⟩
  obtain ⟨d, hd⟩ := hδ
  rw [hu, hg]
  clear hu hg h3
  obtain ⟨q, hq⟩ : ∃ q, (lo + u) / 18446744073709551616 = q := ⟨_, rfl⟩
  obtain ⟨r, hr⟩ : ∃ r, (lo + u) % 18446744073709551616 = r := ⟨_, rfl⟩
  have e1 : lo + u = q * 18446744073709551616 + r := by omega
  rw [hq, hr]
  obtain ⟨t, ht⟩ : ∃ t, (hi + g + q) / 18446744073709551616 = t := ⟨_, rfl⟩
  obtain ⟨z, hz⟩ : ∃ z, (hi + g + q) % 18446744073709551616 = z := ⟨_, rfl⟩
  have e2 : hi + g + q = t * 18446744073709551616 + z := by omega
  rw [hz]
  refine ⟨by omega, by omega, ?_⟩
  have e3 : ((z * 18446744073709551616 + r : Nat) : Int) - (s + a) = (k + d - t) * 340282366920938463463374607431768211456 := by
    have := lin128 18446744073709551616 340282366920938463463374607431768211456 hi lo s a g u q r t z k d (by decide) (by omega) (by omega) (by rw [← hk, Int.natCast_add, Int.natCast_mul]; rfl) hd
    rw [← this, Int.natCast_add, Int.natCast_mul]
    rfl
  rw [e3]
  exact Int.mul_emod_left _ _
/-- a word, with its sign -/
def out64 (lo : Nat) : Int := if lo < 9223372036854775808 then lo else (lo : Int) - 18446744073709551616
theorem hl_end {l : List Int} {hi lo : Nat} (h : Hl l.sum hi lo) (hb1 : -170141183460469231731687303715884105728 < l.sum) (hb2 : l.sum < 170141183460469231731687303715884105728) : (hi = sgn (out64 lo) → sumE l = (out64 lo, 0)) ∧ (hi ≠ sgn (out64 lo) → sumE l = (0, 30)) := by
  obtain ⟨h1, h2, h3⟩ := h
  have hE : sumE l = if -9223372036854775808 ≤ l.sum ∧ l.sum ≤ 9223372036854775807 then (l.sum, 0) else (0, 30) := rfl
  rw [hE]
  clear hE
  generalize l.sum = s at *
  have key : hi = sgn (out64 lo) ↔ (-9223372036854775808 ≤ s ∧ s ≤ 9223372036854775807) := by
    unfold sgn out64
    by_cases hl : lo < 9223372036854775808
    · rw [if_pos hl, if_neg (by omega)]
      omega
    · rw [if_neg hl, if_pos (by omega)]
      omega
  have val : hi = sgn (out64 lo) → s = out64 lo := by
    unfold sgn out64
    by_cases hl : lo < 9223372036854775808
    · rw [if_pos hl, if_neg (by omega)]
      omega
    · rw [if_neg hl, if_pos (by omega)]
      omega
  refine ⟨fun h => ?_, fun h => ?_⟩
  · rw [if_pos (key.1 h), val h]
  · rw [if_neg (fun hc => h (key.2 hc))]
theorem sum_bd : ∀ (l : List Int), (∀ n ∈ l, -9223372036854775808 ≤ n ∧ n ≤ 9223372036854775807) → -(9223372036854775808 * (l.length : Int)) ≤ l.sum ∧ l.sum ≤ 9223372036854775808 * (l.length : Int)
  | [], _ => by simp
  | x :: r, h => by
    have h1 := h x (by simp)
    have h2 := sum_bd r (fun n hn => h n (List.mem_cons_of_mem _ hn))
    rw [List.sum_cons, List.length_cons]
    omega
theorem wrap_high (lo : Nat) (h : ¬ lo < 9223372036854775808) (h2 : lo < 18446744073709551616) : IntKind.i64.wrap (lo : Int) = (lo : Int) - 18446744073709551616 := by
  rw [IntKind.wrap_i64]
  omega
theorem IntsAt.cell {w : World} {a : Option Addr} {n c : Nat} {ns : List Int} (h : IntsAt w (.slice a n c) ns) (k : Nat) (hk : k < ns.length) : ∃ g o, a = some ⟨g, o, none⟩ ∧ w.cell? ⟨g, o + k, none⟩ = some (.int .i64 ns[k]) := by
  obtain ⟨a', c', h1, h2⟩ := h
  injection h1 with h1 _ _
  subst h1
  obtain ⟨g, o, h3, h4⟩ := h2 k hk
  rw [getD_at _ _ _ hk] at h4
  exact ⟨g, o, h3, h4⟩
set_option maxHeartbeats 2000000 in
theorem sum_any (v : Value) (l : List Int) (w : World) (hI : IntsAt w v l) (hl : l.length ≤ 1000000) (hb : ∀ n ∈ l, -9223372036854775808 ≤ n ∧ n ≤ 9223372036854775807) : Calls Tryz.prog 26 #[v] w fun e w' => e = .returned (.tuple #[.int .i64 (sumE l).1, .int .i64 (sumE l).2]) ∧ w = w' := by
  have HI := Lib.hid hI
  have HB := Lib.hid hb
  obtain ⟨a, c, rfl, -⟩ := hI
  clear hb
  go_enter Tryz.func26, Tryz.ntmps26
  go_wp2_with fail
  go_loopw [4, 5, 12] (fun hv lv iv wr => ∃ (k hi lo : Nat), k ≤ l.length ∧ iv = .int .i64 k ∧ hv = .int .u64 hi ∧ lv = .int .u64 lo ∧ Hid (Hl (l.take k).sum hi lo) ∧ wr = w) (fun _ _ iv _ => l.length - (intOf iv).toNat)
  case atStart => exact ⟨0, 0, 0, by omega, rfl, rfl, rfl, hl_start, rfl⟩
  case round =>
    obtain ⟨k, hi, lo, hk, rfl, rfl, rfl, HH, hwr⟩ := hrel
    have hwr' := hwr.symm
    subst hwr'
    clear hwr
    by_cases hlt : k < l.length
    · obtain ⟨g, o, rfl, y0⟩ := HI.out.cell k hlt
      have hz : (k : Int) < l.length := by omega
      have HS : Hid ((l.take (k + 1)).sum = (l.take k).sum + l[k]) := by
        show _ = _
        rw [List.take_succ_eq_append_getElem hlt, List.sum_append]
        simp
      obtain ⟨n1, n2⟩ := HB.out l[k] (List.getElem_mem hlt)
      generalize l[k] = n at *
      have hn := hl_step HH.out n1 n2
      have hu : IntKind.u64.wrap n = ((toU n : Nat) : Int) := by
        have e : IntKind.u64.wrap n = n % 18446744073709551616 := rfl
        rw [e]
        unfold toU
        omega
      have hsg : IntKind.u64.wrap (n / 9223372036854775808) = ((sgn n : Nat) : Int) := by
        have e : IntKind.u64.wrap (n / 9223372036854775808) = (n / 9223372036854775808) % 18446744073709551616 := rfl
        rw [e]
        unfold sgn
        by_cases h : n < 0
        · rw [if_pos h, show n / 9223372036854775808 = -1 from by omega]; rfl
        · rw [if_neg h, show n / 9223372036854775808 = 0 from by omega]; rfl
      have hc1 : (lo + toU n) / 18446744073709551616 ≤ 1 := by
        have h1 := toU_lt n
        have h2 := HH.out.2.1
        omega
      have ADD0 := add64_zero lo (toU n)
      generalize (lo + toU n) / 18446744073709551616 = cy at *
      generalize (lo + toU n) % 18446744073709551616 = r at *
      have ADD1 := fun W => add64_run hi (sgn n) cy hc1 W
      generalize (hi + sgn n + cy) / 18446744073709551616 = z2 at *
      generalize (hi + sgn n + cy) % 18446744073709551616 = z at *
      have HN : Hid (Hl (l.take (k + 1)).sum z r) := by rw [HS.out]; exact hn
      clear hn n1 n2 hc1 HS HH
      go_wp2_with fail
      go_roundw
      case rel => exact ⟨k + 1, z, r, by omega, by go_num, rfl, rfl, HN.out, by trivial⟩
      case measure => simp [intOf]; omega
    · obtain rfl : k = l.length := by omega
      have HL := HH.out
      rw [List.take_length] at HL
      have hsm := sum_bd l HB.out
      obtain ⟨f1, f2⟩ := hl_end HL (by omega) (by omega)
      have h2 := HL.2.1
      have hou : IntKind.i64.wrap (lo : Int) = out64 lo := by
        unfold out64
        by_cases h : lo < 9223372036854775808
        · rw [if_pos h]; exact IntWalk.i64_in _ (by omega)
        · rw [if_neg h]
          exact wrap_high lo h h2
      have hsg : IntKind.u64.wrap (out64 lo / 9223372036854775808) = ((sgn (out64 lo) : Nat) : Int) := by
        have e : IntKind.u64.wrap (out64 lo / 9223372036854775808) = (out64 lo / 9223372036854775808) % 18446744073709551616 := rfl
        rw [e]
        unfold sgn out64
        by_cases h : lo < 9223372036854775808
        · rw [if_pos h, if_neg (by omega), show (lo : Int) / 9223372036854775808 = 0 from by omega]; rfl
        · rw [if_neg h, if_pos (by omega), show ((lo : Int) - 18446744073709551616) / 9223372036854775808 = -1 from by omega]; rfl
      generalize out64 lo = ou at *
      generalize sgn ou = sg at *
      clear hlt HH HL hsm h2
      by_cases hq : hi = sg
      · have F := Lib.hid (f1 hq)
        have hne : (((hi : Nat) : Int) != ((sg : Nat) : Int)) = false := by rw [hq]; exact bne_self_eq_false _
        clear f1 f2 hq
        go_wp2_with fail
        go_ret2
        exact ⟨by rw [F.out]; rfl, by trivial⟩
      · have F := Lib.hid (f2 hq)
        have hne : (((hi : Nat) : Int) != ((sg : Nat) : Int)) = true := by rw [bne_iff_ne]; omega
        clear f1 f2
        go_wp2_with fail
        go_ret2
        exact ⟨by rw [F.out]; rfl, by trivial⟩
end Go.Proofs.YtecbnhmnhcpcmaaGreatDoor
