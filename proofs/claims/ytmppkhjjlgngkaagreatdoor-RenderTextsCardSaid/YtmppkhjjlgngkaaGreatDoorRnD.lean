/- The walks of strconv.FormatUint at base 10, and of render's told. -/
import Derived.Test.YtmppkhjjlgngkaaGreatDoorCivT
import Derived.Test.YtmppkhjjlgngkaaGreatDoorRnC
import Derived.Laws.AppendOwn
import Derived.Laws.OwnMore
import Derived.WalkLawsBesides
namespace Go.Proofs.YtmppkhjjlgngkaaGreatDoor
open Go.RowKit Civ Ren Go.Sort
set_option linter.unusedVariables false
set_option linter.unusedSimpArgs false
theorem zero_row (w : World) (T : TypeId) (nd : Nat) (hs : nd ≤ 24) : Holds (fun (b : UInt8) => Value.int .u8 (b.toNat : Int)) (w.alloc (.cells Lib.zeros24 T)) w.heap.size 0 (Array.replicate nd (0 : UInt8)) := fun j hj => by
  have hj' : j < nd := by simpa using hj
  refine ⟨?_, World.frozen?_alloc_new _ _ _ _⟩
  rw [World.cell?_alloc_new, Lib.zeros24_at _ (by omega), getElem!_pos _ j hj]
  simp
set_option maxHeartbeats 6400000 in
set_option maxRecDepth 100000 in
theorem fuint_in (u : Nat) (hu : u ≤ 4294967295) (w : World) (htab : Lib.TabIs Tryz.prog w "internal/strconv.uint64pow10" .u64 Lib.pow10Tab) :
    Calls Tryz.prog 41 #[.int .u64 u, .int .i64 10] w fun e w' => e = .returned (.string ⟨(Lib.decDigits u).toArray⟩) ∧ Below w.heap.size w w' := by
  by_cases hs : u < 100
  · have hw : IntKind.i64.wrap (u : Int) = u := IntWalk.i64_in _ (by omega)
    go_enter Tryz.func41, Tryz.ntmps41
    go_wp2_with fail
    refine (Tryz.internal_strconv_small u hs w).mono ?_
    rintro e w' ⟨rfl, rfl⟩
    go_wp2_with fail
    go_ret
    exact ⟨rfl, Below.refl _ _⟩
  · have hu1 : 1 ≤ u := by omega
    have hu64 : u < 18446744073709551616 := by omega
    have hnd20 : Lib.nDigits u ≤ 20 := by have := Lib.numDigits_eq u hu1 hu64; split at this <;> omega
    have hal : Tryz.prog.arrayLen 94 = 24 := by kernel_rfl
    have hsl : ∀ W, (Instr.sliceAt 94 (.pointer (some ⟨w.heap.size, 0, none⟩)) none (some (.int .i64 (Lib.nDigits u : Int))) none).run Tryz.prog W = .ok (.slice (some ⟨w.heap.size, 0, none⟩) (Lib.nDigits u) 24) W := fun W => by
      rw [run_sliceAt_array_h W 94 ⟨w.heap.size, 0, none⟩ (by simp [Program.arrayLen, Program.elem, Tryz.underlying94]) .i64 (Lib.nDigits u : Int) (by omega) (by rw [hal]; omega)]
      go_simp
      first | done | omega
    have hH0 := zero_row w 94 (Lib.nDigits u) (by omega)
    have hfmt := Tryz.internal_strconv_formatBase10 w.heap.size 0 24 u (Array.replicate (Lib.nDigits u) 0) (w.alloc (.cells Lib.zeros24 94)) hH0 (by rw [Array.size_replicate]; exact Lib.lt_pow_nDigits u) hu64 (by rw [Array.size_replicate]; omega)
    rw [Array.size_replicate] at hfmt
    have HH0 := Lib.hid hH0
    have HF := Lib.hid hfmt
    clear hH0 hal hfmt
    go_enter Tryz.func41, Tryz.ntmps41
    go_wp2_with fail
    refine (Tryz.internal_strconv_numDigits u hu1 hu64 _ (Lib.tabIs_alloc htab _)).mono ?_
    rintro e w' ⟨rfl, rfl⟩
    go_wp2_with fail
    refine HF.out.mono ?_
    rintro e w' ⟨rfl, k, v', dk, rfl, hF⟩
    have hcv : (convert 76 9 (.slice (some ⟨w.heap.size, 0, none⟩) (Lib.nDigits u) 24)).run Tryz.prog ((putRow (fun (b : UInt8) => Value.int .u8 (b.toNat : Int)) (w.alloc (.cells Lib.zeros24 94)) w.heap.size 0 dk).drewN k) = .ok (.string ⟨(Lib.decDigits u).toArray⟩) ((putRow (fun (b : UInt8) => Value.int .u8 (b.toNat : Int)) (w.alloc (.cells Lib.zeros24 94)) w.heap.size 0 dk).drewN k) := by
      have h := run_convert_bytes_back (P := Tryz.prog) ((putRow (fun (b : UInt8) => Value.int .u8 (b.toNat : Int)) (w.alloc (.cells Lib.zeros24 94)) w.heap.size 0 dk).drewN k) 76 9 5 ⟨w.heap.size, 0, none⟩ 24 (Lib.decDigits u) Tryz.underlying76 Tryz.underlying5 Tryz.underlying9 (fun j hj => by
        rw [Lib.row_is_numeral hF j hj, Lib.add_plain, World.cell?_drewN]
        exact cell?_putRow (fun (b : UInt8) => Value.int .u8 (b.toNat : Int)) _ w.heap.size 0 _ dk HH0.out (by rw [hF.size, Array.size_replicate]) j (by rw [hF.size]; rw [Lib.decDigits_length] at hj; exact hj))
      rw [Lib.decDigits_length] at h
      exact h
    have hbel : Below w.heap.size w ((putRow (fun (b : UInt8) => Value.int .u8 (b.toNat : Int)) (w.alloc (.cells Lib.zeros24 94)) w.heap.size 0 dk).drewN k) := by
      rw [alloc_eq_grow]
      obtain ⟨os', _, e⟩ := putRow_grow_new (fun (b : UInt8) => Value.int .u8 (b.toNat : Int)) w #[.cells Lib.zeros24 94] w.heap.size 0 dk (Nat.le_refl _)
      rw [e]
      exact Lib.below_grow _ w (Nat.le_refl _) k os'
    have HB := Lib.hid hbel
    clear hbel
    go_wp2_with fail
    go_ret
    exact ⟨rfl, HB.out⟩
abbrev Pow (w : World) : Prop := Lib.TabIs Tryz.prog w "internal/strconv.uint64pow10" .u64 Lib.pow10Tab
theorem fuint_any (u : Nat) (hu : u ≤ 4294967295) (w : World) (htab : Pow w) :
    Calls Tryz.prog 22 #[.int .u64 u, .int .i64 10] w fun e w' => e = .returned (.string ⟨(Lib.decDigits u).toArray⟩) ∧ Below w.heap.size w w' := by
  go_enter Tryz.func22, Tryz.ntmps22
  go_wp2_with fail
  refine (fuint_in u hu w htab).mono ?_
  rintro e w' ⟨rfl, hb⟩
  have HB := Lib.hid hb
  clear hb
  go_wp2_with fail
  go_ret
  exact ⟨rfl, HB.out⟩
theorem fint_any (n : Int) (hn : Acct.inInt n) (w : World) (htab : Pow w) :
    Calls Tryz.prog 23 #[.int .i64 n, .int .i64 10] w fun e w' => e = .returned (.string ⟨(Lib.itoa n).toArray⟩) ∧ Below w.heap.size w w' :=
  (Tryz.strconv_FormatInt_10 n hn.1 hn.2 w htab).mono fun _ _ ⟨he, k, os, hw⟩ => ⟨he, hw ▸ Lib.below_grow _ w (Nat.le_refl _) k os⟩
/-- what is told: a word, a number -/
inductive Tok where
  | s (b : List UInt8)
  | u (n : Int)
  | i (n : Int)
def Tok.val : Tok → Value
  | .s b => .iface 9 (.string ⟨b.toArray⟩)
  | .u n => .iface 22 (.int .u32 n)
  | .i n => .iface 2 (.int .i64 n)
def Tok.txt : Tok → List UInt8
  | .s b => b
  | .u n => Lib.itoa n
  | .i n => Lib.itoa n
def Tok.ok : Tok → Prop
  | .s b => b.length ≤ 100
  | .u n => u32 n
  | .i n => Acct.inInt n
theorem Tok.len {t : Tok} (h : t.ok) : t.txt.length ≤ 100 := by
  cases t with
  | s b => exact h
  | u n =>
    have := itoa_len n (u32_int h)
    show (Lib.itoa n).length ≤ 100
    omega
  | i n =>
    have := itoa_len n h
    show (Lib.itoa n).length ≤ 100
    omega
theorem infoS : (Tryz.prog.info? 9).map (fun i => (i.zero, i.size, i.bytes)) = some (some (.string ⟨#[]⟩), 1, 16) := by kernel_rfl
theorem oneS (b : ByteArray) : ∀ u : Value, u ∈ [Value.string b] → u.oneCell' = true := by
  intro u hu
  simp only [List.mem_cons, List.not_mem_nil, or_false] at hu
  subst hu; rfl
theorem sp_length : ∀ (n : Nat) (xs : List Bs), xs.length ≤ n → (∀ x ∈ xs, x.length ≤ 100) → (sp xs).length ≤ 101 * n
  | n, [], _, _ => by simp [sp]
  | n, [x], h, hx => by have := hx x (by simp); simp [sp] at h ⊢; omega
  | 0, x :: y :: r, h, hx => by simp at h
  | n + 1, x :: y :: r, h, hx => by
    have h1 := hx x (by simp)
    have h2 := sp_length n (y :: r) (by simp at h ⊢; omega) (fun z hz => hx z (List.mem_cons_of_mem _ hz))
    rw [sp, List.length_append, List.length_cons]
    omega
def txts (xs : List Tok) : List Value := xs.map fun t => .string ⟨t.txt.toArray⟩
theorem ta_ss (v : Value) (w : World) : (Instr.typeAssert (.iface 9 v) 20 9 true).run Tryz.prog w = .ok (.tuple #[v, .bool true]) w := by kernel_rfl
theorem ta_us (v : Value) (w : World) : (Instr.typeAssert (.iface 22 v) 20 9 true).run Tryz.prog w = .ok (.tuple #[.string ⟨#[]⟩, .bool false]) w := by kernel_rfl
theorem ta_uu (v : Value) (w : World) : (Instr.typeAssert (.iface 22 v) 20 22 true).run Tryz.prog w = .ok (.tuple #[v, .bool true]) w := by kernel_rfl
theorem ta_is (v : Value) (w : World) : (Instr.typeAssert (.iface 2 v) 20 9 true).run Tryz.prog w = .ok (.tuple #[.string ⟨#[]⟩, .bool false]) w := by kernel_rfl
theorem ta_iu (v : Value) (w : World) : (Instr.typeAssert (.iface 2 v) 20 22 true).run Tryz.prog w = .ok (.tuple #[.int .u32 0, .bool false]) w := by kernel_rfl
theorem ta_ii (v : Value) (w : World) : (Instr.typeAssert (.iface 2 v) 20 2 true).run Tryz.prog w = .ok (.tuple #[v, .bool true]) w := by kernel_rfl
set_option maxHeartbeats 4000000 in
set_option maxRecDepth 1000000 in
theorem told_any (xs : List Tok) (g cap : Nat) (w : World) (hE : Pow w) (h1 : 1 ≤ xs.length) (h10 : xs.length ≤ 10) (hok : ∀ t ∈ xs, t.ok) (hc : ∀ k, (h : k < xs.length) → w.cell? ⟨g, k, none⟩ = some xs[k].val) :
    Calls Tryz.prog 10 #[.slice (some ⟨g, 0, none⟩) xs.length cap] w fun e w' => e = .returned (.string ⟨(nl (xs.map Tok.txt)).toArray⟩) ∧ Below w.heap.size w w' := by
  have HC := Lib.hid hc
  have HK := Lib.hid hok
  have HE := Lib.hid hE
  clear hc hok hE
  obtain ⟨i0, hi, hz0, hz1, hz2⟩ := info_parts infoS
  go_enter Tryz.func10, Tryz.ntmps10
  go_wp2_with fail
  go_loopw [3, 11] (fun v i wr => ∃ k : Nat, k ≤ xs.length ∧ i = .int .i64 k ∧ Hid (wr.ownsRow w.heap.size 9 1 v (xs.take k).length (txts (xs.take k))) ∧ Hid (Below w.heap.size w wr)) (fun _ i _ => xs.length - (intOf i).toNat)
  case atStart => exact ⟨0, by omega, rfl, World.ownsRow_nil _ _ _ _, Below.refl _ _⟩
  case round =>
    obtain ⟨k, hk, rfl, HO, BR⟩ := hrel
    by_cases hlt : k < xs.length
    · have hc := stays BR.out (HC.out k hlt)
      have hz : (k : Int) < xs.length := by omega
      have hT : Hid (xs.take (k + 1) = xs.take k ++ [xs[k]]) := List.take_succ_eq_append_getElem hlt
      have hkk : (xs.take k).length = k := by rw [List.length_take]; omega
      have hokk := HK.out xs[k] (List.getElem_mem hlt)
      have HS := BR.out.size
      generalize xs[k] = x at *
      cases x with
      | s b =>
        simp only [Tok.val] at hc
        have t1 := ta_ss
        have O2 := HO
        have B2 := BR
        go_wp2_with (at_builtin; refine wpList_append_own _ rfl _ _ 51 rfl w.heap.size 9 i0 _ 1 16 Tryz.underlying51 hi hz0 hz1 hz2 rfl (by decide) _ _ _ rfl (O2.out.alloc _) ⟨wr.heap.size, 0, none⟩ 1 1 [.string ⟨b.toArray⟩] rfl rfl (new_cells _ _ _) (oneS _) (by unfold maxLen; omega) (by omega) (by have := B2.out.size; simp; omega) ?_)
        intro v' w3 hown3 hgrow3 _
        have B3 := Lib.hid (owned_below (O2.out.alloc _) (B2.out.alloc B2.out.size _) hgrow3)
        have O3 : Hid (w3.ownsRow w.heap.size 9 1 v' (xs.take (k + 1)).length (txts (xs.take (k + 1)))) := by
          rw [hT.out]
          unfold Hid txts
          rw [List.map_append, List.length_append, hkk]
          exact hown3
        clear hown3 hgrow3 O2 B2 HO BR
        go_wp2
        go_roundw
        case rel => exact ⟨k + 1, by omega, by go_num, O3, B3⟩
        case measure => simp [intOf]; omega
      | u n =>
        simp only [Tok.val] at hc
        have t1 := ta_us
        have t2 := ta_uu
        obtain ⟨n, rfl⟩ := Int.eq_ofNat_of_zero_le (show 0 ≤ n from hokk.1)
        have hn : n ≤ 4294967295 := by have := hokk.2; omega
        have hw : IntKind.u64.wrap (n : Int) = n := by rw [IntKind.wrap_u64]; omega
        go_wp2_with fail
        refine (fuint_any n hn _ (Lib.tabBelow_of_tabIs HE.out _ BR.out)).mono ?_
        rintro e w2 ⟨rfl, hb⟩
        have B2 := Lib.hid (onward hb BR.out)
        have O2 := Lib.hid (ownsRow_below HO.out hb)
        clear hb hc
        go_wp2_with (at_builtin; refine wpList_append_own _ rfl _ _ 51 rfl w.heap.size 9 i0 _ 1 16 Tryz.underlying51 hi hz0 hz1 hz2 rfl (by decide) _ _ _ rfl (O2.out.alloc _) ⟨w2.heap.size, 0, none⟩ 1 1 [.string ⟨(Lib.decDigits n).toArray⟩] rfl rfl (new_cells _ _ _) (oneS _) (by unfold maxLen; omega) (by omega) (by have := B2.out.size; simp; omega) ?_)
        intro v' w3 hown3 hgrow3 _
        have B3 := Lib.hid (owned_below (O2.out.alloc _) (B2.out.alloc B2.out.size _) hgrow3)
        have O3 : Hid (w3.ownsRow w.heap.size 9 1 v' (xs.take (k + 1)).length (txts (xs.take (k + 1)))) := by
          rw [hT.out]
          unfold Hid txts
          rw [List.map_append, List.length_append, hkk]
          rw [← Lib.itoa_nonneg] at hown3
          exact hown3
        clear hown3 hgrow3 O2 B2 HO BR
        go_wp2
        go_roundw
        case rel => exact ⟨k + 1, by omega, by go_num, O3, B3⟩
        case measure => simp [intOf]; omega
      | i n =>
        simp only [Tok.val] at hc
        have t1 := ta_is
        have t2 := ta_iu
        have t3 := ta_ii
        go_wp2_with fail
        refine (fint_any n hokk _ (Lib.tabBelow_of_tabIs HE.out _ BR.out)).mono ?_
        rintro e w2 ⟨rfl, hb⟩
        have B2 := Lib.hid (onward hb BR.out)
        have O2 := Lib.hid (ownsRow_below HO.out hb)
        clear hb hc
        go_wp2_with (at_builtin; refine wpList_append_own _ rfl _ _ 51 rfl w.heap.size 9 i0 _ 1 16 Tryz.underlying51 hi hz0 hz1 hz2 rfl (by decide) _ _ _ rfl (O2.out.alloc _) ⟨w2.heap.size, 0, none⟩ 1 1 [.string ⟨(Lib.itoa n).toArray⟩] rfl rfl (new_cells _ _ _) (oneS _) (by unfold maxLen; omega) (by omega) (by have := B2.out.size; simp; omega) ?_)
        intro v' w3 hown3 hgrow3 _
        have B3 := Lib.hid (owned_below (O2.out.alloc _) (B2.out.alloc B2.out.size _) hgrow3)
        have O3 : Hid (w3.ownsRow w.heap.size 9 1 v' (xs.take (k + 1)).length (txts (xs.take (k + 1)))) := by
          rw [hT.out]
          unfold Hid txts
          rw [List.map_append, List.length_append, hkk]
          exact hown3
        clear hown3 hgrow3 O2 B2 HO BR
        go_wp2
        go_roundw
        case rel => exact ⟨k + 1, by omega, by go_num, O3, B3⟩
        case measure => simp [intOf]; omega
    · obtain rfl : k = xs.length := by omega
      have ho := HO.out
      rw [List.take_length] at ho
      obtain ⟨g', cap', cur, rfl, hg1, hg2, hg3, hg4, hg5, hg6⟩ := own_open ho h1
      have hlen : (txts xs).length = xs.length := by unfold txts; rw [List.length_map]
      have hL : (Lib.join ((xs.map fun t => (⟨t.txt.toArray⟩ : ByteArray)).map (·.data.toList)) [32]) = sp (xs.map Tok.txt) := by
        rw [join_sp, List.map_map]
        rfl
      have hsl := sp_length xs.length (xs.map Tok.txt) (by simp) (fun x hx => by
        obtain ⟨t, ht, rfl⟩ := List.mem_map.1 hx
        exact Tok.len (HK.out t ht))
      have hJ := Tryz.strings_Join g' 0 cap' (xs.map fun t => (⟨t.txt.toArray⟩ : ByteArray)) ⟨#[32]⟩ wr (fun j x hx => by
        rw [Nat.zero_add, cell_of_row hg2]
        have e : cur[j]? = (cur.toList.take (xs.length * 1))[j]? := by
          have hj : j < xs.length := by
            have := (List.getElem?_eq_some_iff.1 hx).1
            simpa using this
          rw [List.getElem?_take_of_lt (by omega)]
          simp
        rw [e, hg6]
        unfold txts
        rw [List.getElem?_map] at hx ⊢
        cases hxx : xs[j]? with
        | none => rw [hxx] at hx; cases hx
        | some t => rw [hxx] at hx; simp at hx; subst hx; rfl) (lt_of_block hg2) (by simp; omega) (by simp; omega) (by
        rw [show (⟨#[32]⟩ : ByteArray).data.toList = [32] from rfl, hL]
        omega)
      rw [show (⟨#[32]⟩ : ByteArray).data.toList = [32] from rfl, hL, List.length_map] at hJ
      have HJ := Lib.hid hJ
      have hadd : (⟨(sp (xs.map Tok.txt)).toArray⟩ : ByteArray) ++ ⟨#[10]⟩ = ⟨(nl (xs.map Tok.txt)).toArray⟩ := by
        unfold nl
        simp [ByteArray.ext_iff]
      have hl' : ¬ 9223372036854775807 < (sp (xs.map Tok.txt)).length + 1 := by omega
      clear hJ hg2 hg6 ho hL HO hlt HC HK
      go_wp2_with fail
      refine HJ.out.mono ?_
      rintro e w2 ⟨rfl, hb⟩
      have B2 := Lib.hid (onward hb BR.out)
      clear hb
      go_wp2_with fail
      go_ret
      exact ⟨rfl, B2.out⟩
theorem told2 (a b : Tok) (g : Nat) (w : World) (hE : Pow w) (ha : a.ok) (hb : b.ok) (h : w.heap[g]? = some (.cells #[a.val, b.val] 20 (0, 0))) :
    Calls Tryz.prog 10 #[.slice (some ⟨g, 0, none⟩) 2 2] w fun e w' => e = .returned (.string ⟨(nl [a.txt, b.txt]).toArray⟩) ∧ Below w.heap.size w w' :=
  told_any [a, b] g 2 w hE (by simp) (by simp) (by simp [ha, hb]) (fun k hk => by
    rw [cell_of_row h]
    have hk : k = 0 ∨ k = 1 := by simp at hk; omega
    rcases hk with rfl | rfl <;> rfl)
theorem told6 (a b c d e f : Tok) (g : Nat) (w : World) (hE : Pow w) (ha : a.ok) (hb : b.ok) (hc : c.ok) (hd : d.ok) (he : e.ok) (hf : f.ok) (h : w.heap[g]? = some (.cells #[a.val, b.val, c.val, d.val, e.val, f.val] 20 (0, 0))) :
    Calls Tryz.prog 10 #[.slice (some ⟨g, 0, none⟩) 6 6] w fun e' w' => e' = .returned (.string ⟨(nl [a.txt, b.txt, c.txt, d.txt, e.txt, f.txt]).toArray⟩) ∧ Below w.heap.size w w' :=
  told_any [a, b, c, d, e, f] g 6 w hE (by simp) (by simp) (by simp [ha, hb, hc, hd, he, hf]) (fun k hk => by
    rw [cell_of_row h]
    have hk : k = 0 ∨ k = 1 ∨ k = 2 ∨ k = 3 ∨ k = 4 ∨ k = 5 := by simp at hk; omega
    rcases hk with rfl | rfl | rfl | rfl | rfl | rfl <;> rfl)
end Go.Proofs.YtmppkhjjlgngkaaGreatDoor
