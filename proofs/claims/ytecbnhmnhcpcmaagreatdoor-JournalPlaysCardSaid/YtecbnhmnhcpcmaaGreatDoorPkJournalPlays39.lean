/- The walk of the reference's Balance. The walks of a reader of bytes (wire): New, sum, and what is taken. -/
import Derived.Test.YtecbnhmnhcpcmaaGreatDoorPkJournalPlays38
import Derived.Test.YtecbnhmnhcpcmaaGreatDoorPkJournalPlays37
/-! The walk of the reference's Balance. -/
namespace Go.Proofs.YtecbnhmnhcpcmaaGreatDoor
open Go.RowKit Go.WideMaps Go.Maps
set_option linter.unusedVariables false
set_option linter.unusedSimpArgs false
set_option maxRecDepth 100000
set_option maxHeartbeats 2000000 in
theorem rbal_any {B jp : Nat} {rv : Value} {RL : List Po} (s : ByteArray) (w : World) (hR : JR B w jp rv RL) (hn : RL.length ≤ 100) (hq : ∀ p ∈ RL, p.ps.length ≤ 40) : Calls Tryz.prog 14 #[.pointer (some ⟨jp, 0, none⟩), .string s] w fun e w' => e = .returned (.int .i64 (wrap64 (ram RL s))) ∧ Below w.heap.size w w' := by
  have HR := Lib.hid hR
  have J0 := Lib.hid hR.box
  obtain ⟨ra, rc, rfl⟩ := jown_form hR.list
  have RW := Lib.hid hR.rows
  have HQ := Lib.hid hq
  clear hR hq
  go_enter Tryz.func14, Tryz.ntmps14
  go_wp2_with fail
  go_loopw [5, 6] (fun nv iv wr => ∃ i : Nat, i ≤ RL.length ∧ iv = .int .i64 i ∧ nv = .int .i64 (wrap64 (ram (RL.take i) s)) ∧ Hid (Below w.heap.size w wr)) (fun _ iv _ => RL.length - (intOf iv).toNat)
  case atStart => exact ⟨0, by omega, rfl, by simp [ram, wrap64], Below.refl _ _⟩
  case round =>
    obtain ⟨i, hi, rfl, rfl, BR⟩ := hrel
    have j0 : wr.cell? ⟨jp, 0, none⟩ = some (.slice ra RL.length rc) := by rw [cell_of_row (stays_block BR.out J0.out)]; rfl
    by_cases hlt : i < RL.length
    · have hz : (i : Int) < (RL.length : Int) := by omega
      obtain ⟨g, o, rfl, -, -, -, y3⟩ := po_cells (RW.out.below BR.out) i hlt
      have HP : Hid (RL[i]? = some RL[i]) := List.getElem?_eq_getElem hlt
      have HO : Hid (OwnP w B RL[i].lv RL[i].ps) := HR.out.parts _ (List.getElem_mem hlt)
      have hq := HQ.out _ (List.getElem_mem hlt)
      generalize RL[i] = p at *
      obtain ⟨ps, pt, pten, L, lv⟩ := p
      dsimp only at y3 HO hq
      obtain ⟨la, lc, rfl⟩ := jown_form HO.out
      have LW := Lib.hid HO.out.rows
      have KX : Hid (∀ W, Below wr.heap.size wr W → W.cell? ⟨jp, 0, none⟩ = some (.slice (some ⟨g, o, none⟩) RL.length rc) ∧ W.cell? ⟨g, o + i * 4 + 3, none⟩ = some (.slice la L.length lc)) := by
        have q0 := j0
        have q1 := y3
        exact fun W hb => ⟨stays hb q0, stays hb q1⟩
      have HST : Hid (ram (RL.take (i + 1)) s = ram (RL.take i) s + amt L s) := ram_take HP.out s
      generalize ram (RL.take i) s = x at *
      go_wp2_with fail
      clear j0 y3
      go_loopw [5, 7] (fun nv kv wv => ∃ k : Nat, k ≤ L.length ∧ kv = .int .i64 k ∧ nv = .int .i64 (wrap64 (x + amt (L.take k) s)) ∧ Hid (Below wr.heap.size wr wv)) (fun _ kv _ => L.length - (intOf kv).toNat)
      case atStart => exact ⟨0, by omega, rfl, by simp [amt], Below.refl _ _⟩
      case round =>
        obtain ⟨k, hk, rfl, rfl, BV⟩ := hrel
        obtain ⟨j0, y3⟩ := KX.out _ BV.out
        have BVw := Lib.hid (onward BV.out BR.out)
        by_cases hkl : k < L.length
        · have hzk : (k : Int) < (L.length : Int) := by omega
          obtain ⟨g', o', rfl, x0, x1⟩ := pt_cells (LW.out.below BVw.out) k hkl
          have HSK := Lib.hid (amt_take (List.getElem?_eq_getElem hkl) s)
          generalize L[k] = q at *
          obtain ⟨s', n'⟩ := q
          dsimp only at x0 x1 HSK
          generalize amt (L.take k) s = y at *
          by_cases hss : s' = s
          · subst hss
            rw [if_pos rfl] at HSK
            go_wp2_with fail
            go_roundw
            case rel => exact ⟨k + 1, by omega, by go_num, by rw [HSK.out, ← Int.add_assoc]; exact congrArg _ (wrap64_add _ _), BV.out⟩
            case measure => simp [intOf]; omega
          · have hne := toList_ne hss
            rw [if_neg hss, Int.add_zero] at HSK
            go_wp2_with fail
            go_roundw
            case rel => exact ⟨k + 1, by omega, by go_num, by rw [HSK.out], BV.out⟩
            case measure => simp [intOf]; omega
        · obtain rfl : k = L.length := by omega
          have dk : decide ((L.length : Int) < (L.length : Int)) = false := decide_eq_false (by omega)
          go_wp2_with fail
          go_roundw
          case rel => exact ⟨i + 1, by omega, by go_num, by rw [HST.out, List.take_length], BVw.out⟩
          case measure => simp [intOf]; omega
    · obtain rfl : i = RL.length := by omega
      have di : decide ((RL.length : Int) < (RL.length : Int)) = false := decide_eq_false (by omega)
      rw [List.take_length]
      go_wp2_with fail
      go_ret
      exact ⟨rfl, BR.out⟩
end Go.Proofs.YtecbnhmnhcpcmaaGreatDoor
/-! The walks of a reader of bytes (wire): New, sum, and what is taken. -/
namespace Go.Proofs.YtecbnhmnhcpcmaaGreatDoor
open Go.RowKit Go.WideMaps Go.Maps
set_option linter.unusedVariables false
set_option linter.unusedSimpArgs false
set_option maxRecDepth 100000
/-- a reader: what is left to be taken -/
def RdS (w : World) (rp : Nat) (bs : Bs) : Prop := ∃ a c, w.heap[rp]? = some (.cells #[.slice a bs.length c, .bool false] 178 (0, 0)) ∧ BytesAt 0 w (.slice a bs.length c) bs ∧ bs.length ≤ c ∧ c ≤ maxLen
theorem RdS.below {w w' : World} {rp : Nat} {bs : Bs} (h : RdS w rp bs) (hb : Below w.heap.size w w') : RdS w' rp bs := by
  obtain ⟨a, c, h1, h2, h3, h4⟩ := h
  exact ⟨a, c, stays_block hb h1, h2.below hb, h3, h4⟩
theorem infoByte : (Tryz.prog.info? 5).map (fun i => (i.zero, i.size, i.bytes)) = some (some (.int .u8 0), 1, 1) := by kernel_rfl
theorem own_bytes0 (w : World) : (w.alloc (.cells #[] 5)).ownsRow w.heap.size 5 1 (.slice (some ⟨w.heap.size, 0, none⟩) 0 0) 0 [] :=
  ⟨rfl, .inr ⟨w.heap.size, 0, #[], rfl, Nat.le_refl _, heap_alloc_new _ _, Nat.le_refl _, Nat.zero_le _, rfl, rfl⟩⟩
theorem own_room {w : World} {base : Nat} {a : Option Addr} {n c : Nat} {xs : List Value} (h : w.ownsRow base 5 1 (.slice a n c) n xs) : n ≤ c ∧ c ≤ maxLen := by
  obtain ⟨-, ⟨h1, h2⟩ | ⟨g, cap, cur, h1, -, -, h4, h5, -⟩⟩ := h
  · injection h1 with _ h1 h3
    omega
  · injection h1 with _ _ h1
    subst h1
    exact ⟨h4, h5⟩
set_option maxHeartbeats 1000000 in
theorem wnew_any {B : Nat} (v : Value) (bs : Bs) (w : World) (hB : BytesAt B w v bs) (hl : bs.length ≤ 1000000) (hne : 0 < bs.length) : Calls Tryz.prog 89 #[v] w fun e w' => ∃ rp, e = .returned (.pointer (some ⟨rp, 0, none⟩)) ∧ RdS w' rp bs ∧ Below w.heap.size w w' ∧ w.heap.size ≤ rp := by
  obtain ⟨i0, hi, hz0, hz1, hz2⟩ := info_parts infoByte
  have O0 := Lib.hid (own_bytes0 w)
  have B0 := Lib.hid (below_alloc w (.cells #[] 5))
  have H0 := hB.below (below_alloc w (.cells #[] 5))
  obtain ⟨a, c, rfl, hn, hx⟩ := hB
  cases a with
  | none =>
    obtain ⟨b, o, h3, _⟩ := hx 0 hne
    cases h3
  | some ad =>
    clear hn hx
    have HH := Lib.hid H0
    clear H0
    go_enter Tryz.func89, Tryz.ntmps89
    go_wp2_with (at_builtin; refine wpList_append_own _ rfl (.tmp 3) (.tmp 4) 61 rfl w.heap.size 5 i0 _ 1 1 Tryz.underlying61 hi hz0 hz1 hz2 rfl (by decide) _ _ _ rfl O0.out ad bs.length c (bytesV bs) rfl (by rw [bytesV_len, Nat.mul_one]) (bytes_src HH.out) (bytes_one bs) (by unfold maxLen; omega) (by omega) (by simp) ?_)
    intro v2 w2 hown2 hgrow2 _
    have B2 := Lib.hid (owned_below O0.out B0.out hgrow2)
    (try simp only [Nat.zero_add, List.nil_append] at hown2)
    obtain ⟨a2, c2, rfl⟩ := jown_form hown2
    obtain ⟨k1, k2⟩ := own_room hown2
    have BA := Lib.hid (BytesAt.of_own (B := 0) hown2)
    have BZ := Lib.hid (below_alloc w2 (.cells #[.slice a2 bs.length c2, .bool false] 178))
    have HZ := Lib.hid (alloc_block w2 #[.slice a2 bs.length c2, .bool false] 178 (0, 0))
    have hs := B2.out.size
    clear hown2 hgrow2 O0 B0
    go_wp2_with fail
    go_ret
    exact ⟨_, rfl, ⟨a2, c2, HZ.out, BA.out.below BZ.out, k1, k2⟩, onward BZ.out B2.out, hs⟩
set_option maxHeartbeats 1000000 in
theorem wsum_any {B : Nat} (v : Value) (bs : Bs) (w : World) (hB : BytesAt B w v bs) (hl : bs.length ≤ 8) : Calls Tryz.prog 92 #[v] w fun e w' => e = .returned (.int .u64 (unbig bs : Nat)) ∧ w = w' := by
  have HB := Lib.hid hB
  obtain ⟨a, c, rfl⟩ := hB.form
  clear hB
  go_enter Tryz.func92, Tryz.ntmps92
  go_wp2_with fail
  go_loopw [3, 8] (fun nv iv wr => ∃ k : Nat, k ≤ bs.length ∧ iv = .int .i64 k ∧ nv = .int .u64 (unbig (bs.take k) : Nat) ∧ wr = w) (fun _ iv _ => bs.length - (intOf iv).toNat)
  case atStart => exact ⟨0, by omega, rfl, rfl, rfl⟩
  case round =>
    obtain ⟨k, hk, rfl, rfl, hwr⟩ := hrel
    have hwr' := hwr.symm
    subst hwr'
    clear hwr
    by_cases hlt : k < bs.length
    · have hz : (k : Int) < (bs.length : Int) := by omega
      obtain ⟨g, o, rfl, x0⟩ := HB.out.cell_at k hlt
      have hs := unbig_snoc (bs.take k) bs[k]
      have ht : bs.take (k + 1) = bs.take k ++ [bs[k]] := List.take_succ_eq_append_getElem hlt
      have hu := unbig_lt (bs.take k)
      have hl2 : (bs.take k).length = k := by rw [List.length_take]; omega
      rw [hl2] at hu
      rw [← ht] at hs
      have hx := (bs[k]).toNat_lt
      generalize unbig (bs.take k) = u at *
      generalize bs[k] = x at *
      have hu2 : u < 72057594037927936 := by
        have h7 : 256 ^ k ≤ 256 ^ 7 := Nat.pow_le_pow_right (by omega) (by omega)
        have h8 : (256 : Nat) ^ 7 = 72057594037927936 := by decide
        omega
      have HS : Hid (unbig (bs.take (k + 1)) = u * 256 + x.toNat) := hs
      obtain ⟨y, hy⟩ : ∃ y, y = x.toNat := ⟨_, rfl⟩
      rw [← hy] at x0 HS hx
      clear hs ht hu hl2 hy
      go_wp2_with fail
      go_roundw
      case rel => exact ⟨k + 1, by omega, by go_num, congrArg (fun n : Nat => Value.int .u64 (n : Int)) HS.out.symm, trivial⟩
      case measure => simp [intOf]; omega
    · have dk : decide ((k : Int) < ((bs.length : Nat) : Int)) = false := decide_eq_false (by omega)
      have hkk : bs.take k = bs := List.take_of_length_le (by omega)
      rw [hkk]
      go_wp2_with fail
      go_ret
      exact ⟨rfl, rfl⟩
end Go.Proofs.YtecbnhmnhcpcmaaGreatDoor
