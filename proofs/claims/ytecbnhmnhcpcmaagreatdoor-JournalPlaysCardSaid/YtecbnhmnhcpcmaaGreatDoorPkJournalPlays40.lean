/- The walks of a reader's from, for numbers and for texts. The walks of a reader's Uint, Int, Text, Count. The walks of a reader's Uint, Int, Text, Count, and of small. What a reader takes of what was put: numbers, texts. -/
import Derived.Test.YtecbnhmnhcpcmaaGreatDoorPkJournalPlays39
/-! The walks of a reader's from, for numbers and for texts. -/
namespace Go.Proofs.YtecbnhmnhcpcmaaGreatDoor
open Go.RowKit Go.WideMaps Go.Maps
set_option linter.unusedVariables false
set_option linter.unusedSimpArgs false
set_option maxRecDepth 100000
theorem BytesAt.take {B : Nat} {w : World} {a : Option Addr} {m c n : Nat} {bs : Bs} (h : BytesAt B w (.slice a m c) bs) (hn : n ≤ bs.length) : BytesAt B w (.slice a n c) (bs.take n) := by
  obtain ⟨a', c', e, h0, hx⟩ := h
  injection e with e1 e2 e3
  subst e1; subst e3
  refine ⟨a, c, by rw [List.length_take, Nat.min_eq_left hn], h0, fun i hi => ?_⟩
  rw [List.length_take] at hi
  obtain ⟨b, o, e, hc, hr⟩ := hx i (by omega)
  refine ⟨b, o, e, ?_, hr⟩
  rw [hc, List.getD_eq_getElem?_getD, List.getD_eq_getElem?_getD, List.getElem?_take_of_lt (by omega)]
theorem BytesAt.drop {B : Nat} {w : World} {g o m c n : Nat} {bs : Bs} (h : BytesAt B w (.slice (some ⟨g, o, none⟩) m c) bs) (hn : n ≤ bs.length) (hc : bs.length ≤ c) : BytesAt B w (.slice (if c = n then some ⟨g, o, none⟩ else some ⟨g, o + n, none⟩) (bs.length - n) (c - n)) (bs.drop n) := by
  obtain ⟨a', c', e, h0, hx⟩ := h
  injection e with e1 e2 e3
  subst e1; subst e3
  by_cases hcn : c = n
  · rw [if_pos hcn]
    have h1 : bs.drop n = [] := List.drop_eq_nil_of_le (by omega)
    rw [h1]
    refine ⟨_, c - n, by rw [show bs.length - n = 0 from by omega]; rfl, fun e => (by cases e), fun i hi => by simp at hi⟩
  · rw [if_neg hcn]
    refine ⟨_, c - n, by rw [List.length_drop], fun e => (by cases e), fun i hi => ?_⟩
    rw [List.length_drop] at hi
    obtain ⟨b, o', e, hc2, hr⟩ := hx (n + i) (by omega)
    injection e with e
    injection e with e1 e2 _
    subst e1; subst e2
    refine ⟨g, o + n, rfl, ?_, hr⟩
    rw [Nat.add_assoc, hc2, List.getD_eq_getElem?_getD, List.getD_eq_getElem?_getD, List.getElem?_drop]
theorem rd_set {w : World} {rp : Nat} {bs : Bs} {g o c n : Nat} (h1 : w.heap[rp]? = some (.cells #[.slice (some ⟨g, o, none⟩) bs.length c, .bool false] 178 (0, 0))) (h2 : BytesAt 0 w (.slice (some ⟨g, o, none⟩) bs.length c) bs) (hn : n ≤ bs.length) (hc : bs.length ≤ c) (hm : c ≤ maxLen) :
    RdS (w.setCell ⟨rp, 0, none⟩ (.slice (if c = n then some ⟨g, o, none⟩ else some ⟨g, o + n, none⟩) (bs.length - n) (c - n))) rp (bs.drop n) := by
  refine ⟨if c = n then some ⟨g, o, none⟩ else some ⟨g, o + n, none⟩, c - n, ?_, ?_, by rw [List.length_drop]; omega, by omega⟩
  · rw [set_cells h1, List.length_drop]
    rfl
  · rw [List.length_drop]
    have hb := BytesAt.drop h2 hn hc
    refine hb.step ?_
    intro k hk hor
    have k2 := Kept.setCell (S := fun k => k = rp) w ⟨rp, 0, none⟩ (.slice (if c = n then some ⟨g, o, none⟩ else some ⟨g, o + n, none⟩) (bs.length - n) (c - n)) rfl
    refine k2.block k hk fun e => ?_
    rcases hor with h | ⟨cs, fr, h⟩
    · omega
    · rw [e, h1] at h
      injection h with h
      injection h with _ h _
      exact absurd h (by decide)
/-- what is taken and what is left -/
def TakeNum (rp n : Nat) (bs : Bs) (x : Value) (w : World) (e : Ending) (w' : World) : Prop := e = .returned x ∧ RdS w' rp (bs.drop n) ∧ w.grownBy w' (some rp)
set_option maxHeartbeats 1000000 in
theorem wfrom64_any {rp n : Nat} {bs : Bs} (w : World) (hR : RdS w rp bs) (hn : n ≤ bs.length) (h0 : 0 < n) (h8 : n ≤ 8) : Calls Tryz.prog 91 #[.pointer (some ⟨rp, 0, none⟩), .int .u64 n, .func (.func 92) #[] #[]] w (TakeNum rp n bs (.int .u64 (unbig (bs.take n) : Nat)) w) := by
  obtain ⟨a, c, h1, h2, h3, h4⟩ := hR
  obtain ⟨g, o, rfl, -⟩ := h2.cell_at 0 (by omega)
  have HS := Lib.hid (rd_set (n := n) h1 h2 hn h3 h4)
  have SX := Lib.hid (wsum_any _ (bs.take n) w (BytesAt.take h2 hn) (by rw [List.length_take]; omega))
  have hf : w.frozen? ⟨rp, 0, none⟩ = false := free_of_row h1
  have c0 : w.cell? ⟨rp, 0, none⟩ = some (.slice (some ⟨g, o, none⟩) bs.length c) := by rw [cell_of_row h1]; rfl
  have c1 : w.cell? ⟨rp, 1, none⟩ = some (.bool false) := by rw [cell_of_row h1]; rfl
  unfold maxLen at h4
  have d : decide (((bs.length : Nat) : Int) < (n : Int)) = false := decide_eq_false (by omega)
  have k1 : (n : Int) ≤ (c : Int) := by omega
  have k2 : (n : Int) ≤ (bs.length : Int) := by omega
  have GS := Lib.hid (grown_set (p := rp) (k := 0) (u := .slice (if c = n then some ⟨g, o, none⟩ else some ⟨g, o + n, none⟩) (bs.length - n) (c - n)) (Below.refl w.heap.size w))
  generalize unbig (bs.take n) = u at *
  obtain ⟨ad, had⟩ : ∃ ad, ad = (if c = n then some (⟨g, o, none⟩ : Addr) else some ⟨g, o + n, none⟩) := ⟨_, rfl⟩
  rw [← had] at HS GS
  have had' := had.symm
  clear h1 h2 had
  go_enter Tryz.func91, Tryz.ntmps91
  go_wp2_with fail
  refine SX.out.mono ?_
  rintro e w1 ⟨rfl, hw⟩
  have hw' := hw.symm
  subst hw'
  clear hw
  go_wp2_with fail
  go_ret
  exact ⟨rfl, HS.out, GS.out⟩
end Go.Proofs.YtecbnhmnhcpcmaaGreatDoor
/-! The walks of a reader's Uint, Int, Text, Count. -/
namespace Go.Proofs.YtecbnhmnhcpcmaaGreatDoor
open Go.RowKit Go.WideMaps Go.Maps
set_option linter.unusedVariables false
set_option linter.unusedSimpArgs false
set_option maxRecDepth 100000
set_option maxHeartbeats 1000000 in
theorem wint1_any {B : Nat} (v : Value) (bs : Bs) (w : World) (hB : BytesAt B w v bs) (hl : bs.length ≤ 8) : Calls Tryz.prog 94 #[v] w fun e w' => e = .returned (.int .i64 (wrap64 (unbig bs : Nat))) ∧ w = w' := by
  have SX := Lib.hid (wsum_any v bs w hB hl)
  generalize unbig bs = u at *
  clear hB
  go_enter Tryz.func94, Tryz.ntmps94
  go_wp2_with fail
  refine SX.out.mono ?_
  rintro e w1 ⟨rfl, hw⟩
  have hw' := hw.symm
  subst hw'
  clear hw SX
  go_wp2_with fail
  go_ret
  exact ⟨rfl, rfl⟩
set_option maxHeartbeats 1000000 in
theorem wfromI_any {rp n : Nat} {bs : Bs} (w : World) (hR : RdS w rp bs) (hn : n ≤ bs.length) (h0 : 0 < n) (h8 : n ≤ 8) : Calls Tryz.prog 93 #[.pointer (some ⟨rp, 0, none⟩), .int .u64 n, .func (.func 94) #[] #[]] w (TakeNum rp n bs (.int .i64 (wrap64 (unbig (bs.take n) : Nat))) w) := by
  obtain ⟨a, c, h1, h2, h3, h4⟩ := hR
  obtain ⟨g, o, rfl, -⟩ := h2.cell_at 0 (by omega)
  have HS := Lib.hid (rd_set (n := n) h1 h2 hn h3 h4)
  have SX := Lib.hid (wint1_any _ (bs.take n) w (BytesAt.take h2 hn) (by rw [List.length_take]; omega))
  have hf : w.frozen? ⟨rp, 0, none⟩ = false := free_of_row h1
  have c0 : w.cell? ⟨rp, 0, none⟩ = some (.slice (some ⟨g, o, none⟩) bs.length c) := by rw [cell_of_row h1]; rfl
  have c1 : w.cell? ⟨rp, 1, none⟩ = some (.bool false) := by rw [cell_of_row h1]; rfl
  unfold maxLen at h4
  have d : decide (((bs.length : Nat) : Int) < (n : Int)) = false := decide_eq_false (by omega)
  have k1 : (n : Int) ≤ (c : Int) := by omega
  have k2 : (n : Int) ≤ (bs.length : Int) := by omega
  have GS := Lib.hid (grown_set (p := rp) (k := 0) (u := .slice (if c = n then some ⟨g, o, none⟩ else some ⟨g, o + n, none⟩) (bs.length - n) (c - n)) (Below.refl w.heap.size w))
  generalize wrap64 (unbig (bs.take n) : Nat) = u at *
  obtain ⟨ad, had⟩ : ∃ ad, ad = (if c = n then some (⟨g, o, none⟩ : Addr) else some ⟨g, o + n, none⟩) := ⟨_, rfl⟩
  rw [← had] at HS GS
  have had' := had.symm
  clear h1 h2 had
  go_enter Tryz.func93, Tryz.ntmps93
  go_wp2_with fail
  refine SX.out.mono ?_
  rintro e w1 ⟨rfl, hw⟩
  have hw' := hw.symm
  subst hw'
  clear hw
  go_wp2_with fail
  go_ret
  exact ⟨rfl, HS.out, GS.out⟩
set_option maxHeartbeats 1000000 in
theorem wtext1_any (g o n c : Nat) (bs : Bs) (w : World) (hB : BytesAt 0 w (.slice (some ⟨g, o, none⟩) n c) bs) (hl : bs.length ≤ 1000) (hn : bs.length = n) : Calls Tryz.prog 97 #[.slice (some ⟨g, o, none⟩) n c] w fun e w' => ∃ v', e = .returned v' ∧ BytesAt 0 w' v' bs ∧ Below w.heap.size w w' := by
  obtain ⟨i0, hi, hz0, hz1, hz2⟩ := info_parts infoByte
  subst hn
  have HH := Lib.hid hB
  have O0 := Lib.hid (World.ownsRow_nil w w.heap.size 5 1)
  clear hB
  go_enter Tryz.func97, Tryz.ntmps97
  go_wp2_with (at_builtin; refine wpList_append_own _ rfl (.const (.slice none 0 0)) (.tmp 3) 61 rfl w.heap.size 5 i0 _ 1 1 Tryz.underlying61 hi hz0 hz1 hz2 rfl (by decide) _ _ _ rfl O0.out ⟨g, o, none⟩ bs.length c (bytesV bs) rfl (by rw [bytesV_len, Nat.mul_one]) (bytes_src HH.out) (bytes_one bs) (by unfold maxLen; omega) (by omega) (Nat.le_refl _) ?_)
  intro v2 w2 hown2 hgrow2 _
  (try simp only [Nat.zero_add, List.nil_append] at hown2)
  have B2 : Hid (Below w.heap.size w w2) := (Below.refl _ _).grown hgrow2 (Nat.le_refl _) (fun k hk => by cases hk)
  have BA := Lib.hid (BytesAt.of_own (B := 0) hown2)
  clear hown2 hgrow2 O0
  go_wp2_with fail
  go_ret
  exact ⟨_, rfl, BA.out, B2.out⟩
def TakeText (rp n : Nat) (bs : Bs) (w : World) (e : Ending) (w' : World) : Prop := ∃ v, e = .returned v ∧ BytesAt 0 w' v (bs.take n) ∧ RdS w' rp (bs.drop n) ∧ w.grownBy w' (some rp)
set_option maxHeartbeats 1000000 in
theorem wfromT_any {rp n : Nat} {bs : Bs} (w : World) (hR : RdS w rp bs) (hn : n ≤ bs.length) (h0 : 0 < n) (h8 : n ≤ 1000) : Calls Tryz.prog 96 #[.pointer (some ⟨rp, 0, none⟩), .int .u64 n, .func (.func 97) #[] #[]] w (TakeText rp n bs w) := by
  obtain ⟨a, c, h1, h2, h3, h4⟩ := hR
  obtain ⟨g, o, rfl, -⟩ := h2.cell_at 0 (by omega)
  have SX := Lib.hid (wtext1_any g o n c (bs.take n) w (BytesAt.take h2 hn) (by rw [List.length_take]; omega) (by rw [List.length_take, Nat.min_eq_left hn]))
  have c0 : w.cell? ⟨rp, 0, none⟩ = some (.slice (some ⟨g, o, none⟩) bs.length c) := by rw [cell_of_row h1]; rfl
  have c1 : w.cell? ⟨rp, 1, none⟩ = some (.bool false) := by rw [cell_of_row h1]; rfl
  have H1 := Lib.hid h1
  have H2 := Lib.hid h2
  have H4 := Lib.hid h4
  unfold maxLen at h4
  have d : decide (((bs.length : Nat) : Int) < (n : Int)) = false := decide_eq_false (by omega)
  have k1 : (n : Int) ≤ (c : Int) := by omega
  have k2 : (n : Int) ≤ (bs.length : Int) := by omega
  obtain ⟨ad, had⟩ : ∃ ad, ad = (if c = n then some (⟨g, o, none⟩ : Addr) else some ⟨g, o + n, none⟩) := ⟨_, rfl⟩
  have HAD := Lib.hid had
  clear h1 h2 had
  go_enter Tryz.func96, Tryz.ntmps96
  go_wp2_with fail
  refine SX.out.mono ?_
  rintro e w1 ⟨v1, rfl, hv, hb⟩
  have hr := stays_block hb H1.out
  have V1 := Lib.hid hv
  have HS := Lib.hid (rd_set (n := n) hr (H2.out.below hb) hn h3 H4.out)
  have GS := Lib.hid (grown_set (p := rp) (k := 0) (u := .slice (if c = n then some ⟨g, o, none⟩ else some ⟨g, o + n, none⟩) (bs.length - n) (c - n)) hb)
  have BV : Hid (BytesAt 0 (w1.setCell ⟨rp, 0, none⟩ (.slice (if c = n then some ⟨g, o, none⟩ else some ⟨g, o + n, none⟩) (bs.length - n) (c - n))) v1 (bs.take n)) := by
    refine hv.step ?_
    intro k hk hor
    have k2 := Kept.setCell (S := fun k => k = rp) w1 ⟨rp, 0, none⟩ (.slice (if c = n then some ⟨g, o, none⟩ else some ⟨g, o + n, none⟩) (bs.length - n) (c - n)) rfl
    refine k2.block k hk fun e => ?_
    rcases hor with h | ⟨cs, fr, h⟩
    · omega
    · rw [e, hr] at h
      injection h with h
      injection h with _ h _
      exact absurd h (by decide)
  rw [← HAD.out] at HS GS BV
  have had' := HAD.out.symm
  have hf : w1.frozen? ⟨rp, 0, none⟩ = false := free_of_row hr
  have e0 : w1.cell? ⟨rp, 0, none⟩ = some (.slice (some ⟨g, o, none⟩) bs.length c) := by rw [cell_of_row hr]; rfl
  clear hr hv hb SX c0 c1
  go_wp2_with fail
  go_ret
  exact ⟨_, rfl, BV.out, HS.out, GS.out⟩
end Go.Proofs.YtecbnhmnhcpcmaaGreatDoor
/-! The walks of a reader's Uint, Int, Text, Count, and of small. -/
namespace Go.Proofs.YtecbnhmnhcpcmaaGreatDoor
open Go.RowKit Go.WideMaps Go.Maps
set_option linter.unusedVariables false
set_option linter.unusedSimpArgs false
set_option maxRecDepth 100000
set_option maxHeartbeats 1000000 in
theorem rduint_any {rp : Nat} {bs : Bs} (w : World) (hR : RdS w rp bs) (hn : 8 ≤ bs.length) : Calls Tryz.prog 67 #[.pointer (some ⟨rp, 0, none⟩)] w (TakeNum rp 8 bs (.int .u64 (unbig (bs.take 8) : Nat)) w) := by
  have FX := Lib.hid (wfrom64_any w hR hn (by decide) (by decide))
  generalize unbig (bs.take 8) = u at *
  clear hR
  go_enter Tryz.func67, Tryz.ntmps67
  go_wp2_with fail
  refine FX.out.mono ?_
  rintro e w1 ⟨rfl, hr, hg⟩
  have HR := Lib.hid hr
  have HG := Lib.hid hg
  clear hr hg FX
  go_wp2_with fail
  go_ret
  exact ⟨rfl, HR.out, HG.out⟩
set_option maxHeartbeats 1000000 in
theorem rdint_any {rp : Nat} {bs : Bs} (w : World) (hR : RdS w rp bs) (hn : 8 ≤ bs.length) : Calls Tryz.prog 68 #[.pointer (some ⟨rp, 0, none⟩)] w (TakeNum rp 8 bs (.int .i64 (wrap64 (unbig (bs.take 8) : Nat))) w) := by
  have FX := Lib.hid (wfromI_any w hR hn (by decide) (by decide))
  generalize wrap64 (unbig (bs.take 8) : Nat) = u at *
  clear hR
  go_enter Tryz.func68, Tryz.ntmps68
  go_wp2_with fail
  refine FX.out.mono ?_
  rintro e w1 ⟨rfl, hr, hg⟩
  have HR := Lib.hid hr
  have HG := Lib.hid hg
  clear hr hg FX
  go_wp2_with fail
  go_ret
  exact ⟨rfl, HR.out, HG.out⟩
def TakeTxt (rp : Nat) (txt rest : Bs) (w : World) (e : Ending) (w' : World) : Prop := ∃ v, e = .returned v ∧ BytesAt 0 w' v txt ∧ RdS w' rp rest ∧ w.grownBy w' (some rp)
set_option maxHeartbeats 1000000 in
theorem rdtext_any {rp n : Nat} {bs : Bs} (w : World) (hR : RdS w rp bs) (h4 : 4 ≤ bs.length) (hu : unbig (bs.take 4) = n) (hn : n ≤ (bs.drop 4).length) (h0 : 0 < n) (h8 : n ≤ 1000) : Calls Tryz.prog 71 #[.pointer (some ⟨rp, 0, none⟩)] w (TakeTxt rp ((bs.drop 4).take n) ((bs.drop 4).drop n) w) := by
  have FX := Lib.hid (wfrom64_any w hR h4 (by decide) (by decide))
  rw [hu] at FX
  clear hR
  go_enter Tryz.func71, Tryz.ntmps71
  go_wp2_with fail
  refine FX.out.mono ?_
  rintro e w1 ⟨rfl, hr, hg⟩
  have HG := Lib.hid hg
  have TX := Lib.hid (wfromT_any w1 hr hn h0 h8)
  clear hr hg FX
  go_wp2_with fail
  refine TX.out.mono ?_
  rintro e w2 ⟨v, rfl, hv, hr, hg⟩
  have HV := Lib.hid hv
  have HR := Lib.hid hr
  have HG2 : Hid (w.grownBy w2 (some rp)) := HG.out.trans hg
  clear hv hr hg TX
  go_wp2_with fail
  go_ret
  exact ⟨_, rfl, HV.out, HR.out, HG2.out⟩
set_option maxHeartbeats 1000000 in
theorem rdcount_any {rp n : Nat} {bs : Bs} (w : World) (hR : RdS w rp bs) (h8 : 8 ≤ bs.length) (hu : unbig (bs.take 8) = n) (hn : n ≤ 16) : Calls Tryz.prog 70 #[.pointer (some ⟨rp, 0, none⟩), .int .i64 16] w (TakeNum rp 8 bs (.int .i64 n) w) := by
  have FX := Lib.hid (rduint_any w hR h8)
  rw [hu] at FX
  have d : decide ((16 : Int) < (n : Int)) = false := decide_eq_false (by omega)
  clear hR
  go_enter Tryz.func70, Tryz.ntmps70
  go_wp2_with fail
  refine FX.out.mono ?_
  rintro e w1 ⟨rfl, hr, hg⟩
  have HR := Lib.hid hr
  have HG := Lib.hid hg
  clear hr hg FX
  go_wp2_with fail
  go_ret
  exact ⟨rfl, HR.out, HG.out⟩
set_option maxHeartbeats 1000000 in
theorem rdsmall_any {rp n : Nat} {bs : Bs} (w : World) (hR : RdS w rp bs) (h8 : 8 ≤ bs.length) (hu : unbig (bs.take 8) = n) (hn : n < 4294967296) : Calls Tryz.prog 69 #[.agg #[.pointer (some ⟨rp, 0, none⟩)]] w (TakeNum rp 8 bs (.int .u32 n) w) := by
  obtain ⟨w1, hw1⟩ : ∃ W, W = w.alloc (.cells #[.pointer (some ⟨rp, 0, none⟩)] 129) := ⟨_, rfl⟩
  have hb1 : Below w.heap.size w w1 := by rw [hw1]; exact below_alloc _ _
  have O1 : w1.heap[w.heap.size]? = some (.cells #[.pointer (some ⟨rp, 0, none⟩)] 129 (0, 0)) := by rw [hw1]; exact alloc_block _ _ _ _
  have c0 : w1.cell? ⟨w.heap.size, 0, none⟩ = some (.pointer (some ⟨rp, 0, none⟩)) := by rw [cell_of_row O1]; rfl
  have FX := Lib.hid (rduint_any w1 (hR.below hb1) h8)
  have GB : Hid (w.grownBy w1 (some rp)) := ⟨hb1.os, hb1.tape, hb1.output, hb1.size, fun k hk _ => hb1.block k hk⟩
  rw [hu] at FX
  have d : decide ((4294967295 : Int) < (n : Int)) = false := decide_eq_false (by omega)
  clear hR hb1 O1
  go_enter Tryz.func69, Tryz.ntmps69
  go_upto_region 1 with fail
  rw [← hw1]
  clear hw1
  go_wp2_with fail
  refine FX.out.mono ?_
  rintro e w2 ⟨rfl, hr, hg⟩
  have HR := Lib.hid hr
  have HG : Hid (w.grownBy w2 (some rp)) := GB.out.trans hg
  clear hr hg FX c0
  go_wp2_with fail
  go_ret
  exact ⟨rfl, HR.out, HG.out⟩
end Go.Proofs.YtecbnhmnhcpcmaaGreatDoor
/-! What a reader takes of what was put: numbers, texts. -/
namespace Go.Proofs.YtecbnhmnhcpcmaaGreatDoor
open Go.RowKit Go.WideMaps Go.Maps
set_option linter.unusedVariables false
set_option linter.unusedSimpArgs false
set_option maxRecDepth 100000
theorem big_take (x : Nat) (r : Bs) : (big8 x ++ r).take 8 = big8 x ∧ (big8 x ++ r).drop 8 = r := ⟨rfl, rfl⟩
def Got (rp : Nat) (r : Bs) (x : Value) (w : World) (e : Ending) (w' : World) : Prop := e = .returned x ∧ RdS w' rp r ∧ w.grownBy w' (some rp)
theorem uint_at {rp x : Nat} {r : Bs} (w : World) (hR : RdS w rp (big8 x ++ r)) (hx : x < 18446744073709551616) : Calls Tryz.prog 67 #[.pointer (some ⟨rp, 0, none⟩)] w (Got rp r (.int .u64 x) w) := by
  have h := rduint_any w hR (by rw [List.length_append]; show 8 ≤ 8 + _; omega)
  rw [(big_take x r).1, unbig_big x hx] at h
  exact h
theorem int_at {rp : Nat} {t : Int} {r : Bs} (w : World) (hR : RdS w rp (big8 (toU t) ++ r)) (ht : Acct.inInt t) : Calls Tryz.prog 68 #[.pointer (some ⟨rp, 0, none⟩)] w (Got rp r (.int .i64 t) w) := by
  have h := rdint_any w hR (by rw [List.length_append]; show 8 ≤ 8 + _; omega)
  rw [(big_take _ r).1, unbig_big _ (toU_lt t), wrap_back t ht] at h
  exact h
theorem small_at {rp x : Nat} {r : Bs} (w : World) (hR : RdS w rp (big8 x ++ r)) (hx : x < 4294967296) : Calls Tryz.prog 69 #[.agg #[.pointer (some ⟨rp, 0, none⟩)]] w (Got rp r (.int .u32 x) w) :=
  rdsmall_any w hR (by rw [List.length_append]; show 8 ≤ 8 + _; omega) (by rw [(big_take x r).1, unbig_big x (by omega)]) hx
theorem count_at {rp x : Nat} {r : Bs} (w : World) (hR : RdS w rp (big8 x ++ r)) (hx : x ≤ 16) : Calls Tryz.prog 70 #[.pointer (some ⟨rp, 0, none⟩), .int .i64 16] w (Got rp r (.int .i64 x) w) :=
  rdcount_any w hR (by rw [List.length_append]; show 8 ≤ 8 + _; omega) (by rw [(big_take x r).1, unbig_big x (by omega)]) hx
theorem four_big (x : Nat) (hx : x < 256) : unbig ((big8 x).drop 4) = x := by
  unfold big8 unbig
  simp only [List.drop, List.foldl_cons, List.foldl_nil, byt_nat]
  omega
theorem text_at {rp : Nat} {s : ByteArray} {r : Bs} (w : World) (hR : RdS w rp ((big8 s.size).drop 4 ++ s.data.toList ++ r)) (h0 : 0 < s.size) (h1 : s.size ≤ 100) : Calls Tryz.prog 71 #[.pointer (some ⟨rp, 0, none⟩)] w (TakeTxt rp s.data.toList r w) := by
  have hl : s.data.toList.length = s.size := by rw [Array.length_toList]; rfl
  have e4 : ((big8 s.size).drop 4 ++ s.data.toList ++ r).take 4 = (big8 s.size).drop 4 := rfl
  have d4 : ((big8 s.size).drop 4 ++ s.data.toList ++ r).drop 4 = s.data.toList ++ r := rfl
  have h := rdtext_any (n := s.size) w hR (by rw [List.length_append, List.length_append]; show 4 ≤ 4 + _ + _; omega) (by rw [e4]; exact four_big _ (by omega)) (by rw [d4, List.length_append, hl]; omega) h0 (by omega)
  rw [d4, List.take_append_of_le_length (by omega), List.take_of_length_le (by omega), List.drop_append_of_le_length (by omega), List.drop_eq_nil_of_le (by omega), List.nil_append] at h
  exact h
theorem post_bytes (seq : Nat) (t : Int) (ten : Nat) (L : List Pt) : postL seq t ten L = big8 seq ++ (big8 (toU t) ++ (big8 ten ++ (big8 L.length ++ L.flatMap partL))) := by
  unfold postL headL
  simp only [List.append_assoc]
theorem parts_snoc {L : List Pt} {k : Nat} (hk : k < L.length) : (L.drop k).flatMap partL = (big8 L[k].a.size).drop 4 ++ L[k].a.data.toList ++ (big8 (toU L[k].n) ++ (L.drop (k + 1)).flatMap partL) := by
  rw [List.drop_eq_getElem_cons hk, List.flatMap_cons]
  unfold partL
  simp only [List.append_assoc]
end Go.Proofs.YtecbnhmnhcpcmaaGreatDoor
