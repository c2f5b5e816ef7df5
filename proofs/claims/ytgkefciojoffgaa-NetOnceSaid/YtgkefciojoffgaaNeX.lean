/- The reference's Act 3 (Double), and its acts by what the net says. -/
import Derived.Test.YtgkefciojoffgaaNeW
namespace Go.Proofs.Ytgkefciojoffgaa
open Go.RowKit
set_option linter.unusedVariables false
set_option linter.unusedSimpArgs false
attribute [local go_sem ↓] Go.wp_at_zero Go.wp_at_succ
theorem RefEnd.set3 {B rp gb po : Nat} {G : Int} {v : Value} {L L' : List Lt} {c1 c2 c3 : Bool} {w V w' : World} (hBo : B ≤ po) (HN : RefV w rp gb G v L c1 c2 c3) (hB : Below w.heap.size w V) (hpo : w.heap.size = po) (hpV : po < V.heap.size) {cs : Array Value} (hP : w'.heap[po]? = some (.cells cs 30 (0, 0))) (h : RefEnd B rp gb G v L' c1 c2 c3 V w') (y0 y1 y2 : Value) :
    RefEnd B rp gb G v L' c1 c2 c3 w (((w'.setCell ⟨po, 0, none⟩ y0).setCell ⟨po, 1, none⟩ y1).setCell ⟨po, 2, none⟩ y2) := by
  subst hpo
  obtain ⟨v', h1, h2, h3, h4⟩ := h
  have hrl := lt_of_block HN.1
  have hgl := lt_of_block HN.2.1
  have kB : Kept (· = w.heap.size) w' (((w'.setCell ⟨w.heap.size, 0, none⟩ y0).setCell ⟨w.heap.size, 1, none⟩ y1).setCell ⟨w.heap.size, 2, none⟩ y2) := ((Kept.setCell (S := (· = w.heap.size)) _ _ _ rfl).trans (Kept.setCell (S := (· = w.heap.size)) _ _ _ rfl)).trans (Kept.setCell (S := (· = w.heap.size)) _ _ _ rfl)
  have hov : ∀ k, v'.ownBlock = some k → k ≠ w.heap.size := fun k hk e => by
    rcases h4 with h4 | h4
    · have := (HN.2.2.lt k (h4 ▸ hk)).2; omega
    · have := h4 k hk; omega
  have hne : ∀ j, v'.ownBlock ≠ some (⟨w.heap.size, j, none⟩ : Addr).block := fun j e => hov _ e rfl
  have hst : Stp B w' (((w'.setCell ⟨w.heap.size, 0, none⟩ y0).setCell ⟨w.heap.size, 1, none⟩ y1).setCell ⟨w.heap.size, 2, none⟩ y2) := .of_kept kB fun k hk => by subst hk; exact ⟨hBo, _, _, _, hP, by decide⟩
  refine ⟨v', ⟨(kB.block rp (lt_of_block h1.1) (by omega)).trans h1.1, (kB.block gb (lt_of_block h1.2.1) (by omega)).trans h1.2.1, ?_⟩, fun l hl => (h2 l hl).step hst, ?_, ?_⟩
  · exact ownsRow_setCell_other (a := ⟨w.heap.size, 2, none⟩) (ownsRow_setCell_other (a := ⟨w.heap.size, 1, none⟩) (ownsRow_setCell_other (a := ⟨w.heap.size, 0, none⟩) h1.2.2 (hne 0) y0) (hne 1) y1) (hne 2) y2
  · have hk := ((Kept.of_below hB (fun k => MineR rp gb v k ∨ k = w.heap.size)).trans (h3.mono fun k _ h => .inl h)).trans (kB.mono fun k _ h => .inr h)
    refine ⟨hk.os, hk.tape, hk.output, hk.size, fun k hk1 hk2 => hk.block k hk1 fun h => ?_⟩
    rcases h with h | rfl
    · exact hk2 h
    · omega
  · rcases h4 with h4 | h4
    · exact .inl h4
    · exact .inr fun k hk => by have := h4 k hk; omega
set_option maxHeartbeats 2000000 in
set_option maxRecDepth 1000000 in
theorem ract_double_yes (B rp gb : Nat) (G : Int) (v : Value) (L : List Lt) (c1 c2 c3 : Bool) (k : Nat) (w : World) (hBp : B ≤ rp) (hBg : B ≤ gb) (hN : RefV w rp gb G v L c1 c2 c3) (hL : LtsAt B w L) (hk : k < L.length) (hll : L.length ≤ 4096) (hf : i64 L[k].f) (ht : i64 L[k].t) (hG : 1 ≤ G ∧ G ≤ 3) (hbl : L[k].bs.length ≤ 4096) (hs : sendI G L[k].f L[k].t L[k].bs.length L.length = 0) :
    Calls Try.prog 21 #[.pointer (some ⟨rp, 0, none⟩), .int .u8 3, .int .i64 k] w fun e w' => e = .returned (.tuple #[letter0, .int .i64 0]) ∧ RefEnd B rp gb G v (L ++ [L[k]]) c1 c2 c3 w w' := by
  obtain ⟨g, cap, cur, rfl, hg, h3, h4, h5, h6, h7⟩ := own_open hN.2.2 (by omega)
  have hb0 := below_alloc w (.cells #[.int .i64 0, .int .i64 0, .slice none 0 0] 30)
  obtain ⟨z0, n0, n1, n2⟩ := three_cells (stays_block hb0 hN.1)
  obtain ⟨ab, cb, hform⟩ := (hL L[k] (List.getElem_mem hk)).form
  obtain ⟨r0, r1, r2⟩ := row_letter (n := 0) (cap := 0) (stays_block hb0 h3) h7 k hk
  rw [hform] at r2
  obtain ⟨HB2, HP2, HQ2, hsz2⟩ := two_blocks w #[.int .i64 0, .int .i64 0, .slice none 0 0] #[.int .i64 L[k].f, .int .i64 L[k].t, .slice ab L[k].bs.length cb] 30 30
  have HN := Lib.hid hN
  have HL := Lib.hid hL
  have HF := Lib.hid hform
  have HV := Lib.hid (show ∀ n : Nat, Below w.heap.size w (World.drewN ((w.alloc (.cells #[.int .i64 0, .int .i64 0, .slice none 0 0] 30)).alloc (.cells #[.int .i64 L[k].f, .int .i64 L[k].t, .slice ab L[k].bs.length cb] 30)) n) ∧ (World.drewN ((w.alloc (.cells #[.int .i64 0, .int .i64 0, .slice none 0 0] 30)).alloc (.cells #[.int .i64 L[k].f, .int .i64 L[k].t, .slice ab L[k].bs.length cb] 30)) n).heap[w.heap.size]? = _ ∧ (World.drewN ((w.alloc (.cells #[.int .i64 0, .int .i64 0, .slice none 0 0] 30)).alloc (.cells #[.int .i64 L[k].f, .int .i64 L[k].t, .slice ab L[k].bs.length cb] 30)) n).heap[w.heap.size + 1]? = _ ∧ w.heap.size + 2 ≤ (World.drewN ((w.alloc (.cells #[.int .i64 0, .int .i64 0, .slice none 0 0] 30)).alloc (.cells #[.int .i64 L[k].f, .int .i64 L[k].t, .slice ab L[k].bs.length cb] 30)) n).heap.size from fun n => ⟨World.below_drewN HB2 n, HP2, HQ2, Nat.le_of_eq hsz2.symm⟩)
  unfold maxLen at h5
  have hk0 : ¬ ((L.length : Int) ≤ k) := by omega
  have hk1 : (k : Int) < L.length := by omega
  have hrw := lt_of_block hN.1
  have hgw := lt_of_block hN.2.1
  have hov : ∀ q, (Value.slice (some ⟨g, 0, none⟩) L.length cap).ownBlock = some q → q < w.heap.size := fun q hq => (hN.2.2.lt q hq).2
  have OV := Lib.hid hov
  clear hN hL h3 h6 h7 hb0 hform HB2 HP2 HQ2 hsz2 hov
  have HS := Lib.hid hs
  clear hs
  go_enter Try.func21, Try.ntmps21
  go_wp2_with fail
  go_quiet (fail)
  obtain ⟨hBV, hPV, hQV, hZV⟩ := HV.out nq
  generalize World.drewN ((w.alloc (.cells #[.int .i64 0, .int .i64 0, .slice none 0 0] 30)).alloc (.cells #[.int .i64 L[k].f, .int .i64 L[k].t, .slice ab L[k].bs.length cb] 30)) nq = V at *
  have BV := Lib.hid hBV
  have PV := Lib.hid hPV
  obtain ⟨-, q0, q1, q2⟩ := three_cells hQV
  have hbk : Hid (BytesAt B V (.slice ab L[k].bs.length cb) L[k].bs) := by
    have h := (HL.out L[k] (List.getElem_mem hk)).below hBV
    rw [HF.out] at h
    exact h
  have NV := Lib.hid (HN.out.below hBV)
  have LV := Lib.hid (HL.out.step (.of_below hBV))
  clear hBV hPV hQV HV n0 n1 n2 r0 r1 r2
  have hpV := lt_of_block PV.out
  go_wp2_with fail
  refine (rsend_yes B rp gb G _ L c1 c2 c3 L[k].f L[k].t _ L[k].bs _ hBp hBg NV.out LV.out hbk.out hf ht hG HS.out).mono ?_
  rintro e w' ⟨rfl, hE⟩
  have hPk : w'.heap[w.heap.size]? = some (.cells #[.int .i64 0, .int .i64 0, .slice none 0 0] 30 (0, 0)) := by
    obtain ⟨v', -, -, h3, -⟩ := hE
    refine (h3.block w.heap.size hpV fun hm => ?_).trans PV.out
    rcases hm with h | h | h
    · omega
    · omega
    · have := OV.out _ h; omega
  have hE' : RefEnd B rp gb G (.slice (some ⟨g, 0, none⟩) L.length cap) (L ++ [L[k]]) c1 c2 c3 V w' := by
    have e : L[k] = ⟨L[k].f, L[k].t, .slice ab L[k].bs.length cb, L[k].bs⟩ := by rw [← HF.out]
    rw [e]
    exact hE
  have HC := Lib.hid (fun y0 y1 y2 => hE'.set3 (po := w.heap.size) (by omega) HN.out BV.out rfl hpV hPk y0 y1 y2)
  obtain ⟨-, p0, p1, p2⟩ := three_cells hPk
  have fp0 : w'.frozen? ⟨w.heap.size, 0, none⟩ = false := free_of_row hPk
  have fp1 : w'.frozen? ⟨w.heap.size, 1, none⟩ = false := free_of_row hPk
  have fp2 : w'.frozen? ⟨w.heap.size, 2, none⟩ = false := free_of_row hPk
  clear hE hE' hPk
  go_wp2_with fail
  refine bodyPost_ret (v := .tuple #[letter0, .int .i64 0]) ?_ rfl ⟨rfl, HC.out _ _ _⟩
  simp [results, letter0, Try.results21, go_sem, p0, p1, p2]
set_option maxHeartbeats 2000000 in
set_option maxRecDepth 1000000 in
theorem ract_double_no (B rp gb : Nat) (G : Int) (v : Value) (L : List Lt) (c1 c2 c3 : Bool) (k : Nat) (w : World) (hBp : B ≤ rp) (hBg : B ≤ gb) (hN : RefV w rp gb G v L c1 c2 c3) (hL : LtsAt B w L) (hk : k < L.length) (hll : L.length ≤ 4096) (hf : i64 L[k].f) (ht : i64 L[k].t) (hG : 1 ≤ G ∧ G ≤ 3) (hbl : L[k].bs.length ≤ 4096) (hs : sendI G L[k].f L[k].t L[k].bs.length L.length ≠ 0) :
    Calls Try.prog 21 #[.pointer (some ⟨rp, 0, none⟩), .int .u8 3, .int .i64 k] w fun e w' => e = .returned (.tuple #[letter0, .int .i64 (sendI G L[k].f L[k].t L[k].bs.length L.length)]) ∧ RefEnd B rp gb G v L c1 c2 c3 w w' := by
  obtain ⟨g, cap, cur, rfl, hg, h3, h4, h5, h6, h7⟩ := own_open hN.2.2 (by omega)
  have hb0 := below_alloc w (.cells #[.int .i64 0, .int .i64 0, .slice none 0 0] 30)
  obtain ⟨z0, n0, n1, n2⟩ := three_cells (stays_block hb0 hN.1)
  obtain ⟨ab, cb, hform⟩ := (hL L[k] (List.getElem_mem hk)).form
  obtain ⟨r0, r1, r2⟩ := row_letter (n := 0) (cap := 0) (stays_block hb0 h3) h7 k hk
  rw [hform] at r2
  obtain ⟨HB2, HP2, HQ2, hsz2⟩ := two_blocks w #[.int .i64 0, .int .i64 0, .slice none 0 0] #[.int .i64 L[k].f, .int .i64 L[k].t, .slice ab L[k].bs.length cb] 30 30
  have HN := Lib.hid hN
  have HL := Lib.hid hL
  have HF := Lib.hid hform
  have HV := Lib.hid (show ∀ n : Nat, Below w.heap.size w (World.drewN ((w.alloc (.cells #[.int .i64 0, .int .i64 0, .slice none 0 0] 30)).alloc (.cells #[.int .i64 L[k].f, .int .i64 L[k].t, .slice ab L[k].bs.length cb] 30)) n) ∧ (World.drewN ((w.alloc (.cells #[.int .i64 0, .int .i64 0, .slice none 0 0] 30)).alloc (.cells #[.int .i64 L[k].f, .int .i64 L[k].t, .slice ab L[k].bs.length cb] 30)) n).heap[w.heap.size]? = _ ∧ (World.drewN ((w.alloc (.cells #[.int .i64 0, .int .i64 0, .slice none 0 0] 30)).alloc (.cells #[.int .i64 L[k].f, .int .i64 L[k].t, .slice ab L[k].bs.length cb] 30)) n).heap[w.heap.size + 1]? = _ ∧ w.heap.size + 2 ≤ (World.drewN ((w.alloc (.cells #[.int .i64 0, .int .i64 0, .slice none 0 0] 30)).alloc (.cells #[.int .i64 L[k].f, .int .i64 L[k].t, .slice ab L[k].bs.length cb] 30)) n).heap.size from fun n => ⟨World.below_drewN HB2 n, HP2, HQ2, Nat.le_of_eq hsz2.symm⟩)
  unfold maxLen at h5
  have hk0 : ¬ ((L.length : Int) ≤ k) := by omega
  have hk1 : (k : Int) < L.length := by omega
  have hrw := lt_of_block hN.1
  have hgw := lt_of_block hN.2.1
  have hov : ∀ q, (Value.slice (some ⟨g, 0, none⟩) L.length cap).ownBlock = some q → q < w.heap.size := fun q hq => (hN.2.2.lt q hq).2
  have OV := Lib.hid hov
  clear hN hL h3 h6 h7 hb0 hform HB2 HP2 HQ2 hsz2 hov
  have HS := Lib.hid hs
  clear hs
  go_enter Try.func21, Try.ntmps21
  go_wp2_with fail
  go_quiet (fail)
  obtain ⟨hBV, hPV, hQV, hZV⟩ := HV.out nq
  generalize World.drewN ((w.alloc (.cells #[.int .i64 0, .int .i64 0, .slice none 0 0] 30)).alloc (.cells #[.int .i64 L[k].f, .int .i64 L[k].t, .slice ab L[k].bs.length cb] 30)) nq = V at *
  have BV := Lib.hid hBV
  have PV := Lib.hid hPV
  obtain ⟨-, q0, q1, q2⟩ := three_cells hQV
  have hbk : Hid (BytesAt B V (.slice ab L[k].bs.length cb) L[k].bs) := by
    have h := (HL.out L[k] (List.getElem_mem hk)).below hBV
    rw [HF.out] at h
    exact h
  have NV := Lib.hid (HN.out.below hBV)
  have LV := Lib.hid (HL.out.step (.of_below hBV))
  clear hBV hPV hQV HV n0 n1 n2 r0 r1 r2
  have hpV := lt_of_block PV.out
  go_wp2_with fail
  refine (rsend_no B rp gb G _ L c1 c2 c3 L[k].f L[k].t _ L[k].bs _ NV.out hbk.out hf ht hG HS.out (by omega) (by omega)).mono ?_
  rintro e w' ⟨rfl, hE⟩
  have hPk := stays_block hE PV.out
  have HC := Lib.hid (fun y0 y1 y2 => (RefEnd.same NV.out LV.out hE).set3 (po := w.heap.size) (by omega) HN.out BV.out rfl hpV hPk y0 y1 y2)
  obtain ⟨-, p0, p1, p2⟩ := three_cells hPk
  have fp0 : w'.frozen? ⟨w.heap.size, 0, none⟩ = false := free_of_row hPk
  have fp1 : w'.frozen? ⟨w.heap.size, 1, none⟩ = false := free_of_row hPk
  have fp2 : w'.frozen? ⟨w.heap.size, 2, none⟩ = false := free_of_row hPk
  clear hE hPk
  go_wp2_with fail
  refine bodyPost_ret (v := .tuple #[letter0, .int .i64 (sendI G L[k].f L[k].t L[k].bs.length L.length)]) ?_ rfl ⟨rfl, HC.out _ _ _⟩
  simp [results, letter0, Try.results21, go_sem, p0, p1, p2]
end Go.Proofs.Ytgkefciojoffgaa
