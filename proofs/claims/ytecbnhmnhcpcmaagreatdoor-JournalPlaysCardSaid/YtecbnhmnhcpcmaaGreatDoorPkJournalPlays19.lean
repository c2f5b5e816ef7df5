/- The walks of money.Add, acct.Parse by its answer, journal.even with its two closures. -/
import Derived.Test.YtecbnhmnhcpcmaaGreatDoorPkJournalPlays12
import Derived.Test.YtecbnhmnhcpcmaaGreatDoorPkJournalPlays18
/-! The walks of money.Add, acct.Parse by its answer, journal.even with its two closures. -/
namespace Go.Proofs.YtecbnhmnhcpcmaaGreatDoor
open Go.RowKit Go.WideMaps Go.Maps
set_option linter.unusedVariables false
set_option linter.unusedSimpArgs false
set_option maxRecDepth 100000
theorem ints_two (w : World) (a b : Int) : IntsAt (w.alloc (.cells #[.int .i64 a, .int .i64 b] 2)) (.slice (some ⟨w.heap.size, 0, none⟩) 2 2) [a, b] := by
  refine ⟨_, 2, rfl, fun i hi => ⟨w.heap.size, 0, rfl, ?_⟩⟩
  rw [cell_of_row (heap_alloc_new w _)]
  have h2 : i = 0 ∨ i = 1 := by simp at hi; omega
  rcases h2 with rfl | rfl <;> rfl
theorem addm_any (a b : Int) (w : World) (ha : Acct.inInt a) (hb : Acct.inInt b) : Calls Tryz.prog 35 #[.int .i64 a, .int .i64 b] w fun e w' => e = .returned (.tuple #[.int .i64 (sumE [a, b]).1, .int .i64 (sumE [a, b]).2]) ∧ Below w.heap.size w w' := by
  have SX := Lib.hid (sum_any _ [a, b] _ (ints_two w a b) (by simp) (fun n hn => by simp at hn; rcases hn with rfl | rfl; exact ha; exact hb))
  go_enter Tryz.func35, Tryz.ntmps35
  go_wp2_with fail
  refine SX.out.mono ?_
  rintro e w1 ⟨rfl, rfl⟩
  go_wp2_with fail
  go_ret2
  exact ⟨rfl, below_alloc _ _⟩
/-- is it an account? -/
noncomputable def accB (s : ByteArray) : Bool := @decide (∃ wd ns, Acct.Named s.data.toList wd ns) (Classical.propDecidable _)
theorem accB_t {s : ByteArray} : accB s = true ↔ ∃ wd ns, Acct.Named s.data.toList wd ns := by
  unfold accB
  exact @decide_eq_true_iff _ (Classical.propDecidable _)
theorem accB_f {s : ByteArray} (h : accB s = false) : ∀ wd ns, ¬ Acct.Named s.data.toList wd ns := fun wd ns hN => by
  rw [accB_t.2 ⟨wd, ns, hN⟩] at h
  cases h
theorem aparseB (s : ByteArray) (w : World) (hE : EnvA w) (hs : s.size ≤ 100000) : Calls Tryz.prog 41 #[.string s] w fun e w' => ∃ x nv, e = .returned (.tuple #[.string x, nv, .bool (accB s)]) ∧ Below w.heap.size w w' := by
  cases h : accB s
  · exact (aparse_no (accB_f h) w hE hs).mono fun e w' ⟨h1, h2⟩ => ⟨_, _, h1, h2⟩
  · obtain ⟨wd, ns, hN⟩ := accB_t.1 h
    exact (aparse_yes hN w hE hs).mono fun e w' ⟨nv, h1, _, h2⟩ => ⟨_, _, h1, h2⟩
theorem rparseB (s : ByteArray) (w : World) (hs : s.size ≤ 100000) : Calls Tryz.prog 12 #[.string s] w fun e w' => ∃ x nv, e = .returned (.tuple #[.string x, nv, .bool (accB s)]) ∧ Below w.heap.size w w' := by
  cases h : accB s
  · exact (rparse_no (accB_f h) w hs).mono fun e w' ⟨h1, h2⟩ => ⟨_, _, h1, h2⟩
  · obtain ⟨wd, ns, hN⟩ := accB_t.1 h
    exact (rparse_yes hN w hs).mono fun e w' ⟨nv, h1, _, h2⟩ => ⟨_, _, h1, h2⟩
/-! the closures -/
def allP (p : Pt) : Bool := true
noncomputable def unitP (p : Pt) : Bool := unitsB p.a.data.toList
theorem all_closure (p : Pt) (w : World) (hE : EnvA w) (hs : p.a.size ≤ 100000) : Calls Tryz.prog 33 #[.agg #[.string p.a, .int .i64 p.n]] w fun e w' => e = .returned (.bool (allP p)) ∧ Below w.heap.size w w' := by
  go_enter Tryz.func33, Tryz.ntmps33
  go_wp2_with fail
  go_ret
  exact ⟨rfl, below_alloc _ _⟩
theorem unit_closure (p : Pt) (w : World) (hE : EnvA w) (hs : p.a.size ≤ 100000) : Calls Tryz.prog 34 #[.agg #[.string p.a, .int .i64 p.n]] w fun e w' => e = .returned (.bool (unitP p)) ∧ Below w.heap.size w w' := by
  obtain ⟨s, n⟩ := p
  dsimp only at hs ⊢
  have UX := Lib.hid (units_any s _ (hE.below (below_alloc w (.cells #[.string s, .int .i64 n] 41))) hs)
  clear hE
  go_enter Tryz.func34, Tryz.ntmps34
  go_wp2_with fail
  refine UX.out.mono ?_
  rintro e w1 ⟨rfl, hb⟩
  have B1 := Lib.hid (onward hb (below_alloc _ _))
  clear hb UX
  go_wp2_with fail
  go_ret
  exact ⟨rfl, B1.out⟩
/-- do those that are such come to 0? -/
def evenB (B : Pt → Bool) (L : List Pt) : Bool := decide (((L.filter B).map Pt.n).sum = 0)
theorem sum_zero (l : List Int) : ((sumE l).2 = 0 ∧ (sumE l).1 = 0) ↔ l.sum = 0 := by
  unfold sumE
  split <;> simp <;> omega
theorem infoI64 : (Tryz.prog.info? 2).map (fun i => (i.zero, i.size, i.bytes)) = some (some (.int .i64 0), 1, 8) := by kernel_rfl
set_option maxHeartbeats 4000000 in
theorem even_all (lv : Value) (L : List Pt) (w : World) (hE : EnvA w) (hl : RowsIn w lv 2 (L.map Pt.cells)) (hn : L.length ≤ 1000) (hs : ∀ p ∈ L, p.a.size ≤ 100000 ∧ Acct.inInt p.n) : Calls Tryz.prog 32 #[lv, .func (.func 33) #[] #[]] w fun e w' => e = .returned (.bool (evenB allP L)) ∧ Below w.heap.size w w' := by
  have HE := Lib.hid hE
  have HL := Lib.hid hl
  have HS := Lib.hid hs
  obtain ⟨a, c, rfl⟩ := pt_form hl
  obtain ⟨i0, hi, hz0, hz1, hz2⟩ := info_parts infoI64
  clear hl hE hs
  go_enter Tryz.func32, Tryz.ntmps32
  go_wp2_with fail
  go_loopw [5, 12] (fun bv iv wr => ∃ k : Nat, k ≤ L.length ∧ iv = .int .i64 k ∧ Hid (wr.ownsRow w.heap.size 2 1 bv (((L.take k).filter allP).map Pt.n).length ((((L.take k).filter allP).map Pt.n).map (Value.int .i64))) ∧ Hid (Below w.heap.size w wr)) (fun _ iv _ => L.length - (intOf iv).toNat)
  case atStart => exact ⟨0, by omega, rfl, World.ownsRow_nil _ _ _ _, Below.refl _ _⟩
  case round =>
    obtain ⟨k, hk, rfl, OR, BR⟩ := hrel
    by_cases hlt : k < L.length
    · obtain ⟨g, o, rfl, y0, y1⟩ := pt_cells (HL.out.below BR.out) k hlt
      have hz : (k : Int) < L.length := by omega
      obtain ⟨h1, h2⟩ := HS.out L[k] (List.getElem_mem hlt)
      have hfl : ((L.take k).filter allP).length ≤ 1000 := Nat.le_trans (List.length_filter_le _ _) (by rw [List.length_take]; omega)
      have HT : Hid (((L.take (k + 1)).filter allP).map Pt.n = ((L.take k).filter allP).map Pt.n ++ (if allP L[k] = true then [L[k].n] else [])) := by
        show _ = _
        rw [List.take_succ_eq_append_getElem hlt, List.filter_append, List.map_append]
        have e1 : ∀ q : Pt, (([q].filter allP).map Pt.n) = if allP q = true then [q.n] else [] := fun q => by
          by_cases hb : allP q = true
          · rw [if_pos hb, List.filter_cons_of_pos hb]; rfl
          · rw [if_neg hb, List.filter_cons_of_neg hb]; rfl
        rw [e1]
      generalize L[k] = p at *
      obtain ⟨s, n⟩ := p
      dsimp only at y0 y1 h1 h2
      have ba := below_alloc wr (.cells #[.string s, .int .i64 n] 41)
      have P1 := Lib.hid (heap_alloc_new wr (.cells #[.string s, .int .i64 n] 41))
      have BV := Lib.hid (onward ba BR.out)
      have OV := Lib.hid (OR.out.alloc (.cells #[.string s, .int .i64 n] 41))
      have FX := Lib.hid (all_closure ⟨s, n⟩ _ (HE.out.below (onward ba BR.out)) h1)
      have hll : (((L.take k).filter allP).map Pt.n).length ≤ 1000 := by rw [List.length_map]; exact hfl
      generalize ((L.take k).filter allP).map Pt.n = ys at *
      clear ba BR OR hfl
      go_wp2_with fail
      generalize wr.alloc (.cells #[.string s, .int .i64 n] 41) = V at *
      refine FX.out.mono ?_
      rintro e w2 ⟨rfl, hb⟩
      have B2 := Lib.hid (onward hb BV.out)
      have O2 := Lib.hid (ownsRow_below OV.out hb)
      obtain ⟨-, q1⟩ := part_cells2 (stays_block hb P1.out)
      clear hb FX OV P1
      cases hB : allP ⟨s, n⟩
      · have HT2 := HT.out
        rw [if_neg (by rw [hB]; decide), List.append_nil] at HT2
        have HT3 := Lib.hid HT2
        clear HT HT2 hB
        go_wp2_with fail
        go_roundw
        case rel => exact ⟨k + 1, by omega, by go_num, by (show World.ownsRow _ _ _ _ _ _ _); rw [HT3.out]; exact O2.out, B2.out⟩
        case measure => simp [intOf]; omega
      · have HT2 := HT.out
        rw [if_pos hB] at HT2
        have HT3 := Lib.hid HT2
        clear HT HT2 hB
        have O2a := Lib.hid (O2.out.alloc (.cells #[.int .i64 n] 2))
        have hs2 := B2.out.size
        go_wp2_with (at_builtin; refine wpList_append_own _ rfl (.tmp 19) (.tmp 22) 42 rfl w.heap.size 2 i0 _ 1 8 Tryz.underlying42 hi hz0 hz1 hz2 rfl (by decide) _ _ _ rfl O2a.out ⟨w2.heap.size, 0, none⟩ 1 1 [.int .i64 n] rfl rfl (new_cells _ _ _) (one1 _ _) (by unfold maxLen; omega) (by omega) (by simp; omega) ?_)
        intro v3 w3 hown hgr _
        have B3 : Hid (Below w.heap.size w w3) := (onward (below_alloc _ _) B2.out).grown hgr (by simp; omega) (fun k hk => (O2a.out.lt k hk).1)
        have O3 : Hid (w3.ownsRow w.heap.size 2 1 v3 (ys ++ [n]).length ((ys ++ [n]).map (Value.int .i64))) := by
          show World.ownsRow _ _ _ _ _ _ _
          rw [List.length_append, List.map_append]
          exact hown
        clear hown hgr O2a O2
        go_wp2_with fail
        go_roundw
        case rel => exact ⟨k + 1, by omega, by go_num, by (show World.ownsRow _ _ _ _ _ _ _); rw [HT3.out]; exact O3.out, B3.out⟩
        case measure => simp [intOf]; omega
    · obtain rfl : k = L.length := by omega
      have OR2 := OR.out
      rw [List.take_length] at OR2
      have I2 := IntsAt.of_own OR2
      have hin : ∀ x ∈ (L.filter allP).map Pt.n, -9223372036854775808 ≤ x ∧ x ≤ 9223372036854775807 := fun x hx => by
        obtain ⟨p, hp, rfl⟩ := List.mem_map.1 hx
        exact (HS.out p (List.mem_filter.1 hp |>.1)).2
      have SX := Lib.hid (sum_any _ _ wr I2 (by rw [List.length_map]; exact Nat.le_trans (List.length_filter_le _ _) (by omega)) hin)
      have HV : Hid (evenB allP L = decide ((sumE ((L.filter allP).map Pt.n)).2 = 0 ∧ (sumE ((L.filter allP).map Pt.n)).1 = 0)) := by
        show _ = _
        unfold evenB
        exact decide_eq_decide.2 (sum_zero _).symm
      clear OR OR2 I2 hin hlt
      go_wp2_with fail
      refine SX.out.mono ?_
      rintro e w2 ⟨rfl, rfl⟩
      clear SX
      by_cases e2 : (sumE ((L.filter allP).map Pt.n)).2 = 0
      · have d2 : ((sumE ((L.filter allP).map Pt.n)).2 == 0) = true := by rw [beq_iff_eq]; exact e2
        by_cases e1 : (sumE ((L.filter allP).map Pt.n)).1 = 0
        · have d1 : ((sumE ((L.filter allP).map Pt.n)).1 == 0) = true := by rw [beq_iff_eq]; exact e1
          have HR : Hid (evenB allP L = true) := by (show _ = _); rw [HV.out, decide_eq_true ⟨e2, e1⟩]
          clear e1 e2 HV
          go_wp2_with fail
          go_ret
          exact ⟨by rw [HR.out]; rfl, BR.out⟩
        · have d1 : ((sumE ((L.filter allP).map Pt.n)).1 == 0) = false := by rw [beq_eq_false_iff_ne]; exact e1
          have HR : Hid (evenB allP L = false) := by (show _ = _); rw [HV.out, decide_eq_false (fun h => e1 h.2)]
          clear e1 e2 HV
          go_wp2_with fail
          go_ret
          exact ⟨by rw [HR.out]; rfl, BR.out⟩
      · have d2 : ((sumE ((L.filter allP).map Pt.n)).2 == 0) = false := by rw [beq_eq_false_iff_ne]; exact e2
        have HR : Hid (evenB allP L = false) := by (show _ = _); rw [HV.out, decide_eq_false (fun h => e2 h.1)]
        clear e2 HV
        go_wp2_with fail
        go_ret
        exact ⟨by rw [HR.out]; rfl, BR.out⟩
set_option maxHeartbeats 4000000 in
theorem even_units (lv : Value) (L : List Pt) (w : World) (hE : EnvA w) (hl : RowsIn w lv 2 (L.map Pt.cells)) (hn : L.length ≤ 1000) (hs : ∀ p ∈ L, p.a.size ≤ 100000 ∧ Acct.inInt p.n) : Calls Tryz.prog 32 #[lv, .func (.func 34) #[] #[]] w fun e w' => e = .returned (.bool (evenB unitP L)) ∧ Below w.heap.size w w' := by
  have HE := Lib.hid hE
  have HL := Lib.hid hl
  have HS := Lib.hid hs
  obtain ⟨a, c, rfl⟩ := pt_form hl
  obtain ⟨i0, hi, hz0, hz1, hz2⟩ := info_parts infoI64
  clear hl hE hs
  go_enter Tryz.func32, Tryz.ntmps32
  go_wp2_with fail
  go_loopw [5, 12] (fun bv iv wr => ∃ k : Nat, k ≤ L.length ∧ iv = .int .i64 k ∧ Hid (wr.ownsRow w.heap.size 2 1 bv (((L.take k).filter unitP).map Pt.n).length ((((L.take k).filter unitP).map Pt.n).map (Value.int .i64))) ∧ Hid (Below w.heap.size w wr)) (fun _ iv _ => L.length - (intOf iv).toNat)
  case atStart => exact ⟨0, by omega, rfl, World.ownsRow_nil _ _ _ _, Below.refl _ _⟩
  case round =>
    obtain ⟨k, hk, rfl, OR, BR⟩ := hrel
    by_cases hlt : k < L.length
    · obtain ⟨g, o, rfl, y0, y1⟩ := pt_cells (HL.out.below BR.out) k hlt
      have hz : (k : Int) < L.length := by omega
      obtain ⟨h1, h2⟩ := HS.out L[k] (List.getElem_mem hlt)
      have hfl : ((L.take k).filter unitP).length ≤ 1000 := Nat.le_trans (List.length_filter_le _ _) (by rw [List.length_take]; omega)
      have HT : Hid (((L.take (k + 1)).filter unitP).map Pt.n = ((L.take k).filter unitP).map Pt.n ++ (if unitP L[k] = true then [L[k].n] else [])) := by
        show _ = _
        rw [List.take_succ_eq_append_getElem hlt, List.filter_append, List.map_append]
        have e1 : ∀ q : Pt, (([q].filter unitP).map Pt.n) = if unitP q = true then [q.n] else [] := fun q => by
          by_cases hb : unitP q = true
          · rw [if_pos hb, List.filter_cons_of_pos hb]; rfl
          · rw [if_neg hb, List.filter_cons_of_neg hb]; rfl
        rw [e1]
      generalize L[k] = p at *
      obtain ⟨s, n⟩ := p
      dsimp only at y0 y1 h1 h2
      have ba := below_alloc wr (.cells #[.string s, .int .i64 n] 41)
      have P1 := Lib.hid (heap_alloc_new wr (.cells #[.string s, .int .i64 n] 41))
      have BV := Lib.hid (onward ba BR.out)
      have OV := Lib.hid (OR.out.alloc (.cells #[.string s, .int .i64 n] 41))
      have FX := Lib.hid (unit_closure ⟨s, n⟩ _ (HE.out.below (onward ba BR.out)) h1)
      have hll : (((L.take k).filter unitP).map Pt.n).length ≤ 1000 := by rw [List.length_map]; exact hfl
      generalize ((L.take k).filter unitP).map Pt.n = ys at *
      clear ba BR OR hfl
      go_wp2_with fail
      generalize wr.alloc (.cells #[.string s, .int .i64 n] 41) = V at *
      refine FX.out.mono ?_
      rintro e w2 ⟨rfl, hb⟩
      have B2 := Lib.hid (onward hb BV.out)
      have O2 := Lib.hid (ownsRow_below OV.out hb)
      obtain ⟨-, q1⟩ := part_cells2 (stays_block hb P1.out)
      clear hb FX OV P1
      cases hB : unitP ⟨s, n⟩
      · have HT2 := HT.out
        rw [if_neg (by rw [hB]; decide), List.append_nil] at HT2
        have HT3 := Lib.hid HT2
        clear HT HT2 hB
        go_wp2_with fail
        go_roundw
        case rel => exact ⟨k + 1, by omega, by go_num, by (show World.ownsRow _ _ _ _ _ _ _); rw [HT3.out]; exact O2.out, B2.out⟩
        case measure => simp [intOf]; omega
      · have HT2 := HT.out
        rw [if_pos hB] at HT2
        have HT3 := Lib.hid HT2
        clear HT HT2 hB
        have O2a := Lib.hid (O2.out.alloc (.cells #[.int .i64 n] 2))
        have hs2 := B2.out.size
        go_wp2_with (at_builtin; refine wpList_append_own _ rfl (.tmp 19) (.tmp 22) 42 rfl w.heap.size 2 i0 _ 1 8 Tryz.underlying42 hi hz0 hz1 hz2 rfl (by decide) _ _ _ rfl O2a.out ⟨w2.heap.size, 0, none⟩ 1 1 [.int .i64 n] rfl rfl (new_cells _ _ _) (one1 _ _) (by unfold maxLen; omega) (by omega) (by simp; omega) ?_)
        intro v3 w3 hown hgr _
        have B3 : Hid (Below w.heap.size w w3) := (onward (below_alloc _ _) B2.out).grown hgr (by simp; omega) (fun k hk => (O2a.out.lt k hk).1)
        have O3 : Hid (w3.ownsRow w.heap.size 2 1 v3 (ys ++ [n]).length ((ys ++ [n]).map (Value.int .i64))) := by
          show World.ownsRow _ _ _ _ _ _ _
          rw [List.length_append, List.map_append]
          exact hown
        clear hown hgr O2a O2
        go_wp2_with fail
        go_roundw
        case rel => exact ⟨k + 1, by omega, by go_num, by (show World.ownsRow _ _ _ _ _ _ _); rw [HT3.out]; exact O3.out, B3.out⟩
        case measure => simp [intOf]; omega
    · obtain rfl : k = L.length := by omega
      have OR2 := OR.out
      rw [List.take_length] at OR2
      have I2 := IntsAt.of_own OR2
      have hin : ∀ x ∈ (L.filter unitP).map Pt.n, -9223372036854775808 ≤ x ∧ x ≤ 9223372036854775807 := fun x hx => by
        obtain ⟨p, hp, rfl⟩ := List.mem_map.1 hx
        exact (HS.out p (List.mem_filter.1 hp |>.1)).2
      have SX := Lib.hid (sum_any _ _ wr I2 (by rw [List.length_map]; exact Nat.le_trans (List.length_filter_le _ _) (by omega)) hin)
      have HV : Hid (evenB unitP L = decide ((sumE ((L.filter unitP).map Pt.n)).2 = 0 ∧ (sumE ((L.filter unitP).map Pt.n)).1 = 0)) := by
        show _ = _
        unfold evenB
        exact decide_eq_decide.2 (sum_zero _).symm
      clear OR OR2 I2 hin hlt
      go_wp2_with fail
      refine SX.out.mono ?_
      rintro e w2 ⟨rfl, rfl⟩
      clear SX
      by_cases e2 : (sumE ((L.filter unitP).map Pt.n)).2 = 0
      · have d2 : ((sumE ((L.filter unitP).map Pt.n)).2 == 0) = true := by rw [beq_iff_eq]; exact e2
        by_cases e1 : (sumE ((L.filter unitP).map Pt.n)).1 = 0
        · have d1 : ((sumE ((L.filter unitP).map Pt.n)).1 == 0) = true := by rw [beq_iff_eq]; exact e1
          have HR : Hid (evenB unitP L = true) := by (show _ = _); rw [HV.out, decide_eq_true ⟨e2, e1⟩]
          clear e1 e2 HV
          go_wp2_with fail
          go_ret
          exact ⟨by rw [HR.out]; rfl, BR.out⟩
        · have d1 : ((sumE ((L.filter unitP).map Pt.n)).1 == 0) = false := by rw [beq_eq_false_iff_ne]; exact e1
          have HR : Hid (evenB unitP L = false) := by (show _ = _); rw [HV.out, decide_eq_false (fun h => e1 h.2)]
          clear e1 e2 HV
          go_wp2_with fail
          go_ret
          exact ⟨by rw [HR.out]; rfl, BR.out⟩
      · have d2 : ((sumE ((L.filter unitP).map Pt.n)).2 == 0) = false := by rw [beq_eq_false_iff_ne]; exact e2
        have HR : Hid (evenB unitP L = false) := by (show _ = _); rw [HV.out, decide_eq_false (fun h => e2 h.1)]
        clear e2 HV
        go_wp2_with fail
        go_ret
        exact ⟨by rw [HR.out]; rfl, BR.out⟩
end Go.Proofs.YtecbnhmnhcpcmaaGreatDoor
