/- The walk of journal.Sums. -/
import Derived.Test.YtecbnhmnhcpcmaaGreatDoorPkJournalPlays30
/-! The walk of journal.Sums. -/
namespace Go.Proofs.YtecbnhmnhcpcmaaGreatDoor
open Go.RowKit Go.WideMaps Go.Maps
set_option linter.unusedVariables false
set_option linter.unusedSimpArgs false
set_option maxRecDepth 100000
/-- all numbers kept at keys of balances -/
noncomputable def sumsL (D : DM) : List Int := (scanL D [98]).map fun y => wrap64 (numAt D y.1).1
def posB (x : Int) : Bool := decide (0 < x)
def nposB (x : Int) : Bool := !decide (0 < x)
def sumsO (l : List Int) : Int × Int × Int :=
  if (sumE (l.filter posB)).2 ≠ 0 then (0, 0, (sumE (l.filter posB)).2)
  else if (sumE (l.filter nposB)).2 ≠ 0 then (0, 0, (sumE (l.filter nposB)).2)
  else ((sumE (l.filter posB)).1, (sumE (l.filter nposB)).1, 0)
theorem filter_snoc {p : Int → Bool} (l : List Int) (x : Int) : (l ++ [x]).filter p = l.filter p ++ (if p x = true then [x] else []) := by
  rw [List.filter_append]
  by_cases h : p x = true
  · rw [if_pos h, List.filter_cons_of_pos h]; rfl
  · rw [if_neg h, List.filter_cons_of_neg h]; rfl
theorem apart_new {v c v' : Value} {m : Nat} (hc : ∀ k, c.ownBlock = some k → k < m) (h : ∀ k, v.ownBlock = some k → c.ownBlock ≠ some k) (hl : v'.ownBlock = v.ownBlock ∨ v'.ownBlock = some m) : ∀ k, v'.ownBlock = some k → c.ownBlock ≠ some k := by
  intro k hk hck
  rcases hl with hl | hl
  · exact h k (by rw [← hl]; exact hk) hck
  · rw [hl] at hk
    injection hk with hk
    have := hc k hck
    omega
theorem apart_old {v c : Value} {w w' : World} {base : Nat} {e : TypeId} {size n : Nat} {xs : List Value} (h : ∀ k, v.ownBlock = some k → c.ownBlock ≠ some k) (hc : w.ownsRow base e size c n xs) (hg : w.grownBy w' v.ownBlock) : w'.ownsRow base e size c n xs := by
  refine hc.kept hg ?_
  cases hb : c.ownBlock with
  | none => exact .inl rfl
  | some k => exact .inr fun e => h k e.symm hb
theorem none_block : ∀ k : Nat, (Value.slice none 0 0).ownBlock = some k → (Value.slice none 0 0).ownBlock ≠ some k := fun k hk => by cases hk
set_option maxHeartbeats 2000000 in
theorem sums_any {p b1 b2 n : Nat} {room : Int} {D D2 : DM} (w : World) (hM : MemS w p b1 b2 room n D D2) (hn : n < 1000000) (hp : (pairsR D [98] []).length ≤ n) (hk : ∀ y ∈ scanL D [98], y.1.length ≤ 1000000 ∧ (numAt D y.1).2 = 0) : Calls Tryz.prog 27 #[memI p] w fun e w' => e = .returned (.tuple #[.int .i64 (sumsO (sumsL D)).1, .int .i64 (sumsO (sumsL D)).2.1, .int .i64 (sumsO (sumsL D)).2.2]) ∧ Below w.heap.size w w' := by
  have HM := Lib.hid hM
  have HK := Lib.hid hk
  have HP := Lib.hid hp
  have HN := Lib.hid hn
  have hml : (scanL D [98]).length ≤ n := Nat.le_trans (List.takeWhile_sublist _).length_le hp
  have HML := Lib.hid hml
  have HLL : Hid ((sumsL D).length ≤ n) := by unfold sumsL; rw [List.length_map]; exact hml
  obtain ⟨i0, hi, hz0, hz1, hz2⟩ := info_parts infoI64
  clear hM hn hp hk hml
  go_enter Tryz.func27, Tryz.ntmps27
  go_wp2_with fail
  refine (key0_any 98 w).mono ?_
  rintro e w1 ⟨kv, rfl, hkb, hb⟩
  have B1 := Lib.hid hb
  have SX := Lib.hid (scan_any w1 (HM.out.below hb) HN.out hkb HP.out)
  clear hkb hb
  go_wp2_with fail
  refine SX.out.mono ?_
  rintro e w2 ⟨lv, rfl, hl, hb⟩
  have B2 := Lib.hid (onward hb B1.out)
  have P2 := Lib.hid hl
  obtain ⟨la, lc, e2⟩ := hl.slice
  subst e2
  clear hl hb SX
  go_wp2_with fail
  go_loopw [7, 8, 26] (fun dv cv iv wr => ∃ j : Nat, j ≤ (scanL D [98]).length ∧ iv = .int .i64 j ∧ Hid (wr.ownsRow w2.heap.size 2 1 dv (((sumsL D).take j).filter posB).length ((((sumsL D).take j).filter posB).map (Value.int .i64))) ∧ Hid (wr.ownsRow w2.heap.size 2 1 cv (((sumsL D).take j).filter nposB).length ((((sumsL D).take j).filter nposB).map (Value.int .i64))) ∧ Hid (∀ k, dv.ownBlock = some k → cv.ownBlock ≠ some k) ∧ Hid (Below w2.heap.size w2 wr)) (fun _ _ iv _ => (scanL D [98]).length - (intOf iv).toNat)
  case atStart => exact ⟨0, by omega, rfl, World.ownsRow_nil _ _ _ _, World.ownsRow_nil _ _ _ _, none_block, Below.refl _ _⟩
  case round =>
    obtain ⟨j, hj, rfl, DR, CR, AR, BR⟩ := hrel
    by_cases hlt : j < (scanL D [98]).length
    · have hz : (j : Int) < ((scanL D [98]).length : Int) := by omega
      obtain ⟨y, hy⟩ : ∃ y, (scanL D [98])[j]? = some y := ⟨_, List.getElem?_eq_getElem hlt⟩
      obtain ⟨g, o, ca, x1, x2, e1, xc1, xc2, X1, X2, XR⟩ := (P2.out.below BR.out).at hy
      injection e1 with e1 _ e3
      subst e1
      subst e3
      obtain ⟨xa, xc, rfl⟩ := X1.form
      obtain ⟨xb, xd, rfl⟩ := X2.form
      obtain ⟨hkl, hk2⟩ := HK.out y (List.mem_of_getElem? hy)
      have hTk : (sumsL D).take (j + 1) = (sumsL D).take j ++ [wrap64 (numAt D y.1).1] := by
        have hx : (sumsL D)[j]? = some (wrap64 (numAt D y.1).1) := by unfold sumsL; rw [List.getElem?_map, hy]; rfl
        rw [List.take_add_one, hx]
        rfl
      have hfl : ∀ p : Int → Bool, (((sumsL D).take j).filter p).length ≤ n := fun p => Nat.le_trans (List.length_filter_le _ _) (by rw [List.length_take]; have := HLL.out; omega)
      have h1 := hfl posB
      have h2 := hfl nposB
      have hT1 : ((sumsL D).take (j + 1)).filter posB = ((sumsL D).take j).filter posB ++ (if posB (wrap64 (numAt D y.1).1) = true then [wrap64 (numAt D y.1).1] else []) := by rw [hTk, filter_snoc]
      have hT2 : ((sumsL D).take (j + 1)).filter nposB = ((sumsL D).take j).filter nposB ++ (if nposB (wrap64 (numAt D y.1).1) = true then [wrap64 (numAt D y.1).1] else []) := by rw [hTk, filter_snoc]
      obtain ⟨wa, hwa⟩ : ∃ W, W = wr.alloc (.cells #[.slice xa y.1.length xc, .slice xb y.2.length xd] 63) := ⟨_, rfl⟩
      have ba : Below wr.heap.size wr wa := by rw [hwa]; exact below_alloc _ _
      have hob : wa.heap[wr.heap.size]? = some (.cells #[.slice xa y.1.length xc, .slice xb y.2.length xd] 63 (0, 0)) := by rw [hwa]; exact alloc_block _ _ _ _
      have c0 : wa.cell? ⟨wr.heap.size, 0, none⟩ = some (.slice xa y.1.length xc) := by rw [cell_of_row hob]; rfl
      have NX := Lib.hid (kvnum_any wa (HM.out.below (onward ba (onward BR.out B2.out))) _ y.1 (X1.below ba) hkl)
      have DA := Lib.hid (ownsRow_below DR.out ba)
      have CA := Lib.hid (ownsRow_below CR.out ba)
      have BA := Lib.hid (onward ba BR.out)
      rw [hk2] at NX
      have HT1 := Lib.hid hT1
      have HT2 := Lib.hid hT2
      clear hy X1 X2 XR hkl hk2 hTk hT1 hT2 hfl ba hob DR CR
      generalize (numAt D y.1).1 = num at *
      generalize ((sumsL D).take j).filter posB = ps at *
      generalize ((sumsL D).take j).filter nposB = ns at *
      go_wp2_with fail
      rw [← hwa]
      clear hwa
      refine NX.out.mono ?_
      rintro e w3 ⟨rfl, hb3⟩
      have B3 := Lib.hid (onward hb3 BA.out)
      have D3 := Lib.hid (ownsRow_below DA.out hb3)
      have C3 := Lib.hid (ownsRow_below CA.out hb3)
      have D4 := Lib.hid (D3.out.alloc (.cells #[.int .i64 (wrap64 num)] 2))
      have C4 := Lib.hid (C3.out.alloc (.cells #[.int .i64 (wrap64 num)] 2))
      have hs3 := B3.out.size
      have hnn := HN.out
      have hml := HML.out
      clear hb3 NX DA CA BA xc1 xc2 c0
      by_cases hpos : 0 < wrap64 num
      · have d1 : decide (0 < wrap64 num) = true := decide_eq_true hpos
        have HT1' := HT1.out
        have HT2' := HT2.out
        rw [if_pos (show posB (wrap64 num) = true from d1)] at HT1'
        rw [if_neg (show ¬ nposB (wrap64 num) = true by unfold nposB; rw [d1]; decide), List.append_nil] at HT2'
        have HQ1 := Lib.hid HT1'
        have HQ2 := Lib.hid HT2'
        clear HT1 HT2 HT1' HT2' hpos
        go_wp2_with (at_builtin; refine wpList_append_own_at _ rfl _ _ 42 rfl w2.heap.size 2 i0 _ 1 8 Tryz.underlying42 hi hz0 hz1 hz2 rfl (by decide) _ _ _ rfl D4.out ⟨w3.heap.size, 0, none⟩ 1 1 [.int .i64 (wrap64 num)] rfl rfl (new_cells _ _ _) (one1 _ _) (by unfold maxLen; omega) (by omega) (by simp; omega) ?_)
        intro v4 w4 hown hgr hloc
        have B4 : Hid (Below w2.heap.size w2 w4) := (onward (below_alloc _ _) B3.out).grown hgr (by simp; omega) (fun k hk => (D4.out.lt k hk).1)
        have D5 : Hid (w4.ownsRow w2.heap.size 2 1 v4 (((sumsL D).take (j + 1)).filter posB).length ((((sumsL D).take (j + 1)).filter posB).map (Value.int .i64))) := by
          show World.ownsRow _ _ _ _ _ _ _
          rw [HQ1.out, List.length_append, List.map_append]
          exact hown
        have C5 : Hid (w4.ownsRow w2.heap.size 2 1 u8 (((sumsL D).take (j + 1)).filter nposB).length ((((sumsL D).take (j + 1)).filter nposB).map (Value.int .i64))) := by
          show World.ownsRow _ _ _ _ _ _ _
          rw [HQ2.out]
          exact apart_old AR.out C4.out hgr
        have A5 : Hid (∀ k, v4.ownBlock = some k → u8.ownBlock ≠ some k) := apart_new (m := w3.heap.size + 1) (fun k hk => by have := (C4.out.lt k hk).2; simp at this; omega) AR.out hloc
        clear hown hgr hloc D3 C3 D4 C4
        go_wp2_with fail
        go_roundw
        case rel => exact ⟨j + 1, by omega, by go_num, D5.out, C5.out, A5.out, B4.out⟩
        case measure => simp [intOf]; omega
      · have d1 : decide (0 < wrap64 num) = false := decide_eq_false hpos
        have HT1' := HT1.out
        have HT2' := HT2.out
        rw [if_neg (show ¬ posB (wrap64 num) = true by unfold posB; rw [d1]; decide), List.append_nil] at HT1'
        rw [if_pos (show nposB (wrap64 num) = true by unfold nposB; rw [d1]; rfl)] at HT2'
        have HQ1 := Lib.hid HT1'
        have HQ2 := Lib.hid HT2'
        clear HT1 HT2 HT1' HT2' hpos
        go_wp2_with (at_builtin; refine wpList_append_own_at _ rfl _ _ 42 rfl w2.heap.size 2 i0 _ 1 8 Tryz.underlying42 hi hz0 hz1 hz2 rfl (by decide) _ _ _ rfl C4.out ⟨w3.heap.size, 0, none⟩ 1 1 [.int .i64 (wrap64 num)] rfl rfl (new_cells _ _ _) (one1 _ _) (by unfold maxLen; omega) (by omega) (by simp; omega) ?_)
        intro v4 w4 hown hgr hloc
        have B4 : Hid (Below w2.heap.size w2 w4) := (onward (below_alloc _ _) B3.out).grown hgr (by simp; omega) (fun k hk => (C4.out.lt k hk).1)
        have C5 : Hid (w4.ownsRow w2.heap.size 2 1 v4 (((sumsL D).take (j + 1)).filter nposB).length ((((sumsL D).take (j + 1)).filter nposB).map (Value.int .i64))) := by
          show World.ownsRow _ _ _ _ _ _ _
          rw [HQ2.out, List.length_append, List.map_append]
          exact hown
        have AR2 : ∀ k, u8.ownBlock = some k → u7.ownBlock ≠ some k := fun k h1 h2 => AR.out k h2 h1
        have D5 : Hid (w4.ownsRow w2.heap.size 2 1 u7 (((sumsL D).take (j + 1)).filter posB).length ((((sumsL D).take (j + 1)).filter posB).map (Value.int .i64))) := by
          show World.ownsRow _ _ _ _ _ _ _
          rw [HQ1.out]
          exact apart_old AR2 D4.out hgr
        have A5 : Hid (∀ k, u7.ownBlock = some k → v4.ownBlock ≠ some k) := fun k h1 h2 => apart_new (m := w3.heap.size + 1) (fun k hk => by have := (D4.out.lt k hk).2; simp at this; omega) AR2 hloc k h2 h1
        clear hown hgr hloc D3 C3 D4 C4 AR2
        go_wp2_with fail
        go_roundw
        case rel => exact ⟨j + 1, by omega, by go_num, D5.out, C5.out, A5.out, B4.out⟩
        case measure => simp [intOf]; omega
    · have dk : decide ((j : Int) < (((scanL D [98]).length : Nat) : Int)) = false := decide_eq_false (by omega)
      have hjl : (sumsL D).take j = sumsL D := List.take_of_length_le (by unfold sumsL; rw [List.length_map]; omega)
      have hin : ∀ p : Int → Bool, ∀ x ∈ (sumsL D).filter p, -9223372036854775808 ≤ x ∧ x ≤ 9223372036854775807 := fun p x hx => by
        have h1 := (List.mem_filter.1 hx).1
        unfold sumsL at h1
        obtain ⟨y, -, rfl⟩ := List.mem_map.1 h1
        unfold wrap64
        omega
      have hfl : ∀ p : Int → Bool, ((sumsL D).filter p).length ≤ 1000000 := fun p => Nat.le_trans (List.length_filter_le _ _) (by have := HLL.out; have := HN.out; omega)
      have D9 := DR.out
      have C9 := CR.out
      rw [hjl] at D9 C9
      have S1 := Lib.hid (sum_any _ _ wr (IntsAt.of_own D9) (hfl _) (hin _))
      have S2 := Lib.hid (sum_any _ _ wr (IntsAt.of_own C9) (hfl _) (hin _))
      have HO : Hid (sumsO (sumsL D) = if (sumE ((sumsL D).filter posB)).2 ≠ 0 then (0, 0, (sumE ((sumsL D).filter posB)).2) else if (sumE ((sumsL D).filter nposB)).2 ≠ 0 then (0, 0, (sumE ((sumsL D).filter nposB)).2) else ((sumE ((sumsL D).filter posB)).1, (sumE ((sumsL D).filter nposB)).1, 0)) := rfl
      generalize sumE ((sumsL D).filter posB) = r1 at *
      generalize sumE ((sumsL D).filter nposB) = r2 at *
      obtain ⟨a1, f1⟩ := r1
      obtain ⟨a2, f2⟩ := r2
      dsimp only at S1 S2 HO
      clear hjl hin hfl D9 C9 DR CR AR
      go_wp2_with fail
      refine S1.out.mono ?_
      rintro e w4 ⟨rfl, rfl⟩
      have BF := Lib.hid (onward BR.out B2.out)
      by_cases h1 : f1 = 0
      · subst h1
        go_wp2_with fail
        refine S2.out.mono ?_
        rintro e w5 ⟨rfl, rfl⟩
        by_cases h2 : f2 = 0
        · subst h2
          have ho := HO.out
          rw [if_neg (fun h => h rfl), if_neg (fun h => h rfl)] at ho
          have HR := Lib.hid ho
          clear S1 S2 HO ho
          go_wp2_with fail
          go_ret3
          exact ⟨by rw [HR.out]; rfl, BF.out⟩
        · have ho := HO.out
          rw [if_neg (fun h => h rfl), if_pos h2] at ho
          have HR := Lib.hid ho
          clear S1 S2 HO ho
          go_wp2_with fail
          go_ret3
          exact ⟨by rw [HR.out]; rfl, BF.out⟩
      · have ho := HO.out
        rw [if_pos h1] at ho
        have HR := Lib.hid ho
        clear S1 S2 HO ho
        go_wp2_with fail
        go_ret3
        exact ⟨by rw [HR.out]; rfl, BF.out⟩
end Go.Proofs.YtecbnhmnhcpcmaaGreatDoor
