/- The walk of the reference's Even. -/
import Derived.Test.YtecbnhmnhcpcmaaGreatDoorPkJournalPlays36
import Derived.Test.YtecbnhmnhcpcmaaGreatDoorPkJournalPlays31
/-! The walk of the reference's Even. -/
namespace Go.Proofs.YtecbnhmnhcpcmaaGreatDoor
open Go.RowKit Go.WideMaps Go.Maps
set_option linter.unusedVariables false
set_option linter.unusedSimpArgs false
set_option maxRecDepth 100000
theorem take_snoc {L : List Pt} {k : Nat} {p : Pt} (h : L[k]? = some p) : L.take (k + 1) = L.take k ++ [p] := by rw [List.take_add_one, h]; rfl
set_option maxHeartbeats 2000000 in
theorem reven_any (lv : Value) (L : List Pt) (w : World) (hl : RowsIn w lv 2 (L.map Pt.cells)) (hn : L.length ≤ 40) (hs : ∀ q ∈ L, q.a.size ≤ 100 ∧ Acct.inInt q.n) : Calls Tryz.prog 24 #[lv] w fun e w' => e = .returned (.bool (evenB allP L && evenB unitP L)) ∧ Below w.heap.size w w' := by
  have HL := Lib.hid hl
  have HS := Lib.hid hs
  obtain ⟨a, c, rfl⟩ := pt_form hl
  obtain ⟨i0, hi, hz0, hz1, hz2⟩ := info_parts infoI64
  clear hl hs
  go_enter Tryz.func24, Tryz.ntmps24
  go_wp2_with fail
  go_loopw [3, 4, 5] (fun dv cv iv wr => ∃ k : Nat, k ≤ L.length ∧ iv = .int .i64 k ∧ Hid (wr.ownsRow w.heap.size 2 1 dv ((L.take k).map Pt.n).length (((L.take k).map Pt.n).map (Value.int .i64))) ∧ Hid (wr.ownsRow w.heap.size 2 1 cv (((L.take k).filter unitP).map Pt.n).length ((((L.take k).filter unitP).map Pt.n).map (Value.int .i64))) ∧ Hid (∀ b, dv.ownBlock = some b → cv.ownBlock ≠ some b) ∧ Hid (Below w.heap.size w wr)) (fun _ _ iv _ => L.length - (intOf iv).toNat)
  case atStart => exact ⟨0, by omega, rfl, World.ownsRow_nil _ _ _ _, World.ownsRow_nil _ _ _ _, none_block, Below.refl _ _⟩
  case round =>
    obtain ⟨k, hk, rfl, DR, CR, AR, BR⟩ := hrel
    by_cases hlt : k < L.length
    · obtain ⟨g, o, rfl, y0, y1⟩ := pt_cells HL.out k hlt
      have hz : (k : Int) < (L.length : Int) := by omega
      have hsz := (HS.out L[k] (List.getElem_mem hlt)).1
      have hT := take_snoc (L := L) (k := k) (p := L[k]) (List.getElem?_eq_getElem hlt)
      have hT1 : (L.take (k + 1)).map Pt.n = (L.take k).map Pt.n ++ [L[k].n] := by rw [hT, List.map_append]; rfl
      have hT2 : ((L.take (k + 1)).filter unitP).map Pt.n = ((L.take k).filter unitP).map Pt.n ++ (if unitP L[k] = true then [L[k].n] else []) := by
        rw [hT, List.filter_append, List.map_append]
        by_cases h : unitP L[k] = true
        · rw [if_pos h, List.filter_cons_of_pos h]; rfl
        · rw [if_neg h, List.filter_cons_of_neg h]; rfl
      have hfl : (((L.take k).filter unitP).map Pt.n).length ≤ 40 := by rw [List.length_map]; exact Nat.le_trans (List.length_filter_le _ _) (by rw [List.length_take]; omega)
      have hyl : ((L.take k).map Pt.n).length ≤ 40 := by rw [List.length_map, List.length_take]; omega
      have HT1 := Lib.hid hT1
      have HT2 := Lib.hid hT2
      generalize L[k] = p at *
      obtain ⟨s, n⟩ := p
      dsimp only at y0 y1 hsz HT1 HT2
      generalize (L.take k).map Pt.n = ys at *
      generalize ((L.take k).filter unitP).map Pt.n = zs at *
      have KX : Hid (∀ W, Below w.heap.size w W → W.cell? ⟨g, o + k * 2, none⟩ = some (.string s) ∧ W.cell? ⟨g, o + k * 2 + 1, none⟩ = some (.int .i64 n)) := by
        have q0 := y0; have q1 := y1
        exact fun W hb => ⟨stays hb q0, stays hb q1⟩
      replace y1 := stays BR.out y1
      have D4 := Lib.hid (DR.out.alloc (.cells #[.int .i64 n] 2))
      have C4 := Lib.hid (CR.out.alloc (.cells #[.int .i64 n] 2))
      have hs3 := BR.out.size
      clear hT hT1 hT2 y0
      go_wp2_with (at_builtin; refine wpList_append_own_at _ rfl (.tmp 16) (.tmp 22) 42 rfl w.heap.size 2 i0 _ 1 8 Tryz.underlying42 hi hz0 hz1 hz2 rfl (by decide) _ _ _ rfl D4.out ⟨wr.heap.size, 0, none⟩ 1 1 [.int .i64 n] rfl rfl (new_cells _ _ _) (one1 _ _) (by unfold maxLen; omega) (by omega) (by simp; omega) ?_)
      intro v4 w4 hown hgr hloc
      have B4 : Hid (Below w.heap.size w w4) := (onward (below_alloc _ _) BR.out).grown hgr (by simp; omega) (fun k hk => (D4.out.lt k hk).1)
      have D5 : Hid (w4.ownsRow w.heap.size 2 1 v4 ((L.take (k + 1)).map Pt.n).length (((L.take (k + 1)).map Pt.n).map (Value.int .i64))) := by
        show World.ownsRow _ _ _ _ _ _ _
        rw [HT1.out, List.length_append, List.map_append]
        exact hown
      have C5 : Hid (w4.ownsRow w.heap.size 2 1 u4 zs.length (zs.map (Value.int .i64))) := apart_old AR.out C4.out hgr
      have A5 : Hid (∀ b, v4.ownBlock = some b → u4.ownBlock ≠ some b) := apart_new (m := wr.heap.size + 1) (fun k hk => by have := (C4.out.lt k hk).2; simp at this; omega) AR.out hloc
      obtain ⟨z0, z1⟩ := KX.out w4 B4.out
      have UX := Lib.hid (runits_any s w4 (by omega))
      have HU : Hid (unitsB s.data.toList = unitP ⟨s, n⟩) := rfl
      rw [HU.out] at UX
      clear hown hgr hloc D4 C4 DR CR AR y1
      cases hu : unitP ⟨s, n⟩
      · rw [hu] at UX
        have HT2' := HT2.out
        rw [hu, if_neg (by decide), List.append_nil] at HT2'
        have C6 : Hid (w4.ownsRow w.heap.size 2 1 u4 (((L.take (k + 1)).filter unitP).map Pt.n).length ((((L.take (k + 1)).filter unitP).map Pt.n).map (Value.int .i64))) := by rw [HT2']; exact C5.out
        clear HT2' HU hu HT2
        go_wp2_with fail
        refine UX.out.mono ?_
        rintro e w5 ⟨rfl, hb⟩
        have B5 := Lib.hid (onward hb B4.out)
        have D7 := Lib.hid (ownsRow_below D5.out hb)
        have C7 := Lib.hid (ownsRow_below C6.out hb)
        clear hb UX z0 z1
        go_wp2_with fail
        go_roundw
        case rel => exact ⟨k + 1, by omega, by go_num, D7.out, C7.out, A5.out, B5.out⟩
        case measure => simp [intOf]; omega
      · rw [hu] at UX
        have HT2' := HT2.out
        rw [hu, if_pos rfl] at HT2'
        have HQ := Lib.hid HT2'
        clear HT2' HU hu HT2
        go_wp2_with fail
        refine UX.out.mono ?_
        rintro e w5 ⟨rfl, hb⟩
        have B5 := Lib.hid (onward hb B4.out)
        have D7 := Lib.hid (ownsRow_below D5.out hb)
        have C7 := Lib.hid (ownsRow_below C5.out hb)
        obtain ⟨z0, z1⟩ := KX.out w5 B5.out
        have D8 := Lib.hid (D7.out.alloc (.cells #[.int .i64 n] 2))
        have C8 := Lib.hid (C7.out.alloc (.cells #[.int .i64 n] 2))
        have hs5 := B5.out.size
        clear hb UX
        go_wp2_with (at_builtin; refine wpList_append_own_at _ rfl (.tmp 30) (.tmp 36) 42 rfl w.heap.size 2 i0 _ 1 8 Tryz.underlying42 hi hz0 hz1 hz2 rfl (by decide) _ _ _ rfl C8.out ⟨w5.heap.size, 0, none⟩ 1 1 [.int .i64 n] rfl rfl (new_cells _ _ _) (one1 _ _) (by unfold maxLen; omega) (by omega) (by simp; omega) ?_)
        intro v6 w6 hown hgr hloc
        have B6 : Hid (Below w.heap.size w w6) := (onward (below_alloc _ _) B5.out).grown hgr (by simp; omega) (fun k hk => (C8.out.lt k hk).1)
        have C9 : Hid (w6.ownsRow w.heap.size 2 1 v6 (((L.take (k + 1)).filter unitP).map Pt.n).length ((((L.take (k + 1)).filter unitP).map Pt.n).map (Value.int .i64))) := by
          show World.ownsRow _ _ _ _ _ _ _
          rw [HQ.out, List.length_append, List.map_append]
          exact hown
        have AR2 : ∀ b, u4.ownBlock = some b → v4.ownBlock ≠ some b := fun b h1 h2 => A5.out b h2 h1
        have D9 : Hid (w6.ownsRow w.heap.size 2 1 v4 ((L.take (k + 1)).map Pt.n).length (((L.take (k + 1)).map Pt.n).map (Value.int .i64))) := apart_old AR2 D8.out hgr
        have A9 : Hid (∀ b, v4.ownBlock = some b → v6.ownBlock ≠ some b) := fun b h1 h2 => apart_new (m := w5.heap.size + 1) (fun k hk => by have := (D8.out.lt k hk).2; simp at this; omega) AR2 hloc b h2 h1
        clear hown hgr hloc D8 C8 D7 C7 AR2 z0 z1
        go_wp2_with fail
        go_roundw
        case rel => exact ⟨k + 1, by omega, by go_num, D9.out, C9.out, A9.out, B6.out⟩
        case measure => simp [intOf]; omega
    · have dk : decide ((k : Int) < ((L.length : Nat) : Int)) = false := decide_eq_false (by omega)
      have hkl : L.take k = L := List.take_of_length_le (by omega)
      have D9 := DR.out
      have C9 := CR.out
      rw [hkl] at D9 C9
      have h1 : ∀ x ∈ L.map Pt.n, Acct.inInt x := fun x hx => by
        obtain ⟨q, hq, rfl⟩ := List.mem_map.1 hx
        exact (HS.out q hq).2
      have h2 : ∀ x ∈ (L.filter unitP).map Pt.n, Acct.inInt x := fun x hx => by
        obtain ⟨q, hq, rfl⟩ := List.mem_map.1 hx
        exact (HS.out q (List.mem_filter.1 hq).1).2
      have l1 : (L.map Pt.n).length < 1000000 := by rw [List.length_map]; omega
      have l2 : ((L.filter unitP).map Pt.n).length < 1000000 := by rw [List.length_map]; exact Nat.lt_of_le_of_lt (List.length_filter_le _ _) (by omega)
      have I1 := Lib.hid (IntsAt.of_own D9)
      have I2 := Lib.hid (IntsAt.of_own C9)
      have S1 := Lib.hid (rsum_any _ _ wr I1.out l1 h1)
      have S2 := Lib.hid (fun (W : World) (hb : Below wr.heap.size wr W) => rsum_any _ _ W (I2.out.below hb) l2 h2)
      have HE1 : Hid (evenB allP L = decide ((sumE (L.map Pt.n)).2 = 0 ∧ (sumE (L.map Pt.n)).1 = 0)) := by
        show _ = _
        unfold evenB
        rw [List.filter_eq_self.2 (fun q _ => (rfl : allP q = true))]
        exact decide_eq_decide.2 (sum_zero _).symm
      have HE2 : Hid (evenB unitP L = decide ((sumE ((L.filter unitP).map Pt.n)).2 = 0 ∧ (sumE ((L.filter unitP).map Pt.n)).1 = 0)) := by
        show _ = _
        unfold evenB
        exact decide_eq_decide.2 (sum_zero _).symm
      generalize sumE (L.map Pt.n) = r1 at *
      generalize sumE ((L.filter unitP).map Pt.n) = r2 at *
      obtain ⟨a1, f1⟩ := r1
      obtain ⟨a2, f2⟩ := r2
      dsimp only at S1 S2 HE1 HE2
      obtain ⟨eb, heb⟩ : ∃ b, b = (evenB allP L && evenB unitP L) := ⟨_, rfl⟩
      have HEB : Hid (eb = (decide (f1 = 0 ∧ a1 = 0) && decide (f2 = 0 ∧ a2 = 0))) := by
        show _ = _
        rw [heb, HE1.out, HE2.out]
      have HEE := Lib.hid heb
      clear hkl D9 C9 h1 h2 l1 l2 DR CR AR heb HE1 HE2 I1 I2
      go_wp2_with fail
      refine S1.out.mono ?_
      rintro e w4 ⟨rfl, hb4⟩
      have B4 := Lib.hid (onward hb4 BR.out)
      have T2 := Lib.hid (S2.out w4 hb4)
      clear S1 S2 hb4
      go_wp2_with fail
      refine T2.out.mono ?_
      rintro e w5 ⟨rfl, hb5⟩
      have B5 := Lib.hid (onward hb5 B4.out)
      clear T2 hb5
      by_cases p1 : a1 = 0
      · by_cases p2 : a2 = 0
        · by_cases p3 : f1 = 0
          · by_cases p4 : f2 = 0
            · have hr : eb = true := by rw [HEB.out, decide_eq_true ⟨p3, p1⟩, decide_eq_true ⟨p4, p2⟩]; rfl
              subst p1; subst p2; subst p3; subst p4
              have HR := Lib.hid hr
              clear hr
              go_wp2_with fail
              go_ret
              exact ⟨by rw [← HEE.out, HR.out]; rfl, B5.out⟩
            · have hr : eb = false := by rw [HEB.out, decide_eq_false (fun h => p4 h.1 : ¬ (f2 = 0 ∧ a2 = 0)), Bool.and_false]
              have d4 : (f2 == 0) = false := by rw [beq_eq_false_iff_ne]; exact p4
              have HR := Lib.hid hr
              clear hr
              go_wp2_with fail
              go_ret
              exact ⟨by rw [← HEE.out, HR.out]; rfl, B5.out⟩
          · have hr : eb = false := by rw [HEB.out, decide_eq_false (fun h => p3 h.1 : ¬ (f1 = 0 ∧ a1 = 0)), Bool.false_and]
            have HR := Lib.hid hr
            clear hr
            go_wp2_with fail
            go_ret
            exact ⟨by rw [← HEE.out, HR.out]; rfl, B5.out⟩
        · have hr : eb = false := by rw [HEB.out, decide_eq_false (fun h => p2 h.2 : ¬ (f2 = 0 ∧ a2 = 0)), Bool.and_false]
          have HR := Lib.hid hr
          clear hr
          go_wp2_with fail
          go_ret
          exact ⟨by rw [← HEE.out, HR.out]; rfl, B5.out⟩
      · have hr : eb = false := by rw [HEB.out, decide_eq_false (fun h => p1 h.2 : ¬ (f1 = 0 ∧ a1 = 0)), Bool.false_and]
        have HR := Lib.hid hr
        clear hr
        go_wp2_with fail
        go_ret
        exact ⟨by rw [← HEE.out, HR.out]; rfl, B5.out⟩
end Go.Proofs.YtecbnhmnhcpcmaaGreatDoor
