/- The walk of quota.Split, joined. -/
import Derived.Test.YtbjofejloeppkaaDoorQuB
import Derived.Laws.AppendOwnNone
namespace Go.Proofs.YtbjofejloeppkaaDoor
open Go.RowKit Go.Shelf Acct
set_option linter.unusedVariables false
set_option linter.unusedSimpArgs false
theorem out_start {W w5 : World} {pv : Value} {dl : List (ByteArray × Int)} {o : Nat} (ho : W.heap.size = o) (hb : Below (W.alloc (.cells #[.slice none 0 0] 39)).heap.size (W.alloc (.cells #[.slice none 0 0] 39)) w5)
    (hown : w5.ownsRow (W.alloc (.cells #[.slice none 0 0] 39)).heap.size 42 2 pv dl.length (partsC dl)) : OutIs o [] pv dl w5 := by
  subst ho
  refine ⟨.slice none 0 0, stays_block hb (heap_alloc_new _ _), World.ownsRow_nil _ _ _ _, by simpa using hown, ?_⟩
  cases h : pv.ownBlock
  · exact .inl rfl
  · exact .inr (by simp [Value.ownBlock])
def wUse : ByteArray := ⟨#[117, 115, 101]⟩
def wFree : ByteArray := ⟨#[102, 114, 101, 101]⟩
def wOver : ByteArray := ⟨#[111, 118, 101, 114]⟩
def wDay : ByteArray := ⟨#[100, 97, 121]⟩
abbrev wDays : ByteArray := ⟨#[100, 97, 121, 115]⟩
def addL (l : List (ByteArray × Int)) (word : ByteArray) (t n am : Int) : List (ByteArray × Int) := if am = 0 then l else l ++ [(nameB word [t, n], am)]
theorem drawL_len (t : Int) : ∀ (ls : List (Int × Int × Int)) (r : Int), (drawL t r ls).length ≤ ls.length
  | [], _ => by simp [drawL]
  | x :: l, r => by
    unfold drawL
    split
    · have := drawL_len t l (r - min r x.2.2); simp; omega
    · have := drawL_len t l r; simp; omega
theorem drawR_bd : ∀ (ls : List (Int × Int × Int)) (r : Int), 0 ≤ r → 0 ≤ drawR r ls ∧ drawR r ls ≤ r
  | [], r, h => by simp [drawR, h]
  | x :: l, r, h => by
    unfold drawR
    split
    · have := drawR_bd l (r - min r x.2.2) (by omega); omega
    · exact drawR_bd l r h
theorem partsC_one (l : List (ByteArray × Int)) : ∀ u ∈ partsC l, u.oneCell' = true := by
  intro u hu
  obtain ⟨p, _, hp⟩ := List.mem_flatMap.1 hu
  exact one2 _ _ _ u hp
theorem app_none {W w7 : World} {o x : Nat} {v7 : Value} {d7 : List (ByteArray × Int)} {t : Int} (ho : W.heap.size ≤ o) (B7 : Below W.heap.size W w7) (HV : w7.heap[o]? = some (.cells #[v7] 39 (0, 0))) (HO : w7.ownsRow (o + 1) 42 2 v7 d7.length (partsC d7)) (ct : w7.cell? ⟨x, 0, none⟩ = some (.int .u32 t)) (hx : x < o) :
    Below W.heap.size W (w7.setCell ⟨o, 0, none⟩ v7) ∧ OutIs o (d7 ++ []) (.slice none 0 0) [] (w7.setCell ⟨o, 0, none⟩ v7) ∧ (w7.setCell ⟨o, 0, none⟩ v7).cell? ⟨x, 0, none⟩ = some (.int .u32 t) := by
  refine ⟨B7.setCell ho _, ⟨v7, one_setCell HV, ?_, World.ownsRow_nil _ _ _ _, .inl rfl⟩, (World.cell?_setCell_other _ _ _ _ (by intro e; injection e with e; omega)).trans ct⟩
  rw [List.append_nil]
  exact ownsRow_setCell_other (a := ⟨o, 0, none⟩) HO (fun e => by have := (HO.lt o e).1; omega) v7
theorem app_some {W w7 w8 : World} {o x : Nat} {v7 v8 : Value} {d7 dl : List (ByteArray × Int)} {t : Int} (ho : W.heap.size ≤ o) (B7 : Below W.heap.size W w7) (HV : w8.heap[o]? = some (.cells #[v7] 39 (0, 0))) (HO : w7.ownsRow (o + 1) 42 2 v7 d7.length (partsC d7)) (ct : w7.cell? ⟨x, 0, none⟩ = some (.int .u32 t)) (hx : x < o)
    (hg : w7.grownBy w8 v7.ownBlock) (hown : w8.ownsRow (o + 1) 42 2 v8 (d7.length + dl.length) (partsC d7 ++ partsC dl)) :
    Below W.heap.size W (w8.setCell ⟨o, 0, none⟩ v8) ∧ OutIs o (d7 ++ dl) (.slice none 0 0) [] (w8.setCell ⟨o, 0, none⟩ v8) ∧ (w8.setCell ⟨o, 0, none⟩ v8).cell? ⟨x, 0, none⟩ = some (.int .u32 t) := by
  have hrow : ∀ k, v7.ownBlock = some k → o + 1 ≤ k := fun k hk => (HO.lt k hk).1
  refine ⟨(B7.grown hg B7.size (fun k hk => by have := hrow k hk; omega)).setCell ho _, ⟨v8, one_setCell HV, ?_, World.ownsRow_nil _ _ _ _, .inl rfl⟩, (World.cell?_setCell_other _ _ _ _ (by intro e; injection e with e; omega)).trans (hg.cell ct (fun e => by have := hrow x e.symm; omega))⟩
  have h1 := ownsRow_setCell_other (a := ⟨o, 0, none⟩) hown (fun e => by have := (hown.lt o e).1; omega) v8
  unfold partsC at *
  rw [List.flatMap_append, List.length_append]
  exact h1
/-- what Split answers (units are at least 1) -/
def splitL (t units : Int) (ls : List (Int × Int × Int)) (da mo room free : Int) : List (ByteArray × Int) :=
  addL (addL (addL (addL [] wUse t mo units) wFree t mo (-(min units (max 0 (room - free)))) ++ drawL t (max 0 (units - min units (max 0 (room - free)))) ls) wOver t mo (-(drawR (max 0 (units - min units (max 0 (room - free)))) ls))) wDay t da units ++ [(nameB wDays [t], -units)]
theorem split_close {w W w4 : World} {o : Nat} {d : List (ByteArray × Int)} {rv : Value} (ho : w.heap.size ≤ o + 1) (BW : Below w.heap.size w W) (B : Below W.heap.size W w4) (h : OutIs o d (.slice none 0 0) [] w4) (hr : w4.heap[o]? = some (.cells #[rv] 39 (0, 0))) : Below w.heap.size w w4 ∧ w4.ownsRow w.heap.size 42 2 rv d.length (partsC d) := by
  obtain ⟨v, hv, hown, -, -⟩ := h
  obtain rfl : v = rv := by
    rw [hv] at hr
    injection hr with hr
    injection hr with hr
    simpa using hr
  refine ⟨onward B BW, ?_⟩
  obtain ⟨hl, h1 | ⟨g, cap, cur, h1, h2, h3⟩⟩ := hown
  · exact ⟨hl, .inl h1⟩
  · exact ⟨hl, .inr ⟨g, cap, cur, h1, by omega, h3⟩⟩
theorem lit1d (w : World) (x : Int) (T : Nat) : IntsAt (w.alloc (.cells #[.int .i64 x] T)).drew (.slice (some ⟨w.heap.size, 0, none⟩) 1 1) [x] := by
  refine IntsAt.below (w := w.alloc (.cells #[.int .i64 x] T)) ⟨_, 1, rfl, fun i hi => ⟨w.heap.size, 0, rfl, ?_⟩⟩ (Below.refl _ _).drew
  rw [Nat.zero_add, World.cell?_alloc_new]
  obtain rfl : i = 0 := by simp at hi; omega
  rfl
attribute [local go_sem ↓] Go.wp_at_zero Go.wp_at_succ
set_option maxHeartbeats 4000000 in
set_option maxRecDepth 10000000 in
theorem split_any (t units : Int) (v : Value) (ls : List (Int × Int × Int)) (sh da mo pl h0 h1 h2 room used held free ou ov pk : Int) (w : World) (hP : Pow w) (hL : LeftsAt w v ls)
    (ht : 0 ≤ t ∧ t < 4294967296) (hls : ∀ x ∈ ls, 0 ≤ x.1 ∧ x.1 < 4294967296) (hll : ls.length ≤ 1000) (hu : 1 ≤ units ∧ units ≤ 1152921504606846976) (hr : 0 ≤ room ∧ room ≤ 1152921504606846976) (hf : 0 ≤ free ∧ free ≤ 1152921504606846976) (hmo : inInt mo) (hda : inInt da) :
    Calls Tryd.prog 10 #[.int .u32 t, .agg #[.int .i64 sh, .int .i64 da, .int .i64 mo, .int .u32 pl], .agg #[.int .i64 h0, .int .i64 h1, .int .i64 h2, .int .i64 room, .int .i64 used, .int .i64 held, .int .i64 free, .int .i64 ou, .int .i64 ov, .int .i64 pk], v, .int .i64 units] w fun e w' => ∃ rv, e = .returned rv ∧ Below w.heap.size w w' ∧ w'.ownsRow w.heap.size 42 2 rv (splitL t units ls da mo room free).length (partsC (splitL t units ls da mo room free)) := by
  have HP := Lib.hid hP
  have HLs := Lib.hid hL
  have HX := Lib.hid hls
  clear hP hL hls
  obtain ⟨fr, hfr⟩ : ∃ fr, min units (max 0 (room - free)) = fr := ⟨_, rfl⟩
  have hfb : 0 ≤ fr ∧ fr ≤ units := by omega
  go_enter Tryd.func10, Tryd.ntmps10
  go_wp2_with fail
  clear hr hf
  have hsz : (((w.alloc (.cells #[.int .u32 t] 24)).alloc (.cells #[.int .i64 sh, .int .i64 da, .int .i64 mo, .int .u32 pl] 31)).alloc (.cells #[.int .i64 h0, .int .i64 h1, .int .i64 h2, .int .i64 room, .int .i64 used, .int .i64 held, .int .i64 free, .int .i64 ou, .int .i64 ov, .int .i64 pk] 23)).heap.size = w.heap.size + 1 + 1 + 1 := by simp
  have ct : (((w.alloc (.cells #[.int .u32 t] 24)).alloc (.cells #[.int .i64 sh, .int .i64 da, .int .i64 mo, .int .u32 pl] 31)).alloc (.cells #[.int .i64 h0, .int .i64 h1, .int .i64 h2, .int .i64 room, .int .i64 used, .int .i64 held, .int .i64 free, .int .i64 ou, .int .i64 ov, .int .i64 pk] 23)).cell? ⟨w.heap.size, 0, none⟩ = some (.int .u32 t) := by simp [go_sem]
  have cd : (((w.alloc (.cells #[.int .u32 t] 24)).alloc (.cells #[.int .i64 sh, .int .i64 da, .int .i64 mo, .int .u32 pl] 31)).alloc (.cells #[.int .i64 h0, .int .i64 h1, .int .i64 h2, .int .i64 room, .int .i64 used, .int .i64 held, .int .i64 free, .int .i64 ou, .int .i64 ov, .int .i64 pk] 23)).cell? ⟨w.heap.size + 1, 1, none⟩ = some (.int .i64 da) := by simp [go_sem]
  have cm : (((w.alloc (.cells #[.int .u32 t] 24)).alloc (.cells #[.int .i64 sh, .int .i64 da, .int .i64 mo, .int .u32 pl] 31)).alloc (.cells #[.int .i64 h0, .int .i64 h1, .int .i64 h2, .int .i64 room, .int .i64 used, .int .i64 held, .int .i64 free, .int .i64 ou, .int .i64 ov, .int .i64 pk] 23)).cell? ⟨w.heap.size + 1, 2, none⟩ = some (.int .i64 mo) := by simp [go_sem]
  have BW : Below w.heap.size w (((w.alloc (.cells #[.int .u32 t] 24)).alloc (.cells #[.int .i64 sh, .int .i64 da, .int .i64 mo, .int .u32 pl] 31)).alloc (.cells #[.int .i64 h0, .int .i64 h1, .int .i64 h2, .int .i64 room, .int .i64 used, .int .i64 held, .int .i64 free, .int .i64 ou, .int .i64 ov, .int .i64 pk] 23)) := onward (below_alloc _ _) (onward (below_alloc _ _) (below_alloc _ _))
  generalize ((w.alloc (.cells #[.int .u32 t] 24)).alloc (.cells #[.int .i64 sh, .int .i64 da, .int .i64 mo, .int .u32 pl] 31)).alloc (.cells #[.int .i64 h0, .int .i64 h1, .int .i64 h2, .int .i64 room, .int .i64 used, .int .i64 held, .int .i64 free, .int .i64 ou, .int .i64 ov, .int .i64 pk] 23) = W at *
  refine (draw_any t (units - fr) v ls _ (pow_below HP.out (onward (below_alloc _ _) BW)) (HLs.out.below (onward (below_alloc _ _) BW)) ht HX.out ⟨by omega, by omega⟩ (by omega)).mono ?_
  rintro e w5 ⟨pv, rfl, hb, hown⟩
  have O5 := Lib.hid (out_start hsz hb hown)
  have B5 : Hid (Below W.heap.size W w5) := (below_alloc _ _).trans (hb.mono (by simp))
  clear hb hown
  obtain ⟨ov2, hov2⟩ : ∃ z, drawR (max 0 (units - fr)) ls = z := ⟨_, rfl⟩
  obtain ⟨dl, hdl⟩ : ∃ z, drawL t (max 0 (units - fr)) ls = z := ⟨_, rfl⟩
  rw [hov2]
  rw [hdl] at O5
  have hovb : 0 ≤ ov2 ∧ ov2 ≤ units := by have := drawR_bd ls (max 0 (units - fr)) (by omega); rw [hov2] at this; omega
  have hdll : dl.length ≤ 1000 := by have := drawL_len t ls (max 0 (units - fr)); rw [hdl] at this; omega
  have HOV := Lib.hid hov2
  have HDL := Lib.hid hdl
  clear hov2 hdl
  have ct5 := stays B5.out ct
  have cd5 := stays B5.out cd
  have cm5 := stays B5.out cm
  go_wp2_with fail
  refine (add_any wUse mo units t (w.heap.size + 1 + 1 + 1) w.heap.size [] pv dl W w5 (pow_below HP.out (onward B5.out BW)) (by omega) B5.out O5.out ct5 (by omega) (by simp) ht hmo (by decide)).mono ?_
  rintro e w6 ⟨rfl, B6', O6', ct6⟩
  have B6 := Lib.hid B6'
  have O6 := Lib.hid O6'
  have cd6 := stays B6.out cd
  have cm6 := stays B6.out cm
  clear B6' O6' B5 O5 ct5 cd5 cm5
  go_wp2_with fail
  refine (add_any wFree mo (-fr) t (w.heap.size + 1 + 1 + 1) w.heap.size (addL [] wUse t mo units) pv dl W w6 (pow_below HP.out (onward B6.out BW)) (by omega) B6.out O6.out ct6 (by omega) (by unfold addL; split <;> simp) ht hmo (by decide)).mono ?_
  rintro e w7 ⟨rfl, B7', O7', ct7⟩
  have B7 := Lib.hid B7'
  have O7 := Lib.hid O7'
  have cd7 := stays B7.out cd
  have cm7 := stays B7.out cm
  clear B7' O7' B6 O6 ct6 cd6 cm6
  change Hid (OutIs _ (addL (addL [] wUse t mo units) wFree t mo (-fr)) pv dl w7) at O7
  have hl7 : (addL (addL [] wUse t mo units) wFree t mo (-fr)).length ≤ 2 := by unfold addL; split <;> split <;> simp
  have hl70 : 1 ≤ (addL (addL [] wUse t mo units) wFree t mo (-fr)).length := by
    have hne : ¬ units = 0 := by omega
    unfold addL
    rw [if_neg hne]
    split <;> simp
  generalize hd7 : addL (addL [] wUse t mo units) wFree t mo (-fr) = d7 at *
  have HD7 := Lib.hid hd7
  clear hd7
  obtain ⟨v7, hv7, hown7, hdl7, hn7⟩ := O7.out
  obtain ⟨g7, cap7, rfl⟩ := own_form hown7 hl70
  have HO7 := Lib.hid hown7
  have HV7 := Lib.hid hv7
  have HN7 := Lib.hid hn7
  have hc7 := cell_of_one hv7
  have hf7 := free_of_one hv7
  clear O7 hown7 hv7 hn7
  obtain ⟨i0, hi, hz0, hz1, hz2⟩ := info_parts infoPart
  have HDL7 := Lib.hid hdl7
  obtain ⟨hlen, ⟨rfl, hz⟩ | ⟨g, cap, cur, rfl, hdr⟩⟩ := hdl7
  · obtain rfl : dl = [] := List.eq_nil_of_length_eq_zero hz
    clear HDL7 HN7
    go_wp2_with (at_builtin; refine wpList_append_own_none rfl _ _ 39 rfl (w.heap.size + 1 + 1 + 1 + 1) 42 i0 2 Tryd.underlying39 hi _ _ _ rfl HO7.out rfl ?_)
    have Z9 := Lib.hid (app_none (o := w.heap.size + 1 + 1 + 1) (W := W) (by omega) B7.out HV7.out HO7.out ct7 (by omega))
    generalize w7.setCell ⟨w.heap.size + 1 + 1 + 1, 0, none⟩ (.slice (some ⟨g7, 0, none⟩) d7.length cap7) = w9 at *
    have B9 := Lib.hid Z9.out.1
    have O9 := Lib.hid Z9.out.2.1
    have ct9 := Z9.out.2.2
    clear Z9 HO7 HV7 hc7 hf7 B7 ct7 cd7 cm7
    have cd9 := stays B9.out cd
    have cm9 := stays B9.out cm
    refine (add_any wOver mo (-ov2) t (w.heap.size + 1 + 1 + 1) w.heap.size (d7 ++ []) (.slice none 0 0) [] W w9 (pow_below HP.out (onward B9.out BW)) (by omega) B9.out O9.out ct9 (by omega) (by simp; omega) ht hmo (by decide)).mono ?_
    rintro e w10 ⟨rfl, B10', O10', ct10⟩
    have B10 := Lib.hid B10'
    have O10 := Lib.hid O10'
    have cd10 := stays B10.out cd
    have cm10 := stays B10.out cm
    clear B10' O10' B9 O9 ct9 cd9 cm9
    go_wp2_with fail
    refine (add_any wDay da units t (w.heap.size + 1 + 1 + 1) w.heap.size (addL (d7 ++ []) wOver t mo (-ov2)) (.slice none 0 0) [] W w10 (pow_below HP.out (onward B10.out BW)) (by omega) B10.out O10.out ct10 (by omega) (by unfold addL; split <;> simp <;> omega) ht hda (by decide)).mono ?_
    rintro e w11 ⟨rfl, B11', O11', ct11⟩
    have B11 := Lib.hid B11'
    have O11 := Lib.hid O11'
    clear B11' O11' B10 O10 ct10 cd10 cm10
    change Hid (OutIs _ (addL (addL (d7 ++ []) wOver t mo (-ov2)) wDay t da units) (.slice none 0 0) [] w11) at O11
    have hl11 : (addL (addL (d7 ++ []) wOver t mo (-ov2)) wDay t da units).length ≤ 1000006 := by unfold addL; split <;> split <;> simp <;> omega
    generalize hd11 : addL (addL (d7 ++ []) wOver t mo (-ov2)) wDay t da units = d11 at *
    have HD11 := Lib.hid hd11
    clear hd11
    obtain ⟨v11, hv11, hown11, -, -⟩ := O11.out
    have HO11 := Lib.hid hown11
    have HV11 := Lib.hid hv11
    have hc11 := cell_of_one hv11
    have hf11 := free_of_one hv11
    clear O11 hown11 hv11
    go_wp2_with fail
    have HDZ := Lib.hid (World.ownsRow_nil w11 (w.heap.size + 1 + 1 + 1 + 1) 42 2)
    have hwt : IntKind.i64.wrap t = t := IntWalk.i64_in t (by omega)
    have hwu : IntKind.i64.wrap (-units) = -units := IntWalk.i64_in _ (by omega)
    have HI2 : Hid (∀ z ∈ [t], inInt z) := by
      intro z hz
      simp only [List.mem_cons, List.not_mem_nil, or_false] at hz
      subst hz
      exact ⟨by omega, by omega⟩
    have hA : (w11.alloc (.cells #[.int .i64 t] 2)).cell? ⟨w.heap.size + 1 + 1 + 1, 0, none⟩ = some v11 := stays (below_alloc _ _) hc11
    have HPP := Lib.hid (pow_below HP.out (onward B11.out BW))
    clear HX HLs
    go_region_law (first | (go_simp; go_at_call 15; ((with_reducible refine (name_any wDays _ [t] _ (pow_below HPP.out (below_alloc _ _).drew) (lit1d w11 t 2) HI2.out (by simp) (by decide)).mono ?_); rintro e w1 ⟨rfl, hb⟩; have B1 := Lib.hid (via1 hb); clear hb; have hc1 := stays B1.out hc11; have hc2 : (w1.alloc (.cells #[.string (nameB wDays [t]), .int .i64 (-units)] 42)).cell? ⟨w.heap.size + 1 + 1 + 1, 0, none⟩ = some v11 := stays (below_alloc _ _) hc1)) | ((refine step_append_lies _ (by rfl) _ _ _ (by rfl) (w.heap.size + 1 + 1 + 1 + 1) 42 i0 _ 2 24 Tryd.underlying39 hi hz0 hz1 hz2 rfl (by decide) v11 d11.length (partsC d11) (by rfl) ((ownsRow_below HO11.out B1.out).alloc _) ⟨w1.heap.size, 0, none⟩ 1 1 [.string (nameB wDays [t]), .int .i64 (-units)] (by rfl) rfl (new_cells _ _ _) (one2 _ _ _) (by decide) (by unfold maxLen; omega) (by omega) (base_ok HV11.out B1.out) _ rfl ?_; intro g cap w3 hown3 hgrow3 hat3 hlt3; have HV3 := Lib.hid (grown_keeps ((ownsRow_below HO11.out B1.out).alloc _) hgrow3 (stays_block (below_alloc _ _) (stays_block B1.out HV11.out))); have hc3 := cell_of_one HV3.out; have hf3 := free_of_one HV3.out)))
    all_goals
      have HZ := Lib.hid (add_close (dv := .slice none 0 0) (dl := []) B11.out B1.out (by omega) (by omega) HO11.out HV11.out ct11 HDZ.out (.inl rfl) hat3 hown3 hgrow3 HV3.out)
      have HC := Lib.hid (split_close (by omega) BW HZ.out.1 HZ.out.2.1 (one_setCell HV3.out))
      have HS : Hid (splitL t units ls da mo room free = d11 ++ [(nameB wDays [t], -units)]) := by
        unfold Hid splitL
        rw [hfr, HDL.out, HOV.out, HD7.out, HD11.out]
      clear hown3 hgrow3 hat3 HV3 hc1 hc2 hA hc11 hf11
      go_wp2
      go_ret
      exact ⟨_, rfl, HC.out.1, by rw [HS.out]; exact HC.out.2⟩
  · clear hdr
    go_wp2_with (at_builtin; refine wpList_append_own _ rfl _ _ 39 rfl (w.heap.size + 1 + 1 + 1 + 1) 42 i0 _ 2 24 Tryd.underlying39 hi hz0 hz1 hz2 rfl (by decide) _ _ _ rfl HO7.out ⟨g, 0, none⟩ dl.length cap (partsC dl) rfl hlen (HDL7.out.cells rfl) (partsC_one dl) (by unfold maxLen; omega) (by omega) (lt_of_block HV7.out) ?_)
    intro v8 w8 hown8 hg8 _
    obtain ⟨g8, cap8, rfl⟩ := own_form hown8 (by omega)
    have HV8 := Lib.hid (grown_keeps HO7.out hg8 HV7.out)
    have hc8 := cell_of_one HV8.out
    have cm8 := hg8.cell cm7 (fun e => by have := (HO7.out.lt _ e.symm).1; simp at this; omega)
    have hf8 := free_of_one HV8.out
    have Z9 := Lib.hid (app_some (o := w.heap.size + 1 + 1 + 1) (W := W) (by omega) B7.out HV8.out HO7.out ct7 (by omega) hg8 hown8)
    clear hown8 hg8 HDL7 HN7 HO7 HV7
    go_wp2_with fail
    generalize w8.setCell ⟨w.heap.size + 1 + 1 + 1, 0, none⟩ (.slice (some ⟨g8, 0, none⟩) (d7.length + dl.length) cap8) = w9 at *
    have B9 := Lib.hid Z9.out.1
    have O9 := Lib.hid Z9.out.2.1
    have ct9 := Z9.out.2.2
    clear Z9 HV8 hc7 hf7 hc8 hf8 B7 ct7 cd7 cm7
    have cd9 := stays B9.out cd
    have cm9 := stays B9.out cm
    refine (add_any wOver mo (-ov2) t (w.heap.size + 1 + 1 + 1) w.heap.size (d7 ++ dl) (.slice none 0 0) [] W w9 (pow_below HP.out (onward B9.out BW)) (by omega) B9.out O9.out ct9 (by omega) (by simp; omega) ht hmo (by decide)).mono ?_
    rintro e w10 ⟨rfl, B10', O10', ct10⟩
    have B10 := Lib.hid B10'
    have O10 := Lib.hid O10'
    have cd10 := stays B10.out cd
    have cm10 := stays B10.out cm
    clear B10' O10' B9 O9 ct9 cd9 cm9
    go_wp2_with fail
    refine (add_any wDay da units t (w.heap.size + 1 + 1 + 1) w.heap.size (addL (d7 ++ dl) wOver t mo (-ov2)) (.slice none 0 0) [] W w10 (pow_below HP.out (onward B10.out BW)) (by omega) B10.out O10.out ct10 (by omega) (by unfold addL; split <;> simp <;> omega) ht hda (by decide)).mono ?_
    rintro e w11 ⟨rfl, B11', O11', ct11⟩
    have B11 := Lib.hid B11'
    have O11 := Lib.hid O11'
    clear B11' O11' B10 O10 ct10 cd10 cm10
    change Hid (OutIs _ (addL (addL (d7 ++ dl) wOver t mo (-ov2)) wDay t da units) (.slice none 0 0) [] w11) at O11
    have hl11 : (addL (addL (d7 ++ dl) wOver t mo (-ov2)) wDay t da units).length ≤ 1000006 := by unfold addL; split <;> split <;> simp <;> omega
    generalize hd11 : addL (addL (d7 ++ dl) wOver t mo (-ov2)) wDay t da units = d11 at *
    have HD11 := Lib.hid hd11
    clear hd11
    obtain ⟨v11, hv11, hown11, -, -⟩ := O11.out
    have HO11 := Lib.hid hown11
    have HV11 := Lib.hid hv11
    have hc11 := cell_of_one hv11
    have hf11 := free_of_one hv11
    clear O11 hown11 hv11
    go_wp2_with fail
    have HDZ := Lib.hid (World.ownsRow_nil w11 (w.heap.size + 1 + 1 + 1 + 1) 42 2)
    have hwt : IntKind.i64.wrap t = t := IntWalk.i64_in t (by omega)
    have hwu : IntKind.i64.wrap (-units) = -units := IntWalk.i64_in _ (by omega)
    have HI2 : Hid (∀ z ∈ [t], inInt z) := by
      intro z hz
      simp only [List.mem_cons, List.not_mem_nil, or_false] at hz
      subst hz
      exact ⟨by omega, by omega⟩
    have hA : (w11.alloc (.cells #[.int .i64 t] 2)).cell? ⟨w.heap.size + 1 + 1 + 1, 0, none⟩ = some v11 := stays (below_alloc _ _) hc11
    have HPP := Lib.hid (pow_below HP.out (onward B11.out BW))
    clear HX HLs
    go_region_law (first | (go_simp; go_at_call 15; ((with_reducible refine (name_any wDays _ [t] _ (pow_below HPP.out (below_alloc _ _).drew) (lit1d w11 t 2) HI2.out (by simp) (by decide)).mono ?_); rintro e w1 ⟨rfl, hb⟩; have B1 := Lib.hid (via1 hb); clear hb; have hc1 := stays B1.out hc11; have hc2 : (w1.alloc (.cells #[.string (nameB wDays [t]), .int .i64 (-units)] 42)).cell? ⟨w.heap.size + 1 + 1 + 1, 0, none⟩ = some v11 := stays (below_alloc _ _) hc1)) | ((refine step_append_lies _ (by rfl) _ _ _ (by rfl) (w.heap.size + 1 + 1 + 1 + 1) 42 i0 _ 2 24 Tryd.underlying39 hi hz0 hz1 hz2 rfl (by decide) v11 d11.length (partsC d11) (by rfl) ((ownsRow_below HO11.out B1.out).alloc _) ⟨w1.heap.size, 0, none⟩ 1 1 [.string (nameB wDays [t]), .int .i64 (-units)] (by rfl) rfl (new_cells _ _ _) (one2 _ _ _) (by decide) (by unfold maxLen; omega) (by omega) (base_ok HV11.out B1.out) _ rfl ?_; intro g cap w3 hown3 hgrow3 hat3 hlt3; have HV3 := Lib.hid (grown_keeps ((ownsRow_below HO11.out B1.out).alloc _) hgrow3 (stays_block (below_alloc _ _) (stays_block B1.out HV11.out))); have hc3 := cell_of_one HV3.out; have hf3 := free_of_one HV3.out)))
    all_goals
      have HZ := Lib.hid (add_close (dv := .slice none 0 0) (dl := []) B11.out B1.out (by omega) (by omega) HO11.out HV11.out ct11 HDZ.out (.inl rfl) hat3 hown3 hgrow3 HV3.out)
      have HC := Lib.hid (split_close (by omega) BW HZ.out.1 HZ.out.2.1 (one_setCell HV3.out))
      have HS : Hid (splitL t units ls da mo room free = d11 ++ [(nameB wDays [t], -units)]) := by
        unfold Hid splitL
        rw [hfr, HDL.out, HOV.out, HD7.out, HD11.out]
      clear hown3 hgrow3 hat3 HV3 hc1 hc2 hA hc11 hf11
      go_wp2
      go_ret
      exact ⟨_, rfl, HC.out.1, by rw [HS.out]; exact HC.out.2⟩
end Go.Proofs.YtbjofejloeppkaaDoor
