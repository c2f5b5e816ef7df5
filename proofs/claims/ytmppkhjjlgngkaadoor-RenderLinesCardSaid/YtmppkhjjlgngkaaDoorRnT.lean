/- The walk of RenderLines. (Printed by gen_rnt.py.) -/
import Derived.Test.YtmppkhjjlgngkaaDoorRnS
namespace Go.Proofs.YtmppkhjjlgngkaaDoor
open Go.RowKit Civ Ren Go.Shelf
set_option linter.unusedVariables false
set_option linter.unusedSimpArgs false
set_option maxHeartbeats 8000000 in
set_option maxRecDepth 1000000 in
theorem rlines_any (v : Ren.Inv) (l1 : Value) (units : Int) (w : World) (hE : EnvR w) (h1 : RowsIn w l1 5 (v.ls.map Ren.Ln.cells)) (k1 : v.ok) (hc1 : ∀ n c, l1 = .slice none n c → n = 0 ∧ c = 0) (hu1 : 0 ≤ units) (hu2 : units ≤ 4294967295) : Calls Tryd.prog 7 #[v.val l1, .int .u32 units] w fun e w' => e = .returned (.bool true) ∧ Below w.heap.size w w' := by
  have M1 := Lib.hid (fun (W : World) (hb : Below w.heap.size w W) => mayR_any v l1 W k1 (h1.below hb))
  have T1 := Lib.hid (fun (W : World) (hb : Below w.heap.size w W) => rtext_any v l1 W (hE.below hb).env (h1.below hb) k1)
  have GO := Lib.hid (fun (W : World) (hb : Below w.heap.size w W) => goesR_tail w W hE hb)
  have HE := Lib.hid hE
  have HL := Lib.hid h1
  have HK := Lib.hid k1
  obtain ⟨a1, c1, rfl⟩ := ln_form h1
  have HC : Hid (a1 = none → v.ls.length = 0 ∧ c1 = 0) := fun h => hc1 _ _ (by rw [h])
  obtain ⟨no, te, mo, ls, tot, cr⟩ := v
  dsimp only at HC HL
  clear h1 hE k1 hc1
  show Calls Tryd.prog 7 #[.agg #[.int .u32 no, .int .u32 te, .int .i64 mo, .slice a1 ls.length c1, .int .i64 tot, .int .i64 cr], .int .u32 units] w _
  have B0 := Lib.hid (below_alloc w (.cells #[.int .u32 no, .int .u32 te, .int .i64 mo, .slice a1 ls.length c1, .int .i64 tot, .int .i64 cr] 25))
  have G1 := Lib.hid (heap_alloc_new w (.cells #[.int .u32 no, .int .u32 te, .int .i64 mo, .slice a1 ls.length c1, .int .i64 tot, .int .i64 cr] 25))
  by_cases n1 : 27 < ls.length
  · have d1 : decide ((27 : Int) < (ls.length : Int)) = true := decide_eq_true (by omega)
    go_enter Tryd.func7, Tryd.ntmps7
    go_wp2_with fail
    go_ret
    exact ⟨rfl, B0.out⟩
  have d1 : decide ((27 : Int) < (ls.length : Int)) = false := decide_eq_false (by omega)
  have hwu : IntKind.i64.wrap units = units := IntWalk.i64_in _ (by omega)
  obtain ⟨i0, hi, hz0, hz1, hz2⟩ := info_parts infoLn
  go_enter Tryd.func7, Tryd.ntmps7
  go_wp2_with fail
  generalize w.alloc (.cells #[.int .u32 no, .int .u32 te, .int .i64 mo, .slice a1 ls.length c1, .int .i64 tot, .int .i64 cr] 25) = W0 at *
  refine (M1.out _ B0.out).mono ?_
  rintro e w1 ⟨rfl, hb⟩
  have B1 := Lib.hid (onward hb B0.out)
  have Y1 := Lib.hid hb
  clear hb
  obtain ⟨-, x0, x1, x2, x3, x4, x5⟩ := cells6 (stays_block Y1.out G1.out)
  cases m1 : mayB ⟨no, te, mo, ls, tot, cr⟩
  · go_wp2_with fail
    go_ret
    exact ⟨rfl, B1.out⟩
  rw [if_pos m1] at T1
  have hm2 := may_more no te mo ls tot cr units m1 (by omega) hu1
  have hk2 : Ren.Inv.ok ⟨no, te, mo, ls ++ [⟨2, 0, 0, units, 0⟩], tot, cr⟩ := by
    obtain ⟨q1, q2, q3, q4, q5, q6⟩ := HK.out
    refine ⟨q1, q2, q3, q4, q5, fun l hl => ?_⟩
    rcases List.mem_append.1 hl with h | h
    · exact q6 l h
    · simp at h
      subst h
      unfold Ren.Ln.ok u32 Acct.inInt
      dsimp only
      omega
  have LF := Lib.hid (lines_fact no te mo ls tot cr ⟨2, 0, 0, units, 0⟩ hk2 hm2 m1)
  have T2 := Lib.hid (fun (W : World) (hb : Below w.heap.size w W) (lv : Value) (hl : RowsIn W lv 5 ((ls ++ [(⟨2, 0, 0, units, 0⟩ : Ren.Ln)]).map Ren.Ln.cells)) => rtext_any ⟨no, te, mo, ls ++ [⟨2, 0, 0, units, 0⟩], tot, cr⟩ lv W (HE.out.below hb).env hl hk2)
  rw [if_pos hm2] at T2
  clear m1 hm2 hk2 HK M1
  go_wp2_with fail
  clear x0 x1 x2 x3 x4 x5
  refine (T1.out _ B1.out).mono ?_
  rintro e w2 ⟨rfl, hb⟩
  have B2 := Lib.hid (onward hb B1.out)
  have Y2 := Lib.hid (onward hb Y1.out)
  clear hb T1 Y1 B1
  generalize (⟨(textL ⟨no, te, mo, ls, tot, cr⟩).toArray⟩ : ByteArray) = u at *
  generalize (⟨(textL ⟨no, te, mo, ls ++ [⟨2, 0, 0, units, 0⟩], tot, cr⟩).toArray⟩ : ByteArray) = t at *
  -- the copy
  have G2 := Lib.hid (stays_block Y2.out G1.out)
  have ba := below_alloc w2 (.cells #[.int .u32 no, .int .u32 te, .int .i64 mo, .slice a1 ls.length c1, .int .i64 tot, .int .i64 cr] 25)
  have B3 := Lib.hid (onward ba B2.out)
  have G3 := Lib.hid (stays_block ba G2.out)
  have P3 := Lib.hid (heap_alloc_new w2 (.cells #[.int .u32 no, .int .u32 te, .int .i64 mo, .slice a1 ls.length c1, .int .i64 tot, .int .i64 cr] 25))
  have hlt : w.heap.size < w2.heap.size := lt_of_block G2.out
  have S3 : Hid ((w2.alloc (.cells #[.int .u32 no, .int .u32 te, .int .i64 mo, .slice a1 ls.length c1, .int .i64 tot, .int .i64 cr] 25)).heap.size = w2.heap.size + 1) := by
    show _ = _
    simp
  obtain ⟨-, x0, x1, x2, x3, x4, x5⟩ := cells6 G2.out
  clear ba
  go_upto_region 5 with fail
  clear x0 x1 x2 x3 x4 x5
  generalize w2.alloc (.cells #[.int .u32 no, .int .u32 te, .int .i64 mo, .slice a1 ls.length c1, .int .i64 tot, .int .i64 cr] 25) = W3 at *
  have O3 := Lib.hid (own_emptyLn W3)
  have A3 := below_alloc W3 (.cells #[] 37)
  have Y3 := Lib.hid A3
  have L3 := Lib.hid (HL.out.below (onward A3 B3.out))
  have S3e : Hid ((W3.alloc (.cells #[] 37)).heap.size = W3.heap.size + 1) := by
    show _ = _
    simp
  obtain ⟨-, -, -, -, x3, -, -⟩ := cells6 (stays_block A3 G3.out)
  clear A3
  go_wp2_with (at_builtin; refine wpList_append_opt rfl (.tmp 29) (.tmp 31) 23 rfl W3.heap.size 37 i0 _ 5 32 Tryd.underlying23 hi hz0 hz1 hz2 rfl (by decide) _ _ _ rfl O3.out a1 ls.length c1 ((ls.map Ren.Ln.cells).flatten) rfl HC.out (flat_len ls) (lines_src L3.out) (flat_one ls) (by unfold maxLen; omega) (by omega) (by rw [S3e.out]; omega) ?_)
  intro v4 w4 hown hgrow
  clear x3
  have KG := kept_grown hgrow
  have Y4 := Lib.hid (Y3.out.trans (KG.below (B := W3.heap.size) (by rw [S3e.out]; omega) (fun k hk => (own_typed O3.out hk).1)))
  have O4 : Hid (w4.ownsRow W3.heap.size 37 5 v4 ls.length ((ls.map Ren.Ln.cells).flatten)) := by
    have h := hown
    try rw [Nat.zero_add] at h
    try rw [List.nil_append] at h
    exact h
  clear hown hgrow KG O3 L3 Y3 S3e HL HC
  have O4a := Lib.hid (O4.out.alloc (.cells #[.int .u8 2, .int .u32 0, .int .i64 0, .int .i64 units, .int .i64 0] 37))
  have Y4a := Lib.hid (Y4.out.trans ((below_alloc w4 (.cells #[.int .u8 2, .int .u32 0, .int .i64 0, .int .i64 units, .int .i64 0] 37)).mono Y4.out.size))
  have S4a : Hid ((w4.alloc (.cells #[.int .u8 2, .int .u32 0, .int .i64 0, .int .i64 units, .int .i64 0] 37)).heap.size = w4.heap.size + 1) := by
    show _ = _
    simp
  have hs4 := Y4.out.size
  go_wp2_with (at_builtin; refine wpList_append_own _ rfl (.tmp 32) (.tmp 36) 23 rfl W3.heap.size 37 i0 _ 5 32 Tryd.underlying23 hi hz0 hz1 hz2 rfl (by decide) _ _ _ rfl O4a.out ⟨w4.heap.size, 0, none⟩ 1 1 [.int .u8 2, .int .u32 0, .int .i64 0, .int .i64 units, .int .i64 0] rfl rfl (new_cells _ _ _) (oneLn ⟨2, 0, 0, units, 0⟩) (by unfold maxLen; omega) (by omega) (by rw [S4a.out]; omega) ?_)
  intro v5 w5 hown hgrow _
  have KG := kept_grown hgrow
  have Y5 := Lib.hid (Y4a.out.trans (KG.below (B := W3.heap.size) (by rw [S4a.out]; omega) (fun k hk => (own_typed O4a.out hk).1)))
  have O5 : Hid (OwnL w5 W3.heap.size v5 (ls ++ [⟨2, 0, 0, units, 0⟩])) := OwnL.snoc (l := ⟨2, 0, 0, units, 0⟩) hown
  obtain ⟨a5, c5, rfl⟩ := rown_form hown
  clear hown hgrow KG O4 O4a Y4 Y4a S4a hs4
  have G5 := Lib.hid (stays_block Y5.out G3.out)
  have P5 := Lib.hid (stays_block Y5.out P3.out)
  obtain ⟨-, -, -, -, z3, -, -⟩ := cells6 P5.out
  have hf : w5.frozen? ⟨w2.heap.size, 3, none⟩ = false := free_of_row P5.out
  have KS := (Kept.refl (fun k => k = w2.heap.size) w5).set ⟨w2.heap.size, 3, none⟩ (.slice a5 (ls.length + 1) c5) rfl
  have P6 : Hid ((w5.setCell ⟨w2.heap.size, 3, none⟩ (.slice a5 (ls.length + 1) c5)).heap[w2.heap.size]? = some (.cells #[.int .u32 no, .int .u32 te, .int .i64 mo, .slice a5 (ls.length + 1) c5, .int .i64 tot, .int .i64 cr] 25 (0, 0))) := set_block P5.out
  have G6 := Lib.hid ((KS.block _ (lt_of_block G5.out) (by omega)).trans G5.out)
  have O6 := Lib.hid (O5.out.kept KS (fun k hk => by rw [S3.out] at hk; omega)).rows
  have B6 := Lib.hid (((onward Y5.out B3.out)).trans (KS.below (B := w.heap.size) (by have := (onward Y5.out B3.out).size; omega) (fun k hk => by omega)))
  clear KS O5 P5 G5 Y5 P3 G3 B3 G2 S3 Y2
  obtain ⟨-, y0, y1, y2, y3, y4, y5⟩ := cells6 P6.out
  have hll : (ls ++ [(⟨2, 0, 0, units, 0⟩ : Ren.Ln)]).length = ls.length + 1 := by simp
  go_wp2_with fail
  clear y0 y1 y2 y3 y4 y5 hf z3
  generalize w5.setCell ⟨w2.heap.size, 3, none⟩ (.slice a5 (ls.length + 1) c5) = W6 at *
  refine (T2.out _ B6.out _ O6.out).mono ?_
  rintro e w7 ⟨rfl, hb⟩
  have B7 := Lib.hid (onward hb B6.out)
  have G7 := Lib.hid (stays_block hb G6.out)
  clear hb T2 O6 B6 G6 P6 hll
  obtain ⟨p, hp1, hp2, hp3⟩ := LF.out.cut
  have HP2 := Lib.hid hp2
  have HP3 := Lib.hid hp3
  have hcnt := Lib.hid LF.out.cnt
  have hut := LF.out.lt
  have ht := LF.out.le
  clear hp2 hp3 LF
  go_wp2_with fail
  go_loopw [10, 11] (fun nv iv wr => ∃ k : Nat, k ≤ u.size ∧ iv = .int .i64 k ∧ nv = .int .i64 (cnt10 u k : Nat) ∧ wr = w7) (fun _ iv _ => u.size - (intOf iv).toNat)
  case atStart => exact ⟨0, by omega, rfl, rfl, rfl⟩
  case round =>
    obtain ⟨k, hk, rfl, rfl, hwr⟩ := hrel
    have hwr' := hwr.symm
    subst hwr'
    clear hwr
    by_cases hlt : k < u.size
    · have hT : cnt10 u (k + 1) = cnt10 u k + if u[k] = 10 then 1 else 0 := by
        unfold cnt10
        rw [List.take_succ_eq_append_getElem (by rw [size_list]; exact hlt), List.count_append]
        congr 1
        rw [List.count_singleton]
        show (if (u[k] == 10) = true then 1 else 0) = _
        simp only [beq_iff_eq]
      have HT := Lib.hid hT
      have hcl : cnt10 u k ≤ k := Nat.le_trans List.count_le_length (by rw [List.length_take]; omega)
      generalize cnt10 u k = c at *
      clear hT
      by_cases hq : u[k] = 10
      · have g1 : (((u[k]).toNat : Int) == 10) = true := by rw [hq]; rfl
        have HT2 := HT.out
        rw [if_pos hq] at HT2
        have HT3 := Lib.hid HT2
        clear HT HT2 hq
        go_wp2
        go_roundw
        case rel => exact ⟨k + 1, by omega, by go_num, by rw [HT3.out]; go_num, by trivial⟩
        case measure => simp [intOf]; omega
      · have g1 : (((u[k]).toNat : Int) == 10) = false := by rw [beq_eq_false_iff_ne]; exact fun e => hq (UInt8.toNat_inj.1 (by show (u[k]).toNat = 10; omega))
        have HT2 := HT.out
        rw [if_neg hq, Nat.add_zero] at HT2
        have HT3 := Lib.hid HT2
        clear HT HT2 hq
        go_wp2
        go_roundw
        case rel => exact ⟨k + 1, by omega, by go_num, by rw [HT3.out]; rfl, by trivial⟩
        case measure => simp [intOf]; omega
    · obtain rfl : k = u.size := by omega
      have hc : cnt10 u u.size = 4 + ls.length + if 0 < cr then 1 else 0 := by
        unfold cnt10
        rw [List.take_of_length_le (by rw [size_list]; omega)]
        exact hcnt.out
      rw [hc]
      clear hc hlt hk hcnt
      obtain ⟨-, -, -, -, x3, -, x5⟩ := cells6 G7.out
      have hw1 : IntKind.i64.wrap (4 + (ls.length : Int)) = 4 + (ls.length : Int) := IntWalk.i64_in _ (by omega)
      have hw2 : IntKind.i64.wrap (4 + (ls.length : Int) + 1) = 4 + (ls.length : Int) + 1 := IntWalk.i64_in _ (by omega)
      have hz : ((4 + ls.length + 1 : Nat) : Int) = 4 + (ls.length : Int) + 1 := by omega
      have hz0' : ((4 + ls.length + 0 : Nat) : Int) = 4 + (ls.length : Int) := by omega
      by_cases hcr : 0 < cr
      all_goals
        first
        | rw [if_pos hcr, hz]
        | rw [if_neg hcr, hz0']
        clear hz hz0'
        go_wp2_with fail
        clear x3 x5 hw1 hw2
        have D1 : 4 + (ls.length : Int) + 1 = 4 + (ls.length : Int) + 1 := rfl
        clear D1
        go_loopw [13] (fun iv wr => ∃ k : Nat, k ≤ u.size ∧ iv = .int .i64 k ∧ Hid (Below w7.heap.size w7 wr)) (fun iv _ => u.size - (intOf iv).toNat)
        case atStart => exact ⟨0, by omega, rfl, Below.refl _ _⟩
        case round =>
          obtain ⟨k, hk, rfl, BR⟩ := hrel
          have hs1 : IntKind.i64.wrap ((u.size : Int) - (k : Int)) = (u.size : Int) - (k : Int) := IntWalk.i64_in _ (by omega)
          obtain ⟨j, hj⟩ : ∃ j : Nat, t.size - (u.size - k) = j := ⟨_, rfl⟩
          have hs2 : IntKind.i64.wrap ((t.size : Int) - ((u.size : Int) - (k : Int))) = (j : Int) := by rw [IntWalk.i64_in _ (by omega)]; omega
          have hj1 : j ≤ t.size := by omega
          have HX : Hid (p ≤ k → ((t.extract j t.size).toList == (u.extract k u.size).toList) = true) := fun h => by
            rw [← hj, HP3.out k hk h, beq_self_eq_true]
          clear hj
          by_cases hlt : k < u.size
          · have hkt : k < t.size := by omega
            by_cases hq : u[k] = t[k]
            · have g1 : (((u[k]).toNat : Int) == ((t[k]).toNat : Int)) = true := by rw [hq, beq_self_eq_true]
              clear hq hs1 hs2 hj1 HX
              go_upto_region 17 with fail
              go_quiet (fail)
              go_wp2_with fail
              go_roundw
              case rel => exact ⟨k + 1, by omega, by go_num, World.below_drewN BR.out _⟩
              case measure => simp [intOf]; omega
            · have g1 : (((u[k]).toNat : Int) == ((t[k]).toNat : Int)) = false := by rw [beq_eq_false_iff_ne]; exact fun e => hq (UInt8.toNat_inj.1 (by omega))
              have hx : p ≤ k := by
                rcases Nat.lt_or_ge k p with h | h
                · exact absurd (HP2.out k hlt hkt h) hq
                · exact h
              have he := HX.out hx
              clear hq hx HX
              go_upto_region 17 with fail
              go_quiet (fail)
              have BQ : Hid (∀ n, Below w.heap.size w (wr.drewN n)) := fun n => World.below_drewN (onward BR.out B7.out) n
              go_upto_region 19 with fail
              refine wp_region_held_drew (S := (fun _ => True)) (by kernel_rfl) ?_ (fun hHeld => ?_)
              · (try dsimp only)
                all_goals trivial
              refine Plan.start (plan := [0, 1, 2, 3, 4, 5, 6, 7, 8, 9, 10, 11, 12, 13, 14, 15, 16, 17, 18, 19, 20, 21, 22, 23, 24, 25, 26, 27, 28, 29, 30, 31, 32, 33]) (fuel := 3) (by decide +kernel) (by assumption) ?_
              refine Plan.free (i := 0) (ds := some 86) (v := ?_) rfl rfl rfl ?_ (fun _ _ _ h => h) ?_
              rotate_left
              · (intro w hSw; (try dsimp only at hSw); go_simp; first | done | with_reducible rfl)
              (try simp only [Act.put, List.setIfInBounds_toArray, List.set_cons_zero, List.set_cons_succ])
              refine Plan.free (i := 1) (ds := some 87) (v := ?_) rfl rfl rfl ?_ (fun _ _ _ h => h) ?_
              rotate_left
              · (intro w hSw; (try dsimp only at hSw); go_simp; first | done | with_reducible rfl)
              (try simp only [Act.put, List.setIfInBounds_toArray, List.set_cons_zero, List.set_cons_succ])
              refine Plan.free (i := 2) (ds := some 88) (v := ?_) rfl rfl rfl ?_ (fun _ _ _ h => h) ?_
              rotate_left
              · (intro w hSw; (try dsimp only at hSw); go_simp; first | done | with_reducible rfl)
              (try simp only [Act.put, List.setIfInBounds_toArray, List.set_cons_zero, List.set_cons_succ])
              refine Plan.on (i := 3) (ds := some 89) (j := 2) (d := 88) (v := ?_) rfl rfl rfl rfl rfl rfl ?_ (fun _ _ _ h => h) ?_
              rotate_left
              · (intro w hSw; (try dsimp only at hSw); go_simp; first | done | with_reducible rfl)
              (try simp only [Act.put, List.setIfInBounds_toArray, List.set_cons_zero, List.set_cons_succ])
              refine Plan.on (i := 4) (ds := some 90) (j := 2) (d := 88) (v := ?_) rfl rfl rfl rfl rfl rfl ?_ (fun _ _ _ h => h) ?_
              rotate_left
              · (intro w hSw; (try dsimp only at hSw); go_simp; first | done | with_reducible rfl)
              (try simp only [Act.put, List.setIfInBounds_toArray, List.set_cons_zero, List.set_cons_succ])
              refine Plan.free (i := 5) (ds := some 91) (v := ?_) rfl rfl rfl ?_ (fun _ _ _ h => h) ?_
              rotate_left
              · (intro w hSw; (try dsimp only at hSw); go_simp; first | done | with_reducible rfl)
              (try simp only [Act.put, List.setIfInBounds_toArray, List.set_cons_zero, List.set_cons_succ])
              refine Plan.free (i := 6) (ds := some 92) (v := ?_) rfl rfl rfl ?_ (fun _ _ _ h => h) ?_
              rotate_left
              · (intro w hSw; (try dsimp only at hSw); go_simp; first | done | with_reducible rfl)
              (try simp only [Act.put, List.setIfInBounds_toArray, List.set_cons_zero, List.set_cons_succ])
              refine Plan.on (i := 7) (ds := some 93) (j := 6) (d := 92) (v := ?_) rfl rfl rfl rfl rfl rfl ?_ (fun _ _ _ h => h) ?_
              rotate_left
              · (intro w hSw; (try dsimp only at hSw); go_simp; first | done | with_reducible rfl)
              (try simp only [Act.put, List.setIfInBounds_toArray, List.set_cons_zero, List.set_cons_succ])
              refine Plan.on (i := 8) (ds := some 94) (j := 6) (d := 92) (v := ?_) rfl rfl rfl rfl rfl rfl ?_ (fun _ _ _ h => h) ?_
              rotate_left
              · (intro w hSw; (try dsimp only at hSw); go_simp; first | done | with_reducible rfl)
              (try simp only [Act.put, List.setIfInBounds_toArray, List.set_cons_zero, List.set_cons_succ])
              refine Plan.on (i := 9) (ds := some 95) (j := 6) (d := 92) (v := ?_) rfl rfl rfl rfl rfl rfl ?_ (fun _ _ _ h => h) ?_
              rotate_left
              · (intro w hSw; (try dsimp only at hSw); go_simp; first | done | with_reducible rfl)
              (try simp only [Act.put, List.setIfInBounds_toArray, List.set_cons_zero, List.set_cons_succ])
              refine Plan.free (i := 10) (ds := some 96) (v := ?_) rfl rfl rfl ?_ (fun _ _ _ h => h) ?_
              rotate_left
              · (intro w hSw; (try dsimp only at hSw); go_simp; first | done | with_reducible rfl)
              (try simp only [Act.put, List.setIfInBounds_toArray, List.set_cons_zero, List.set_cons_succ])
              refine Plan.free (i := 11) (ds := some 97) (v := ?_) rfl rfl rfl ?_ (fun _ _ _ h => h) ?_
              rotate_left
              · (intro w hSw; (try dsimp only at hSw); go_simp; first | done | with_reducible rfl)
              (try simp only [Act.put, List.setIfInBounds_toArray, List.set_cons_zero, List.set_cons_succ])
              refine Plan.on (i := 12) (ds := some 98) (j := 11) (d := 97) (v := ?_) rfl rfl rfl rfl rfl rfl ?_ (fun _ _ _ h => h) ?_
              rotate_left
              · (intro w hSw; (try dsimp only at hSw); go_simp; first | done | with_reducible rfl)
              (try simp only [Act.put, List.setIfInBounds_toArray, List.set_cons_zero, List.set_cons_succ])
              refine Plan.on (i := 13) (ds := some 99) (j := 11) (d := 97) (v := ?_) rfl rfl rfl rfl rfl rfl ?_ (fun _ _ _ h => h) ?_
              rotate_left
              · (intro w hSw; (try dsimp only at hSw); go_simp; first | done | with_reducible rfl)
              (try simp only [Act.put, List.setIfInBounds_toArray, List.set_cons_zero, List.set_cons_succ])
              refine Plan.on (i := 14) (ds := some 100) (j := 11) (d := 97) (v := ?_) rfl rfl rfl rfl rfl rfl ?_ (fun _ _ _ h => h) ?_
              rotate_left
              · (intro w hSw; (try dsimp only at hSw); go_simp; first | done | with_reducible rfl)
              (try simp only [Act.put, List.setIfInBounds_toArray, List.set_cons_zero, List.set_cons_succ])
              refine Plan.on (i := 15) (ds := some 101) (j := 11) (d := 97) (v := ?_) rfl rfl rfl rfl rfl rfl ?_ (fun _ _ _ h => h) ?_
              rotate_left
              · (intro w hSw; (try dsimp only at hSw); go_simp; first | done | with_reducible rfl)
              (try simp only [Act.put, List.setIfInBounds_toArray, List.set_cons_zero, List.set_cons_succ])
              refine Plan.on (i := 16) (ds := some 102) (j := 11) (d := 97) (v := ?_) rfl rfl rfl rfl rfl rfl ?_ (fun _ _ _ h => h) ?_
              rotate_left
              · (intro w hSw; (try dsimp only at hSw); go_simp; first | done | with_reducible rfl)
              (try simp only [Act.put, List.setIfInBounds_toArray, List.set_cons_zero, List.set_cons_succ])
              refine Plan.free (i := 17) (ds := some 103) (v := ?_) rfl rfl rfl ?_ (fun _ _ _ h => h) ?_
              rotate_left
              · (intro w hSw; (try dsimp only at hSw); go_simp; first | done | with_reducible rfl)
              (try simp only [Act.put, List.setIfInBounds_toArray, List.set_cons_zero, List.set_cons_succ])
              refine Plan.free (i := 18) (ds := some 104) (v := ?_) rfl rfl rfl ?_ (fun _ _ _ h => h) ?_
              rotate_left
              · (intro w hSw; (try dsimp only at hSw); go_simp; first | done | with_reducible rfl)
              (try simp only [Act.put, List.setIfInBounds_toArray, List.set_cons_zero, List.set_cons_succ])
              refine Plan.on (i := 19) (ds := some 105) (j := 18) (d := 104) (v := ?_) rfl rfl rfl rfl rfl rfl ?_ (fun _ _ _ h => h) ?_
              rotate_left
              · (intro w hSw; (try dsimp only at hSw); go_simp; first | done | with_reducible rfl)
              (try simp only [Act.put, List.setIfInBounds_toArray, List.set_cons_zero, List.set_cons_succ])
              refine Plan.on (i := 20) (ds := some 106) (j := 18) (d := 104) (v := ?_) rfl rfl rfl rfl rfl rfl ?_ (fun _ _ _ h => h) ?_
              rotate_left
              · (intro w hSw; (try dsimp only at hSw); go_simp; first | done | with_reducible rfl)
              (try simp only [Act.put, List.setIfInBounds_toArray, List.set_cons_zero, List.set_cons_succ])
              refine Plan.on (i := 21) (ds := some 107) (j := 18) (d := 104) (v := ?_) rfl rfl rfl rfl rfl rfl ?_ (fun _ _ _ h => h) ?_
              rotate_left
              · (intro w hSw; (try dsimp only at hSw); go_simp; first | done | with_reducible rfl)
              (try simp only [Act.put, List.setIfInBounds_toArray, List.set_cons_zero, List.set_cons_succ])
              refine Plan.on (i := 22) (ds := some 108) (j := 18) (d := 104) (v := ?_) rfl rfl rfl rfl rfl rfl ?_ (fun _ _ _ h => h) ?_
              rotate_left
              · (intro w hSw; (try dsimp only at hSw); go_simp; first | done | with_reducible rfl)
              (try simp only [Act.put, List.setIfInBounds_toArray, List.set_cons_zero, List.set_cons_succ])
              refine Plan.on (i := 23) (ds := some 109) (j := 18) (d := 104) (v := ?_) rfl rfl rfl rfl rfl rfl ?_ (fun _ _ _ h => h) ?_
              rotate_left
              · (intro w hSw; (try dsimp only at hSw); go_simp; first | done | with_reducible rfl)
              (try simp only [Act.put, List.setIfInBounds_toArray, List.set_cons_zero, List.set_cons_succ])
              refine Plan.on (i := 24) (ds := some 110) (j := 18) (d := 104) (v := ?_) rfl rfl rfl rfl rfl rfl ?_ (fun _ _ _ h => h) ?_
              rotate_left
              · (intro w hSw; (try dsimp only at hSw); go_simp; first | done | with_reducible rfl)
              (try simp only [Act.put, List.setIfInBounds_toArray, List.set_cons_zero, List.set_cons_succ])
              refine Plan.on (i := 25) (ds := some 111) (j := 18) (d := 104) (v := ?_) rfl rfl rfl rfl rfl rfl ?_ (fun _ _ _ h => h) ?_
              rotate_left
              · (intro w hSw; (try dsimp only at hSw); go_simp; first | done | with_reducible rfl)
              (try simp only [Act.put, List.setIfInBounds_toArray, List.set_cons_zero, List.set_cons_succ])
              refine Plan.on (i := 26) (ds := some 112) (j := 18) (d := 104) (v := ?_) rfl rfl rfl rfl rfl rfl ?_ (fun _ _ _ h => h) ?_
              rotate_left
              · (intro w hSw; (try dsimp only at hSw); go_simp; first | done | with_reducible rfl)
              (try simp only [Act.put, List.setIfInBounds_toArray, List.set_cons_zero, List.set_cons_succ])
              refine Plan.on (i := 27) (ds := some 113) (j := 18) (d := 104) (v := ?_) rfl rfl rfl rfl rfl rfl ?_ (fun _ _ _ h => h) ?_
              rotate_left
              · (intro w hSw; (try dsimp only at hSw); go_simp; first | done | with_reducible rfl)
              (try simp only [Act.put, List.setIfInBounds_toArray, List.set_cons_zero, List.set_cons_succ])
              refine Plan.on (i := 28) (ds := some 114) (j := 18) (d := 104) (v := ?_) rfl rfl rfl rfl rfl rfl ?_ (fun _ _ _ h => h) ?_
              rotate_left
              · (intro w hSw; (try dsimp only at hSw); go_simp; first | done | with_reducible rfl)
              (try simp only [Act.put, List.setIfInBounds_toArray, List.set_cons_zero, List.set_cons_succ])
              refine Plan.on (i := 29) (ds := some 115) (j := 18) (d := 104) (v := ?_) rfl rfl rfl rfl rfl rfl ?_ (fun _ _ _ h => h) ?_
              rotate_left
              · (intro w hSw; (try dsimp only at hSw); go_simp; first | done | with_reducible rfl)
              (try simp only [Act.put, List.setIfInBounds_toArray, List.set_cons_zero, List.set_cons_succ])
              refine Plan.on (i := 30) (ds := some 116) (j := 18) (d := 104) (v := ?_) rfl rfl rfl rfl rfl rfl ?_ (fun _ _ _ h => h) ?_
              rotate_left
              · (intro w hSw; (try dsimp only at hSw); go_simp; first | done | with_reducible rfl)
              (try simp only [Act.put, List.setIfInBounds_toArray, List.set_cons_zero, List.set_cons_succ])
              refine Plan.on (i := 31) (ds := some 117) (j := 18) (d := 104) (v := ?_) rfl rfl rfl rfl rfl rfl ?_ (fun _ _ _ h => h) ?_
              rotate_left
              · (intro w hSw; (try dsimp only at hSw); go_simp; first | done | with_reducible rfl)
              (try simp only [Act.put, List.setIfInBounds_toArray, List.set_cons_zero, List.set_cons_succ])
              refine Plan.free (i := 32) (ds := some 118) (v := ?_) rfl rfl rfl ?_ (fun _ _ _ h => h) ?_
              rotate_left
              · (intro w hSw; (try dsimp only at hSw); go_simp; first | done | with_reducible rfl)
              (try simp only [Act.put, List.setIfInBounds_toArray, List.set_cons_zero, List.set_cons_succ])
              refine Plan.free (i := 33) (ds := some 119) (v := ?_) rfl rfl rfl ?_ (fun _ _ _ h => h) ?_
              rotate_left
              · (intro w hSw; (try dsimp only at hSw); go_simp; first | done | with_reducible rfl)
              (try simp only [Act.put, List.setIfInBounds_toArray, List.set_cons_zero, List.set_cons_succ])
              refine Plan.stop (fun hHeld => ?_)
              refine wpAnyH_ready (rs := [34]) (by decide +kernel) (by simp) ?_
              refine AllReadyH.cons (o := _) rfl ?_ AllReadyH.nil
              intro K hK
              rw [if_pos (wanted_on (j := 33) (d := 119) (by rfl) (by rfl) (by rfl) (by rfl))]
              (go_simp; go_at_call 12; refine (GO.out _ (onward (Below.refl _ _).drew (BQ.out _))).mono ?_; rintro e w9 ⟨rfl, hb⟩; have B9 := Lib.hid hb; clear hb)
              refine hK.out _ _ ?_ (fun hHeld => ?_)
              · (try dsimp only)
                all_goals trivial
              clear hK K
              (try simp only [Act.put, List.setIfInBounds_toArray, List.set_cons_zero, List.set_cons_succ])
              refine Plan.start (plan := [35, 36]) (fuel := 0) (by decide +kernel) (by assumption) ?_
              refine Plan.free (i := 35) (ds := some 121) (v := ?_) rfl rfl rfl ?_ (fun _ _ _ h => h) ?_
              rotate_left
              · (intro w hSw; (try dsimp only at hSw); go_simp; first | done | with_reducible rfl)
              (try simp only [Act.put, List.setIfInBounds_toArray, List.set_cons_zero, List.set_cons_succ])
              refine Plan.free (i := 36) (ds := some 4) (v := ?_) rfl rfl rfl ?_ (fun _ _ _ h => h) ?_
              rotate_left
              · (intro w hSw; (try dsimp only at hSw); go_simp; first | done | with_reducible rfl)
              (try simp only [Act.put, List.setIfInBounds_toArray, List.set_cons_zero, List.set_cons_succ])
              refine Plan.stop (fun hHeld => ?_)
              refine wpAnyH_done (by decide +kernel) ?_ _
              go_wp2_with fail
              go_ret
              exact ⟨rfl, B9.out⟩
          · have dk : decide ((k : Int) < (u.size : Int)) = false := decide_eq_false (by omega)
            have he := HX.out (by omega)
            clear HX
            go_upto_region 17 with fail
            go_quiet (fail)
            have BQ : Hid (∀ n, Below w.heap.size w (wr.drewN n)) := fun n => World.below_drewN (onward BR.out B7.out) n
            go_upto_region 19 with fail
            refine wp_region_held_drew (S := (fun _ => True)) (by kernel_rfl) ?_ (fun hHeld => ?_)
            · (try dsimp only)
              all_goals trivial
            refine Plan.start (plan := [0, 1, 2, 3, 4, 5, 6, 7, 8, 9, 10, 11, 12, 13, 14, 15, 16, 17, 18, 19, 20, 21, 22, 23, 24, 25, 26, 27, 28, 29, 30, 31, 32, 33]) (fuel := 3) (by decide +kernel) (by assumption) ?_
            refine Plan.free (i := 0) (ds := some 86) (v := ?_) rfl rfl rfl ?_ (fun _ _ _ h => h) ?_
            rotate_left
            · (intro w hSw; (try dsimp only at hSw); go_simp; first | done | with_reducible rfl)
            (try simp only [Act.put, List.setIfInBounds_toArray, List.set_cons_zero, List.set_cons_succ])
            refine Plan.free (i := 1) (ds := some 87) (v := ?_) rfl rfl rfl ?_ (fun _ _ _ h => h) ?_
            rotate_left
            · (intro w hSw; (try dsimp only at hSw); go_simp; first | done | with_reducible rfl)
            (try simp only [Act.put, List.setIfInBounds_toArray, List.set_cons_zero, List.set_cons_succ])
            refine Plan.free (i := 2) (ds := some 88) (v := ?_) rfl rfl rfl ?_ (fun _ _ _ h => h) ?_
            rotate_left
            · (intro w hSw; (try dsimp only at hSw); go_simp; first | done | with_reducible rfl)
            (try simp only [Act.put, List.setIfInBounds_toArray, List.set_cons_zero, List.set_cons_succ])
            refine Plan.on (i := 3) (ds := some 89) (j := 2) (d := 88) (v := ?_) rfl rfl rfl rfl rfl rfl ?_ (fun _ _ _ h => h) ?_
            rotate_left
            · (intro w hSw; (try dsimp only at hSw); go_simp; first | done | with_reducible rfl)
            (try simp only [Act.put, List.setIfInBounds_toArray, List.set_cons_zero, List.set_cons_succ])
            refine Plan.on (i := 4) (ds := some 90) (j := 2) (d := 88) (v := ?_) rfl rfl rfl rfl rfl rfl ?_ (fun _ _ _ h => h) ?_
            rotate_left
            · (intro w hSw; (try dsimp only at hSw); go_simp; first | done | with_reducible rfl)
            (try simp only [Act.put, List.setIfInBounds_toArray, List.set_cons_zero, List.set_cons_succ])
            refine Plan.free (i := 5) (ds := some 91) (v := ?_) rfl rfl rfl ?_ (fun _ _ _ h => h) ?_
            rotate_left
            · (intro w hSw; (try dsimp only at hSw); go_simp; first | done | with_reducible rfl)
            (try simp only [Act.put, List.setIfInBounds_toArray, List.set_cons_zero, List.set_cons_succ])
            refine Plan.free (i := 6) (ds := some 92) (v := ?_) rfl rfl rfl ?_ (fun _ _ _ h => h) ?_
            rotate_left
            · (intro w hSw; (try dsimp only at hSw); go_simp; first | done | with_reducible rfl)
            (try simp only [Act.put, List.setIfInBounds_toArray, List.set_cons_zero, List.set_cons_succ])
            refine Plan.on (i := 7) (ds := some 93) (j := 6) (d := 92) (v := ?_) rfl rfl rfl rfl rfl rfl ?_ (fun _ _ _ h => h) ?_
            rotate_left
            · (intro w hSw; (try dsimp only at hSw); go_simp; first | done | with_reducible rfl)
            (try simp only [Act.put, List.setIfInBounds_toArray, List.set_cons_zero, List.set_cons_succ])
            refine Plan.on (i := 8) (ds := some 94) (j := 6) (d := 92) (v := ?_) rfl rfl rfl rfl rfl rfl ?_ (fun _ _ _ h => h) ?_
            rotate_left
            · (intro w hSw; (try dsimp only at hSw); go_simp; first | done | with_reducible rfl)
            (try simp only [Act.put, List.setIfInBounds_toArray, List.set_cons_zero, List.set_cons_succ])
            refine Plan.on (i := 9) (ds := some 95) (j := 6) (d := 92) (v := ?_) rfl rfl rfl rfl rfl rfl ?_ (fun _ _ _ h => h) ?_
            rotate_left
            · (intro w hSw; (try dsimp only at hSw); go_simp; first | done | with_reducible rfl)
            (try simp only [Act.put, List.setIfInBounds_toArray, List.set_cons_zero, List.set_cons_succ])
            refine Plan.free (i := 10) (ds := some 96) (v := ?_) rfl rfl rfl ?_ (fun _ _ _ h => h) ?_
            rotate_left
            · (intro w hSw; (try dsimp only at hSw); go_simp; first | done | with_reducible rfl)
            (try simp only [Act.put, List.setIfInBounds_toArray, List.set_cons_zero, List.set_cons_succ])
            refine Plan.free (i := 11) (ds := some 97) (v := ?_) rfl rfl rfl ?_ (fun _ _ _ h => h) ?_
            rotate_left
            · (intro w hSw; (try dsimp only at hSw); go_simp; first | done | with_reducible rfl)
            (try simp only [Act.put, List.setIfInBounds_toArray, List.set_cons_zero, List.set_cons_succ])
            refine Plan.on (i := 12) (ds := some 98) (j := 11) (d := 97) (v := ?_) rfl rfl rfl rfl rfl rfl ?_ (fun _ _ _ h => h) ?_
            rotate_left
            · (intro w hSw; (try dsimp only at hSw); go_simp; first | done | with_reducible rfl)
            (try simp only [Act.put, List.setIfInBounds_toArray, List.set_cons_zero, List.set_cons_succ])
            refine Plan.on (i := 13) (ds := some 99) (j := 11) (d := 97) (v := ?_) rfl rfl rfl rfl rfl rfl ?_ (fun _ _ _ h => h) ?_
            rotate_left
            · (intro w hSw; (try dsimp only at hSw); go_simp; first | done | with_reducible rfl)
            (try simp only [Act.put, List.setIfInBounds_toArray, List.set_cons_zero, List.set_cons_succ])
            refine Plan.on (i := 14) (ds := some 100) (j := 11) (d := 97) (v := ?_) rfl rfl rfl rfl rfl rfl ?_ (fun _ _ _ h => h) ?_
            rotate_left
            · (intro w hSw; (try dsimp only at hSw); go_simp; first | done | with_reducible rfl)
            (try simp only [Act.put, List.setIfInBounds_toArray, List.set_cons_zero, List.set_cons_succ])
            refine Plan.on (i := 15) (ds := some 101) (j := 11) (d := 97) (v := ?_) rfl rfl rfl rfl rfl rfl ?_ (fun _ _ _ h => h) ?_
            rotate_left
            · (intro w hSw; (try dsimp only at hSw); go_simp; first | done | with_reducible rfl)
            (try simp only [Act.put, List.setIfInBounds_toArray, List.set_cons_zero, List.set_cons_succ])
            refine Plan.on (i := 16) (ds := some 102) (j := 11) (d := 97) (v := ?_) rfl rfl rfl rfl rfl rfl ?_ (fun _ _ _ h => h) ?_
            rotate_left
            · (intro w hSw; (try dsimp only at hSw); go_simp; first | done | with_reducible rfl)
            (try simp only [Act.put, List.setIfInBounds_toArray, List.set_cons_zero, List.set_cons_succ])
            refine Plan.free (i := 17) (ds := some 103) (v := ?_) rfl rfl rfl ?_ (fun _ _ _ h => h) ?_
            rotate_left
            · (intro w hSw; (try dsimp only at hSw); go_simp; first | done | with_reducible rfl)
            (try simp only [Act.put, List.setIfInBounds_toArray, List.set_cons_zero, List.set_cons_succ])
            refine Plan.free (i := 18) (ds := some 104) (v := ?_) rfl rfl rfl ?_ (fun _ _ _ h => h) ?_
            rotate_left
            · (intro w hSw; (try dsimp only at hSw); go_simp; first | done | with_reducible rfl)
            (try simp only [Act.put, List.setIfInBounds_toArray, List.set_cons_zero, List.set_cons_succ])
            refine Plan.on (i := 19) (ds := some 105) (j := 18) (d := 104) (v := ?_) rfl rfl rfl rfl rfl rfl ?_ (fun _ _ _ h => h) ?_
            rotate_left
            · (intro w hSw; (try dsimp only at hSw); go_simp; first | done | with_reducible rfl)
            (try simp only [Act.put, List.setIfInBounds_toArray, List.set_cons_zero, List.set_cons_succ])
            refine Plan.on (i := 20) (ds := some 106) (j := 18) (d := 104) (v := ?_) rfl rfl rfl rfl rfl rfl ?_ (fun _ _ _ h => h) ?_
            rotate_left
            · (intro w hSw; (try dsimp only at hSw); go_simp; first | done | with_reducible rfl)
            (try simp only [Act.put, List.setIfInBounds_toArray, List.set_cons_zero, List.set_cons_succ])
            refine Plan.on (i := 21) (ds := some 107) (j := 18) (d := 104) (v := ?_) rfl rfl rfl rfl rfl rfl ?_ (fun _ _ _ h => h) ?_
            rotate_left
            · (intro w hSw; (try dsimp only at hSw); go_simp; first | done | with_reducible rfl)
            (try simp only [Act.put, List.setIfInBounds_toArray, List.set_cons_zero, List.set_cons_succ])
            refine Plan.on (i := 22) (ds := some 108) (j := 18) (d := 104) (v := ?_) rfl rfl rfl rfl rfl rfl ?_ (fun _ _ _ h => h) ?_
            rotate_left
            · (intro w hSw; (try dsimp only at hSw); go_simp; first | done | with_reducible rfl)
            (try simp only [Act.put, List.setIfInBounds_toArray, List.set_cons_zero, List.set_cons_succ])
            refine Plan.on (i := 23) (ds := some 109) (j := 18) (d := 104) (v := ?_) rfl rfl rfl rfl rfl rfl ?_ (fun _ _ _ h => h) ?_
            rotate_left
            · (intro w hSw; (try dsimp only at hSw); go_simp; first | done | with_reducible rfl)
            (try simp only [Act.put, List.setIfInBounds_toArray, List.set_cons_zero, List.set_cons_succ])
            refine Plan.on (i := 24) (ds := some 110) (j := 18) (d := 104) (v := ?_) rfl rfl rfl rfl rfl rfl ?_ (fun _ _ _ h => h) ?_
            rotate_left
            · (intro w hSw; (try dsimp only at hSw); go_simp; first | done | with_reducible rfl)
            (try simp only [Act.put, List.setIfInBounds_toArray, List.set_cons_zero, List.set_cons_succ])
            refine Plan.on (i := 25) (ds := some 111) (j := 18) (d := 104) (v := ?_) rfl rfl rfl rfl rfl rfl ?_ (fun _ _ _ h => h) ?_
            rotate_left
            · (intro w hSw; (try dsimp only at hSw); go_simp; first | done | with_reducible rfl)
            (try simp only [Act.put, List.setIfInBounds_toArray, List.set_cons_zero, List.set_cons_succ])
            refine Plan.on (i := 26) (ds := some 112) (j := 18) (d := 104) (v := ?_) rfl rfl rfl rfl rfl rfl ?_ (fun _ _ _ h => h) ?_
            rotate_left
            · (intro w hSw; (try dsimp only at hSw); go_simp; first | done | with_reducible rfl)
            (try simp only [Act.put, List.setIfInBounds_toArray, List.set_cons_zero, List.set_cons_succ])
            refine Plan.on (i := 27) (ds := some 113) (j := 18) (d := 104) (v := ?_) rfl rfl rfl rfl rfl rfl ?_ (fun _ _ _ h => h) ?_
            rotate_left
            · (intro w hSw; (try dsimp only at hSw); go_simp; first | done | with_reducible rfl)
            (try simp only [Act.put, List.setIfInBounds_toArray, List.set_cons_zero, List.set_cons_succ])
            refine Plan.on (i := 28) (ds := some 114) (j := 18) (d := 104) (v := ?_) rfl rfl rfl rfl rfl rfl ?_ (fun _ _ _ h => h) ?_
            rotate_left
            · (intro w hSw; (try dsimp only at hSw); go_simp; first | done | with_reducible rfl)
            (try simp only [Act.put, List.setIfInBounds_toArray, List.set_cons_zero, List.set_cons_succ])
            refine Plan.on (i := 29) (ds := some 115) (j := 18) (d := 104) (v := ?_) rfl rfl rfl rfl rfl rfl ?_ (fun _ _ _ h => h) ?_
            rotate_left
            · (intro w hSw; (try dsimp only at hSw); go_simp; first | done | with_reducible rfl)
            (try simp only [Act.put, List.setIfInBounds_toArray, List.set_cons_zero, List.set_cons_succ])
            refine Plan.on (i := 30) (ds := some 116) (j := 18) (d := 104) (v := ?_) rfl rfl rfl rfl rfl rfl ?_ (fun _ _ _ h => h) ?_
            rotate_left
            · (intro w hSw; (try dsimp only at hSw); go_simp; first | done | with_reducible rfl)
            (try simp only [Act.put, List.setIfInBounds_toArray, List.set_cons_zero, List.set_cons_succ])
            refine Plan.on (i := 31) (ds := some 117) (j := 18) (d := 104) (v := ?_) rfl rfl rfl rfl rfl rfl ?_ (fun _ _ _ h => h) ?_
            rotate_left
            · (intro w hSw; (try dsimp only at hSw); go_simp; first | done | with_reducible rfl)
            (try simp only [Act.put, List.setIfInBounds_toArray, List.set_cons_zero, List.set_cons_succ])
            refine Plan.free (i := 32) (ds := some 118) (v := ?_) rfl rfl rfl ?_ (fun _ _ _ h => h) ?_
            rotate_left
            · (intro w hSw; (try dsimp only at hSw); go_simp; first | done | with_reducible rfl)
            (try simp only [Act.put, List.setIfInBounds_toArray, List.set_cons_zero, List.set_cons_succ])
            refine Plan.free (i := 33) (ds := some 119) (v := ?_) rfl rfl rfl ?_ (fun _ _ _ h => h) ?_
            rotate_left
            · (intro w hSw; (try dsimp only at hSw); go_simp; first | done | with_reducible rfl)
            (try simp only [Act.put, List.setIfInBounds_toArray, List.set_cons_zero, List.set_cons_succ])
            refine Plan.stop (fun hHeld => ?_)
            refine wpAnyH_ready (rs := [34]) (by decide +kernel) (by simp) ?_
            refine AllReadyH.cons (o := _) rfl ?_ AllReadyH.nil
            intro K hK
            rw [if_pos (wanted_on (j := 33) (d := 119) (by rfl) (by rfl) (by rfl) (by rfl))]
            (go_simp; go_at_call 12; refine (GO.out _ (onward (Below.refl _ _).drew (BQ.out _))).mono ?_; rintro e w9 ⟨rfl, hb⟩; have B9 := Lib.hid hb; clear hb)
            refine hK.out _ _ ?_ (fun hHeld => ?_)
            · (try dsimp only)
              all_goals trivial
            clear hK K
            (try simp only [Act.put, List.setIfInBounds_toArray, List.set_cons_zero, List.set_cons_succ])
            refine Plan.start (plan := [35, 36]) (fuel := 0) (by decide +kernel) (by assumption) ?_
            refine Plan.free (i := 35) (ds := some 121) (v := ?_) rfl rfl rfl ?_ (fun _ _ _ h => h) ?_
            rotate_left
            · (intro w hSw; (try dsimp only at hSw); go_simp; first | done | with_reducible rfl)
            (try simp only [Act.put, List.setIfInBounds_toArray, List.set_cons_zero, List.set_cons_succ])
            refine Plan.free (i := 36) (ds := some 4) (v := ?_) rfl rfl rfl ?_ (fun _ _ _ h => h) ?_
            rotate_left
            · (intro w hSw; (try dsimp only at hSw); go_simp; first | done | with_reducible rfl)
            (try simp only [Act.put, List.setIfInBounds_toArray, List.set_cons_zero, List.set_cons_succ])
            refine Plan.stop (fun hHeld => ?_)
            refine wpAnyH_done (by decide +kernel) ?_ _
            go_wp2_with fail
            go_ret
            exact ⟨rfl, B9.out⟩
end Go.Proofs.YtmppkhjjlgngkaaDoor
