/- The walk of the laws' made. (Printed by gen_jnv.py.) -/
import Derived.Test.YtecbnhmnhcpcmaaGreatDoorPkJournalPlays24
/-! The walk of the laws' made. (Printed by gen_jnv.py.) -/
namespace Go.Proofs.YtecbnhmnhcpcmaaGreatDoor
open Go.RowKit Go.WideMaps Go.Maps
set_option linter.unusedVariables false
set_option linter.unusedSimpArgs false
set_option maxRecDepth 100000
theorem infoAc : (Tryz.prog.info? 38).map (fun i => (i.zero, i.size, i.bytes)) = some (some (.agg #[.int .i64 0, .int .u32 0, .slice none 0 0]), 3, 40) := by kernel_rfl
theorem oneAc (a : Ac) (pa : Option Addr) (pn pc : Nat) : ∀ u : Value, u ∈ [Value.int .i64 a.t, .int .u32 a.ten, .slice pa pn pc] → u.oneCell' = true := by
  intro u hu
  simp at hu
  rcases hu with rfl | rfl | rfl <;> rfl
def MadeEnd (L : List Ac) (w : World) (e : Ending) (w' : World) : Prop := ∃ p b1 b2 dv, e = .returned (.tuple #[.pointer (some ⟨p, 0, none⟩), dv]) ∧ MemS w' p b1 b2 (-1) 3000 (madeD (.map []) L).1 (.map []) ∧ w'.ownsRow w.heap.size 38 3 dv (madeD (.map []) L).2.length (((madeD (.map []) L).2.map Ac.cells).flatten) ∧ Below w.heap.size w w' ∧ w.heap.size ≤ p ∧ w.heap.size ≤ b1 ∧ w.heap.size ≤ b2
theorem Turned.owns {b base n size : Nat} {e : TypeId} {w w' : World} {v : Value} {xs : List Value} (h : Turned b w w') (ho : w.ownsRow base e size v n xs) : w'.ownsRow base e size v n xs := by
  obtain ⟨hl, ⟨rfl, h1⟩ | ⟨g, cap, cur, rfl, h2, h3, h4⟩⟩ := ho
  · exact ⟨hl, .inl ⟨rfl, h1⟩⟩
  · exact ⟨hl, .inr ⟨g, cap, cur, rfl, h2, h.block h3, h4⟩⟩
theorem act3_block {w : World} {base : Nat} {v : Value} {n k : Nat} {xs : List Value} (h : w.ownsRow base 38 3 v n xs) (hk : v.ownBlock = some k) : base ≤ k ∧ ∃ cs, w.heap[k]? = some (.cells cs 38 (0, 0)) := by
  obtain ⟨_, ⟨rfl, _⟩ | ⟨g, cap, cur, rfl, h2, h3, _⟩⟩ := h
  · cases hk
  · injection hk with hk
    subst hk
    exact ⟨h2, cur, h3⟩
theorem mem_grown {w w' : World} {p b1 b2 n m base : Nat} {room : Int} {D D2 : DM} {v : Value} {xs : List Value} (h : MemS w p b1 b2 room n D D2) (hg : w.grownBy w' v.ownBlock) (ho : w.ownsRow base 38 3 v m xs) : MemS w' p b1 b2 room n D D2 := by
  have key : ∀ k ob, w.heap[k]? = some ob → (∀ cs, ob ≠ Obj.cells cs 38 (0, 0)) → w'.heap[k]? = some ob := fun k ob hk hne => by
    refine (hg.block k (lt_of_block hk) fun e => ?_).trans hk
    obtain ⟨_, cs, h2⟩ := act3_block ho e.symm
    rw [hk] at h2
    injection h2 with h2
    exact hne cs h2
  refine ⟨key _ _ h.box (fun cs e => by injection e with _ e _; exact absurd e (by decide)), ?_, ?_, h.ne⟩
  · obtain ⟨es, c, h1, h2⟩ := h.now
    exact ⟨es, c, key _ _ h1 (fun cs e => by cases e), h2⟩
  · obtain ⟨es, c, h1, h2⟩ := h.was
    exact ⟨es, c, key _ _ h1 (fun cs e => by cases e), h2⟩
theorem act3_form {w : World} {base : Nat} {v : Value} {n : Nat} {xs : List Value} (h : w.ownsRow base 38 3 v n xs) : ∃ a c, v = .slice a n c := by
  obtain ⟨_, ⟨rfl, h1⟩ | ⟨g, cap, cur, rfl, -⟩⟩ := h
  · exact ⟨none, 0, by rw [h1]⟩
  · exact ⟨_, cap, rfl⟩
set_option maxHeartbeats 8000000 in
theorem made_any (lv : Value) (L : List Ac) (w : World) (hE : EnvA w) (hl : RowsIn w lv 3 (L.map Ac.cells)) (ho : ∀ a ∈ L, a.ok w) (h60 : L.length ≤ 60) (hsm : ∀ a ∈ L, a.small) : Calls Tryz.prog 19 #[lv] w (MadeEnd L w) := by
  have HE := Lib.hid hE
  have HL := Lib.hid hl
  have HO := Lib.hid ho
  have HS := Lib.hid hsm
  obtain ⟨a, c, rfl⟩ := ac_form hl
  obtain ⟨i0, hi, hz0, hz1, hz2⟩ := info_parts infoAc
  clear hl ho hE hsm
  go_enter Tryz.func19, Tryz.ntmps19
  go_wp2_with fail
  refine (new_any (-1) w).mono ?_
  rintro e w1 ⟨p, b1, b2, rfl, hm, hb, hp, hb1, hb2⟩
  have M1 := Lib.hid hm
  have B1 := Lib.hid hb
  clear hm hb
  go_wp2_with fail
  go_loopw [5, 6] (fun dv iv wr => ∃ (k n : Nat) (Dk : DM) (dn : List Ac), k ≤ L.length ∧ n ≤ 42 * k ∧ iv = .int .i64 k ∧ Hid (Jn Dk (lastN Dk) ∧ lastN Dk ≤ k) ∧ Hid (madeD (.map []) L = ((madeD Dk (L.drop k)).1, dn ++ (madeD Dk (L.drop k)).2)) ∧ Hid (MemS wr p b1 b2 (-1) n Dk (.map [])) ∧ Hid (wr.ownsRow w.heap.size 38 3 dv dn.length ((dn.map Ac.cells).flatten)) ∧ dn.length ≤ k ∧ Hid (Below w.heap.size w wr)) (fun _ iv _ => L.length - (intOf iv).toNat)
  case atStart => exact ⟨0, 0, .map [], [], by omega, by omega, rfl, ⟨⟨isMap_empty, wf_empty, rfl⟩, by decide⟩, by (show _ = _); simp, M1.out, World.ownsRow_nil _ _ _ _, by simp, B1.out⟩
  case round =>
    obtain ⟨k, n, Dk, dn, hk, hn, rfl, HJ, HM, MR, OR, hdn, BR⟩ := hrel
    by_cases hlt : k < L.length
    · obtain ⟨g, o, rfl, y0, y1, y2⟩ := ac_cells (HL.out.below BR.out) k hlt
      have hz : (k : Int) < L.length := by omega
      obtain ⟨r1, ⟨r2, r3⟩, r4, r5⟩ := HO.out L[k] (List.getElem_mem hlt)
      obtain ⟨s1, s2⟩ := HS.out L[k] (List.getElem_mem hlt)
      have HD : Hid (L.drop k = L[k] :: L.drop (k + 1)) := List.drop_eq_getElem_cons hlt
      generalize L[k] = q at *
      obtain ⟨t, ten, pv, ps⟩ := q
      dsimp only at y0 y1 y2 r1 r2 r3 r4 r5 s1 s2
      obtain ⟨tn, rfl⟩ : ∃ tn : Nat, ten = tn := ⟨ten.toNat, by omega⟩
      obtain ⟨pa, pc, rfl⟩ := pt_form r1
      have R1 := Lib.hid r1
      have R5 := Lib.hid r5
      have S2 := Lib.hid s2
      have JS : Hid (JnlS wr p b1 b2 n Dk (.map [])) := ⟨MR.out, HJ.out.1.isM, HJ.out.1.wf, by have := HJ.out.2; omega⟩
      clear r1 r5 s2
      go_upto_region 6 with fail
      have KS : Hid (∀ W, Below wr.heap.size wr W → W.cell? ⟨g, o + k * 3, none⟩ = some (.int .i64 t) ∧ W.cell? ⟨g, o + k * 3 + 1, none⟩ = some (.int .u32 tn) ∧ W.cell? ⟨g, o + k * 3 + 2, none⟩ = some (.slice pa ps.length pc)) := fun W hb => ⟨stays hb y0, stays hb y1, stays hb y2⟩
      refine wp_region_held_drew (S := (fun W => W.cell? ⟨g, o + k * 3, none⟩ = some (.int .i64 t) ∧ W.cell? ⟨g, o + k * 3 + 1, none⟩ = some (.int .u32 tn) ∧ W.cell? ⟨g, o + k * 3 + 2, none⟩ = some (.slice pa ps.length pc))) (by kernel_rfl) ?_ (fun hHeld => ?_)
      · (try dsimp only)
        exact KS.out _ (Below.refl _ _).drew
      refine Plan.start (plan := [0, 1, 2, 3, 4, 5, 6, 7, 8, 9, 10, 11, 12, 13, 14, 15, 16]) (fuel := 6) (by decide +kernel) (by assumption) ?_
      refine Plan.free (i := 0) (ds := some 17) (v := ?_) rfl rfl rfl ?_ (fun _ _ _ h => h) ?_
      rotate_left
      · (intro w hSw; (try dsimp only at hSw); go_simp; first | done | with_reducible rfl)
      (try simp only [Act.put, List.setIfInBounds_toArray, List.set_cons_zero, List.set_cons_succ])
      refine Plan.free (i := 1) (ds := some 18) (v := ?_) rfl rfl rfl ?_ (fun _ _ _ h => h) ?_
      rotate_left
      · (intro w hSw; (try dsimp only at hSw); go_simp; first | done | with_reducible rfl)
      (try simp only [Act.put, List.setIfInBounds_toArray, List.set_cons_zero, List.set_cons_succ])
      refine Plan.free (i := 2) (ds := some 19) (v := ?_) rfl rfl rfl ?_ (fun _ _ _ h => h) ?_
      rotate_left
      · (intro w hSw; (try dsimp only at hSw); go_simp; first | done | with_reducible rfl)
      (try simp only [Act.put, List.setIfInBounds_toArray, List.set_cons_zero, List.set_cons_succ])
      refine Plan.free (i := 3) (ds := some 20) (v := ?_) rfl rfl rfl ?_ (fun _ _ _ h => h) ?_
      rotate_left
      · (intro w hSw; (try dsimp only at hSw); go_simp; first | done | with_reducible rfl)
      (try simp only [Act.put, List.setIfInBounds_toArray, List.set_cons_zero, List.set_cons_succ])
      refine Plan.free (i := 4) (ds := some 21) (v := ?_) rfl rfl rfl ?_ (fun _ _ _ h => h) ?_
      rotate_left
      · (intro w hSw; (try dsimp only at hSw); go_simp; first | done | with_reducible rfl)
      (try simp only [Act.put, List.setIfInBounds_toArray, List.set_cons_zero, List.set_cons_succ])
      refine Plan.free (i := 5) (ds := some 22) (v := ?_) rfl rfl rfl ?_ (fun _ _ _ h => h) ?_
      rotate_left
      · (intro w hSw; (try dsimp only at hSw); go_simp; first | done | with_reducible rfl)
      (try simp only [Act.put, List.setIfInBounds_toArray, List.set_cons_zero, List.set_cons_succ])
      refine Plan.free (i := 6) (ds := some 23) (v := ?_) rfl rfl rfl ?_ (fun _ _ _ h => h) ?_
      rotate_left
      · (intro w hSw; (try dsimp only at hSw); go_simp; first | done | with_reducible rfl)
      (try simp only [Act.put, List.setIfInBounds_toArray, List.set_cons_zero, List.set_cons_succ])
      refine Plan.free (i := 7) (ds := some 24) (v := ?_) rfl rfl rfl ?_ (fun _ _ _ h => h) ?_
      rotate_left
      · (intro w hSw; (try dsimp only at hSw); go_simp; first | done | with_reducible rfl)
      (try simp only [Act.put, List.setIfInBounds_toArray, List.set_cons_zero, List.set_cons_succ])
      refine Plan.free (i := 8) (ds := some 25) (v := ?_) rfl rfl rfl ?_ (fun _ _ _ h => h) ?_
      rotate_left
      · (intro w hSw; (try dsimp only at hSw); go_simp; first | done | with_reducible rfl)
      (try simp only [Act.put, List.setIfInBounds_toArray, List.set_cons_zero, List.set_cons_succ])
      refine Plan.free (i := 9) (ds := some 26) (v := ?_) rfl rfl rfl ?_ (fun _ _ _ h => h) ?_
      rotate_left
      · (intro w hSw; (try dsimp only at hSw); go_simp; first | done | with_reducible rfl)
      (try simp only [Act.put, List.setIfInBounds_toArray, List.set_cons_zero, List.set_cons_succ])
      refine Plan.free (i := 10) (ds := some 27) (v := ?_) rfl rfl rfl ?_ (fun _ _ _ h => h) ?_
      rotate_left
      · (intro w hSw; (try dsimp only at hSw); go_simp; first | done | with_reducible rfl)
      (try simp only [Act.put, List.setIfInBounds_toArray, List.set_cons_zero, List.set_cons_succ])
      refine Plan.free (i := 11) (ds := some 28) (v := ?_) rfl rfl rfl ?_ (fun _ _ _ h => h) ?_
      rotate_left
      · (intro w hSw; (try dsimp only at hSw); go_simp; first | done | with_reducible rfl)
      (try simp only [Act.put, List.setIfInBounds_toArray, List.set_cons_zero, List.set_cons_succ])
      refine Plan.free (i := 12) (ds := some 29) (v := ?_) rfl rfl rfl ?_ (fun _ _ _ h => h) ?_
      rotate_left
      · (intro w hSw; (try dsimp only at hSw); go_simp; first | done | with_reducible rfl)
      (try simp only [Act.put, List.setIfInBounds_toArray, List.set_cons_zero, List.set_cons_succ])
      refine Plan.free (i := 13) (ds := some 30) (v := ?_) rfl rfl rfl ?_ (fun _ _ _ h => h) ?_
      rotate_left
      · (intro w hSw; (try dsimp only at hSw); go_simp; first | done | with_reducible rfl)
      (try simp only [Act.put, List.setIfInBounds_toArray, List.set_cons_zero, List.set_cons_succ])
      refine Plan.free (i := 14) (ds := some 31) (v := ?_) rfl rfl rfl ?_ (fun _ _ _ h => h) ?_
      rotate_left
      · (intro w hSw; (try dsimp only at hSw); go_simp; first | done | with_reducible rfl)
      (try simp only [Act.put, List.setIfInBounds_toArray, List.set_cons_zero, List.set_cons_succ])
      refine Plan.free (i := 15) (ds := some 32) (v := ?_) rfl rfl rfl ?_ (fun _ _ _ h => h) ?_
      rotate_left
      · (intro w hSw; (try dsimp only at hSw); go_simp; first | done | with_reducible rfl)
      (try simp only [Act.put, List.setIfInBounds_toArray, List.set_cons_zero, List.set_cons_succ])
      refine Plan.free (i := 16) (ds := some 33) (v := ?_) rfl rfl rfl ?_ (fun _ _ _ h => h) ?_
      rotate_left
      · (intro w hSw; (try dsimp only at hSw); go_simp; first | done | with_reducible rfl)
      (try simp only [Act.put, List.setIfInBounds_toArray, List.set_cons_zero, List.set_cons_succ])
      refine Plan.stop (fun hHeld => ?_)
      refine wpAnyH_ready (rs := [17]) (by decide +kernel) (by simp) ?_
      refine AllReadyH.cons (o := _) rfl ?_ AllReadyH.nil
      intro K hK
      rw [if_pos (wanted_none (by rfl))]
      (go_simp; go_at_call 10; refine (jn_post t tn (.slice pa ps.length pc) ps _ (HE.out.below BR.out.drew) (JS.out.below (Below.refl _ _).drew) (by omega) (R1.out.below BR.out.drew) s1 (by omega) (fun q hq => ⟨S2.out q hq, R5.out q hq⟩)).mono ?_; rintro e w3 ⟨rfl, hm, ht⟩; have M3 := Lib.hid hm; have T3 : Hid (Turned b1 wr w3) := (Turned.of_below (Below.refl _ _).drew MR.out.now.isM).trans ht; have B3 : Hid (Below w.heap.size w w3) := BR.out.trans (T3.out.below BR.out.size hb1); clear hm ht)
      refine hK.out _ _ ?_ (fun hHeld => ?_)
      · (try dsimp only)
        exact ⟨T3.out.cell y0, T3.out.cell y1, T3.out.cell y2⟩
      clear hK K
      (try simp only [Act.put, List.setIfInBounds_toArray, List.set_cons_zero, List.set_cons_succ])
      refine Plan.start (plan := [18, 19, 20, 21, 22]) (fuel := 0) (by decide +kernel) (by assumption) ?_
      refine Plan.free (i := 18) (ds := some 16) (v := ?_) rfl rfl rfl ?_ (fun _ _ _ h => h) ?_
      rotate_left
      · (intro w hSw; (try dsimp only at hSw); go_simp; first | done | with_reducible rfl)
      (try simp only [Act.put, List.setIfInBounds_toArray, List.set_cons_zero, List.set_cons_succ])
      refine Plan.free (i := 19) (ds := some 35) (v := ?_) rfl rfl rfl ?_ (fun _ _ _ h => h) ?_
      rotate_left
      · (intro w hSw; (try dsimp only at hSw); go_simp; first | done | with_reducible rfl)
      (try simp only [Act.put, List.setIfInBounds_toArray, List.set_cons_zero, List.set_cons_succ])
      refine Plan.free (i := 20) (ds := some 36) (v := ?_) rfl rfl rfl ?_ (fun _ _ _ h => h) ?_
      rotate_left
      · (intro w hSw; (try dsimp only at hSw); go_simp; first | done | with_reducible rfl)
      (try simp only [Act.put, List.setIfInBounds_toArray, List.set_cons_zero, List.set_cons_succ])
      refine Plan.free (i := 21) (ds := some 7) (v := ?_) rfl rfl rfl ?_ (fun _ _ _ h => h) ?_
      rotate_left
      · (intro w hSw; (try dsimp only at hSw); go_simp; first | done | with_reducible rfl)
      (try simp only [Act.put, List.setIfInBounds_toArray, List.set_cons_zero, List.set_cons_succ])
      refine Plan.free (i := 22) (ds := some 8) (v := ?_) rfl rfl rfl ?_ (fun _ _ _ h => h) ?_
      rotate_left
      · (intro w hSw; (try dsimp only at hSw); go_simp; first | done | with_reducible rfl)
      (try simp only [Act.put, List.setIfInBounds_toArray, List.set_cons_zero, List.set_cons_succ])
      refine Plan.stop (fun hHeld => ?_)
      refine wpAnyH_done (by decide +kernel) ?_ _
      have hms := HM.out
      rw [HD.out] at hms
      have O3 : Hid (w3.ownsRow w.heap.size 38 3 u5 dn.length ((dn.map Ac.cells).flatten)) := T3.out.owns OR.out
      have z0 := T3.out.cell y0
      have z1 := T3.out.cell y1
      have z2 := T3.out.cell y2
      rcases postO_cases HJ.out.1 (by have := HJ.out.2; omega) t tn ps with ⟨er, he, hpo⟩ | ⟨hpo, hj, -⟩
      · have he0 : er ≠ 0 := by omega
        rw [made_no (a := ⟨t, tn, .slice pa ps.length pc, ps⟩) hpo he0] at hms
        have HM2 := Lib.hid hms
        rw [hpo] at M3
        rw [hpo]
        have M4 : Hid (MemS w3 p b1 b2 (-1) (n + 42) Dk (.map [])) := M3.out
        have d : (er == 0) = false := by rw [beq_eq_false_iff_ne]; exact he0
        have HJ2 : Hid (Jn Dk (lastN Dk) ∧ lastN Dk ≤ k + 1) := ⟨HJ.out.1, by have := HJ.out.2; omega⟩
        clear hms hpo he0 M3 HD HM HJ he
        go_wp2_with fail
        go_roundw
        case rel => exact ⟨k + 1, n + 42, Dk, dn, by omega, by omega, by go_num, HJ2.out, HM2.out, M4.out, O3.out, by omega, B3.out⟩
        case measure => simp [intOf]; omega
      · rw [made_yes (a := ⟨t, tn, .slice pa ps.length pc, ps⟩) hpo] at hms
        have HM2 : Hid (madeD (.map []) L = ((madeD (postD Dk t tn ps) (L.drop (k + 1))).1, (dn ++ [⟨t, tn, .slice pa ps.length pc, ps⟩]) ++ (madeD (postD Dk t tn ps) (L.drop (k + 1))).2)) := by
          show _ = _
          rw [hms]
          simp
        rw [hpo] at M3
        rw [hpo]
        have M4 : Hid (MemS w3 p b1 b2 (-1) (n + 42) (postD Dk t tn ps) (.map [])) := M3.out
        have HJ2 : Hid (Jn (postD Dk t tn ps) (lastN (postD Dk t tn ps)) ∧ lastN (postD Dk t tn ps) ≤ k + 1) := ⟨⟨hj.isM, hj.wf, rfl⟩, by have := HJ.out.2; have := hj.last; omega⟩
        clear hms hpo M3 HD HM HJ hj
        have O4 := Lib.hid (O3.out.alloc (.cells #[.int .i64 t, .int .u32 tn, .slice pa ps.length pc] 38))
        have hs3 := B3.out.size
        go_wp2_with (at_builtin; refine wpList_append_own _ rfl (.tmp 39) (.tmp 44) 22 rfl w.heap.size 38 i0 _ 3 40 Tryz.underlying22 hi hz0 hz1 hz2 rfl (by decide) _ _ _ rfl O4.out ⟨w3.heap.size, 0, none⟩ 1 1 [.int .i64 t, .int .u32 tn, .slice pa ps.length pc] rfl rfl (new_cells _ _ _) (oneAc ⟨t, tn, .bool true, []⟩ pa ps.length pc) (by unfold maxLen; omega) (by omega) (by simp; omega) ?_)
        intro v5 w5 hown hgr _
        have hKB : Below w.heap.size w w5 := (onward (below_alloc _ _) B3.out).grown hgr (by simp; omega) (fun k hk => (O4.out.lt k hk).1)
        have B5 := Lib.hid hKB
        have O5 : Hid (w5.ownsRow w.heap.size 38 3 v5 (dn ++ [(⟨t, tn, .slice pa ps.length pc, ps⟩ : Ac)]).length (((dn ++ [(⟨t, tn, .slice pa ps.length pc, ps⟩ : Ac)]).map Ac.cells).flatten)) := by
          show World.ownsRow _ _ _ _ _ _ _
          rw [List.length_append, List.map_append, List.flatten_append]
          simpa [Ac.cells] using hown
        have M5 : Hid (MemS w5 p b1 b2 (-1) (n + 42) (postD Dk t tn ps) (.map [])) := mem_grown (M4.out.below (below_alloc _ _)) hgr O4.out
        clear hown hgr hKB
        go_wp2_with fail
        go_roundw
        case rel => exact ⟨k + 1, n + 42, _, _, by omega, by omega, by go_num, HJ2.out, HM2.out, M5.out, O5.out, by rw [List.length_append]; simp; omega, B5.out⟩
        case measure => simp [intOf]; omega
    · have hke : k = L.length := by omega
      have dk : decide ((k : Int) < ((L.length : Nat) : Int)) = false := decide_eq_false (by omega)
      have HM2 := HM.out
      rw [hke, List.drop_length] at HM2
      have e1 : (madeD (.map []) L).1 = Dk := by rw [HM2]; rfl
      have e2 : (madeD (.map []) L).2 = dn := by rw [HM2]; show dn ++ [] = dn; simp
      have HF : Hid (MemS wr p b1 b2 (-1) 3000 (madeD (.map []) L).1 (.map []) ∧ wr.ownsRow w.heap.size 38 3 u5 (madeD (.map []) L).2.length (((madeD (.map []) L).2.map Ac.cells).flatten)) := by
        rw [e1, e2]
        exact ⟨MR.out.mono (by omega), OR.out⟩
      clear HM HM2 e1 e2 hke
      go_wp2_with fail
      go_ret2
      exact ⟨p, b1, b2, _, rfl, HF.out.1, HF.out.2, BR.out, hp, hb1, hb2⟩
end Go.Proofs.YtecbnhmnhcpcmaaGreatDoor
