/- The walk of render.Parse. (Printed by gen_rnj.py.) -/
import Derived.Test.YtmppkhjjlgngkaaGreatDoorRnI
namespace Go.Proofs.YtmppkhjjlgngkaaGreatDoor
open Go.RowKit Civ Ren Go.Shelf
set_option linter.unusedVariables false
set_option linter.unusedSimpArgs false
theorem parseI_none {s : List UInt8} {w w' : World} (h : parseR s = none) (hb : Below w.heap.size w w') : ParseI s w (.returned (.tuple #[.agg zeroI, .int .i64 21])) w' := ⟨hb, by rw [h]⟩
theorem parseI_some {s : List UInt8} {w w' : World} {v : Ren.Inv} {lv : Value} (h : parseR s = some v) (hb : Below w.heap.size w w') (hl : RowsIn w' lv 5 (v.ls.map Ren.Ln.cells)) : ParseI s w (.returned (.tuple #[v.val lv, .int .i64 0])) w' := ⟨hb, by rw [h]; exact ⟨lv, hl, rfl⟩⟩
theorem parseR_none {s : List UInt8} (h : parseS s = none) : parseR s = none := by unfold parseR; rw [h]
theorem parseR_other {s : List UInt8} {v : Ren.Inv} (h : parseS s = some v) (hn : ¬ textL v = s) : parseR s = none := by unfold parseR; rw [h]; simp only; rw [if_neg hn]
theorem parseR_same {s : List UInt8} {v : Ren.Inv} (h : parseS s = some v) (hn : textL v = s) : parseR s = some v := by unfold parseR; rw [h]; simp only; rw [if_pos hn]
theorem next_len {w : List UInt8} {ls ws r : List (List UInt8)} (h : nextS w ls = some (ws, r)) : ls.length = r.length + 1 := by
  obtain ⟨l, rfl, -, -⟩ := next_is h
  rfl
theorem must_len {w : List UInt8} {ls r : List (List UInt8)} {n : Int} (h : mustS w ls = some (n, r)) : r.length ≤ ls.length := by
  unfold mustS at h
  split at h
  · cases h
  · rename_i hn
    split at h
    · cases h
    · injection h with h
      injection h with _ h2
      subst h2
      have := next_len hn
      omega
theorem month_len {ls r : List (List UInt8)} {n : Int} (h : monthS ls = some (n, r)) : r.length ≤ ls.length := by
  unfold monthS at h
  split at h
  · cases h
  · rename_i hn
    split at h
    · split at h
      · cases h
      · injection h with h
        injection h with _ h2
        subst h2
        have := next_len hn
        omega
    · cases h
theorem split_len (c : UInt8) (s : List UInt8) : (Lib.split s [c]).length ≤ s.length + 2 := by
  have h1 := splitK_len c _ s (Nat.le_refl _)
  have h2 := Lib.count_le s [c]
  have e : (Lib.split s [c]).length = Lib.count s [c] + 1 := h1
  omega
theorem door_w {w W W' : World} {r : Nat} (h : Below w.heap.size w W) (hr : w.heap.size ≤ r) (hk : Kept (· = r) W W') : Below w.heap.size w W' := h.trans (hk.below h.size (fun k hk => by subst hk; exact hr))
theorem seven {w : World} {p0 p1 : Nat} {x0 x1 x2 x3 x4 x5 y : Value} (h0 : w.heap[p0]? = some (.cells #[x0, x1, x2, x3, x4, x5] 25 (0, 0))) (h1 : w.heap[p1]? = some (.cells #[y] 26 (0, 0))) (hne : p0 ≠ p1) (u0 u1 u2 u3 u4 u5 z : Value) :
    (((((((w.setCell ⟨p0, 0, none⟩ u0).setCell ⟨p0, 1, none⟩ u1).setCell ⟨p0, 2, none⟩ u2).setCell ⟨p0, 3, none⟩ u3).setCell ⟨p0, 4, none⟩ u4).setCell ⟨p0, 5, none⟩ u5).setCell ⟨p1, 0, none⟩ z).heap[p0]? = some (.cells #[u0, u1, u2, u3, u4, u5] 25 (0, 0)) ∧
    (((((((w.setCell ⟨p0, 0, none⟩ u0).setCell ⟨p0, 1, none⟩ u1).setCell ⟨p0, 2, none⟩ u2).setCell ⟨p0, 3, none⟩ u3).setCell ⟨p0, 4, none⟩ u4).setCell ⟨p0, 5, none⟩ u5).setCell ⟨p1, 0, none⟩ z).heap[p1]? = some (.cells #[z] 26 (0, 0)) ∧
    Kept (fun k => k = p0 ∨ k = p1) w (((((((w.setCell ⟨p0, 0, none⟩ u0).setCell ⟨p0, 1, none⟩ u1).setCell ⟨p0, 2, none⟩ u2).setCell ⟨p0, 3, none⟩ u3).setCell ⟨p0, 4, none⟩ u4).setCell ⟨p0, 5, none⟩ u5).setCell ⟨p1, 0, none⟩ z) := by
  have k6 := kept_six (fun k => k = p0 ∨ k = p1) w p0 (.inl rfl) u0 u1 u2 u3 u4 u5
  have b6 : ((((((w.setCell ⟨p0, 0, none⟩ u0).setCell ⟨p0, 1, none⟩ u1).setCell ⟨p0, 2, none⟩ u2).setCell ⟨p0, 3, none⟩ u3).setCell ⟨p0, 4, none⟩ u4).setCell ⟨p0, 5, none⟩ u5).heap[p0]? = some (.cells #[u0, u1, u2, u3, u4, u5] 25 (0, 0)) :=
    set_block (set_block (set_block (set_block (set_block (set_block h0)))))
  have k := kept_six (fun k => k = p0) w p0 rfl u0 u1 u2 u3 u4 u5
  have e6 := (k.block p1 (lt_of_block h1) (Ne.symm hne)).trans h1
  exact ⟨(((Kept.refl (fun k => k = p1) _).set ⟨p1, 0, none⟩ z rfl).block p0 (lt_of_block b6) hne).trans b6, set_block e6, k6.set _ _ (.inr rfl)⟩
theorem baNe {a b : List UInt8} (h : ¬ a = b) : ¬ (⟨a.toArray⟩ : ByteArray) = ⟨b.toArray⟩ := by
  intro e
  injection e with e
  exact h (by simpa using congrArg Array.toList e)
set_option maxHeartbeats 16000000 in
set_option maxRecDepth 10000000 in
theorem rparse_any (s : List UInt8) (w : World) (hE : EnvR w) (hs : s.length ≤ 1000000) : Calls Tryz.prog 14 #[.string ⟨s.toArray⟩] w (ParseI s w) := by
  have hmf : ∀ (fn : Fn) (first cap : Array Value) (w : World), (Instr.makeFunc fn first cap).run Tryz.prog w = .ok (.func fn first cap) w := fun _ _ _ _ => rfl
  obtain ⟨b2, h1, h2, h3⟩ := two_blocks w zeroI #[.int .i64 0] 25 26
  have B2 := Lib.hid b2
  have P0 := Lib.hid h1
  have P1 := Lib.hid h2
  have HE := Lib.hid hE
  obtain ⟨i0, hi, hz0, hz1, hz2⟩ := info_parts infoLn
  have hSL := split_len 10 s
  clear b2 h1 h2 hE
  go_enter_defers Tryz.func14, Tryz.ntmps14
  go_wp2_with fail
  refine (split_any 10 s (w.heap.size + 2) w.heap.size _ (HE.out.below B2.out) hs (by omega) (by omega)).mono ?_
  rintro e w2 ⟨v2, rfl, hv, hb⟩
  have hv0 := hv
  obtain ⟨sa, sc, rfl, -, -⟩ := hv0
  have bb := below_alloc w2 (.cells #[.slice sa (Lib.split s [10]).length sc] 63)
  have hR : RdrAt (w2.alloc (.cells #[.slice sa (Lib.split s [10]).length sc] 63)) (w.heap.size + 2) w2.heap.size (Lib.split s [10]) := by
    have hsz := hb.size
    refine ⟨⟨_, heap_alloc_new w2 _, (hv.other (Nat.le_refl _)).below bb, fun k hk => ?_⟩, by omega⟩
    obtain ⟨a, c, ef, hc, hs'⟩ := hv
    injection ef with e1 _ e2
    subst e1 e2
    have hne := split_ne 10 s
    obtain ⟨g, o, rfl, h5, h6, h7⟩ := hs' 0 (by rcases h0 : Lib.split s [10] with _ | ⟨x, y⟩; exact absurd h0 hne; simp)
    have := World.block_lt_of_cell? _ _ h7
    have e : g = k := by injection hk
    have h8 : g < w2.heap.size := this
    omega
  have R3 := Lib.hid hR
  have B3 := Lib.hid (onward bb (onward hb B2.out))
  have P03 := Lib.hid (stays_block bb (stays_block hb P0.out))
  have P13 := Lib.hid (stays_block bb (stays_block hb P1.out))
  have hr2 := hb.size
  rw [h3] at hr2
  have S3 := Lib.hid (split_small 10 s hs)
  clear hv hb bb hR P0 P1 B2 h3
  go_upto_region 3 with fail
  generalize hW3 : w2.alloc (.cells #[.slice sa (Lib.split s [10]).length sc] 63) = W3 at *
  generalize w2.heap.size = r at *
  clear hW3
  have hrw : w.heap.size ≤ r := by omega
  have HEK : Hid (∀ W, Below w.heap.size w W → ∀ W', Kept (· = r) W W' → EnvR W') := fun W hb W' hk => HE.out.below (door_w hb hrw hk)
  have HT : Hid (∃ ls, ls = Lib.split s [10]) := ⟨_, rfl⟩
  go_wp2_with fail
  refine (must_any wInvoice _ (w.heap.size + 2) r _ (HEK.out _ B3.out) R3.out S3.out (by decide)).mono ?_
  rintro e w4 ⟨hk, hm⟩
  have B4 := Lib.hid (door_w B3.out hrw hk)
  have P04 := Lib.hid ((hk.block _ (lt_of_block P03.out) (by omega)).trans P03.out)
  have P14 := Lib.hid ((hk.block _ (lt_of_block P13.out) (by omega)).trans P13.out)
  clear hk
  rcases h1 : mustS wInvoice (Lib.split s [10]) with _ | ⟨a1, l1⟩
  · rw [h1] at hm
    subst hm
    go_wp2_with fail
    exact door_panic w _ _ rfl rfl P04.out P14.out B4.out _ (fun w' hb => parseI_none (parseR_none (by simp only [parseS, h1, Option.bind_some, Option.bind_none])) hb)
  rw [h1] at hm
  obtain ⟨rfl, hr, hsm⟩ := hm
  have R4 := Lib.hid hr
  have S4 := Lib.hid hsm
  clear hr hsm B3 P03 P13 R3 S3
  go_wp2_with fail
  rcases small_cases a1 with hs1 | hs1
  rotate_left
  · refine (small_no a1 _ hs1).mono ?_
    rintro e _ ⟨rfl, rfl⟩
    go_wp2_with fail
    exact door_panic w _ _ rfl rfl P04.out P14.out B4.out _ (fun w' hb => parseI_none (parseR_none (by simp only [parseS, h1, hs1, Option.bind_some, Option.bind_none])) hb)
  refine (small_ok a1 _ hs1).mono ?_
  rintro e _ ⟨rfl, rfl⟩
  go_wp2_with fail
  refine (must_any wTenant _ (w.heap.size + 2) r _ (HEK.out _ B4.out) R4.out S4.out (by decide)).mono ?_
  rintro e w5 ⟨hk, hm⟩
  have B5 := Lib.hid (door_w B4.out hrw hk)
  have P05 := Lib.hid ((hk.block _ (lt_of_block P04.out) (by omega)).trans P04.out)
  have P15 := Lib.hid ((hk.block _ (lt_of_block P14.out) (by omega)).trans P14.out)
  clear hk
  rcases h2 : mustS wTenant l1 with _ | ⟨b1, l2⟩
  · rw [h2] at hm
    subst hm
    go_wp2_with fail
    exact door_panic w _ _ rfl rfl P05.out P15.out B5.out _ (fun w' hb => parseI_none (parseR_none (by simp only [parseS, h1, hs1, h2, Option.bind_some, Option.bind_none])) hb)
  rw [h2] at hm
  obtain ⟨rfl, hr, hsm⟩ := hm
  have R5 := Lib.hid hr
  have S5 := Lib.hid hsm
  clear hr hsm B4 P04 P14 R4 S4
  go_wp2_with fail
  rcases small_cases b1 with hs2 | hs2
  rotate_left
  · refine (small_no b1 _ hs2).mono ?_
    rintro e _ ⟨rfl, rfl⟩
    go_wp2_with fail
    exact door_panic w _ _ rfl rfl P05.out P15.out B5.out _ (fun w' hb => parseI_none (parseR_none (by simp only [parseS, h1, hs1, h2, hs2, Option.bind_some, Option.bind_none])) hb)
  refine (small_ok b1 _ hs2).mono ?_
  rintro e _ ⟨rfl, rfl⟩
  go_wp2_with fail
  refine (month_rd _ (w.heap.size + 2) r _ (HEK.out _ B5.out) R5.out S5.out).mono ?_
  rintro e w6 ⟨hk, hm⟩
  have B6 := Lib.hid (door_w B5.out hrw hk)
  have P06 := Lib.hid ((hk.block _ (lt_of_block P05.out) (by omega)).trans P05.out)
  have P16 := Lib.hid ((hk.block _ (lt_of_block P15.out) (by omega)).trans P15.out)
  clear hk
  rcases h3 : monthS l2 with _ | ⟨mo, l3⟩
  · rw [h3] at hm
    subst hm
    go_wp2_with fail
    exact door_panic w _ _ rfl rfl P06.out P16.out B6.out _ (fun w' hb => parseI_none (parseR_none (by simp only [parseS, h1, hs1, h2, hs2, h3, Option.bind_some, Option.bind_none])) hb)
  rw [h3] at hm
  obtain ⟨rfl, hr, hsm⟩ := hm
  have R6 := Lib.hid hr
  have S6 := Lib.hid hsm
  clear hr hsm B5 P05 P15 R5 S5
  have hl3 : l3.length ≤ 1000002 := by
    have e1 := must_len h1
    have e2 := must_len h2
    have e3 := month_len h3
    omega
  obtain ⟨-, c0, c1, c2, c3, c4, c5⟩ := cells6 P06.out
  have f0 : w6.frozen? ⟨w.heap.size, 0, none⟩ = false := free_of_row P06.out
  have f1 : w6.frozen? ⟨w.heap.size, 1, none⟩ = false := free_of_row P06.out
  have f2 : w6.frozen? ⟨w.heap.size, 2, none⟩ = false := free_of_row P06.out
  have hk : Kept (· = w.heap.size) w6 (((w6.setCell ⟨w.heap.size, 0, none⟩ (.int .u32 a1)).setCell ⟨w.heap.size, 1, none⟩ (.int .u32 b1)).setCell ⟨w.heap.size, 2, none⟩ (.int .i64 mo)) := (((Kept.refl (fun k => k = w.heap.size) w6).set ⟨w.heap.size, 0, none⟩ (.int .u32 a1) rfl).set ⟨w.heap.size, 1, none⟩ (.int .u32 b1) rfl).set ⟨w.heap.size, 2, none⟩ (.int .i64 mo) rfl
  have P07 : Hid ((((w6.setCell ⟨w.heap.size, 0, none⟩ (.int .u32 a1)).setCell ⟨w.heap.size, 1, none⟩ (.int .u32 b1)).setCell ⟨w.heap.size, 2, none⟩ (.int .i64 mo)).heap[w.heap.size]? = some (.cells #[.int .u32 a1, .int .u32 b1, .int .i64 mo, .slice none 0 0, .int .i64 0, .int .i64 0] 25 (0, 0))) := set_block (set_block (set_block P06.out))
  have P17 := Lib.hid ((hk.block _ (lt_of_block P16.out) (by omega)).trans P16.out)
  have B7 := Lib.hid (door_w B6.out (Nat.le_refl _) hk)
  have R7 := Lib.hid (R6.out.step hk (fun k h1 h2 => by omega))
  clear hk B6 P06 P16 R6
  go_wp2_with fail
  clear c0 c1 c2 c3 c4 c5 f0 f1 f2
  generalize ((w6.setCell ⟨w.heap.size, 0, none⟩ (.int .u32 a1)).setCell ⟨w.heap.size, 1, none⟩ (.int .u32 b1)).setCell ⟨w.heap.size, 2, none⟩ (.int .i64 mo) = W7 at *
  go_loopw [5] (fun _ wr => ∃ (rem : List (List UInt8)) (dn : List Ren.Ln) (lv : Value), Hid (RdrAt wr (w.heap.size + 2) r rem) ∧ Hid (Small rem) ∧ Hid (wr.heap[w.heap.size]? = some (.cells #[.int .u32 a1, .int .u32 b1, .int .i64 mo, lv, .int .i64 0, .int .i64 0] 25 (0, 0))) ∧ Hid (wr.heap[w.heap.size + 1]? = some (.cells #[.int .i64 0] 26 (0, 0))) ∧ Hid (OwnL wr (r + 1) lv dn) ∧ Hid (linesS l3 = (linesS rem).map fun y => (dn ++ y.1, y.2)) ∧ dn.length + rem.length ≤ 1000002 ∧ Hid (Below w.heap.size w wr)) (fun _ wr => leftAt wr r)
  case atStart => exact ⟨l3, [], _, R7, S6, P07, P17, OwnL.nil _ _, (by show _ = _; simp), by simpa using hl3, B7⟩
  case round =>
    clear R7 S6 P07 P17 B7
    obtain ⟨rem, dn, lv, Rr, Sr, P0r, P1r, OWr, LS, hlen, Br⟩ := hrel
    rcases next_cases wBase rem with hb0 | ⟨ws, r', hb0⟩
    rotate_left
    · go_wp2_with fail
      refine (next_yes wBase _ ws r' (w.heap.size + 2) r _ (HEK.out _ Br.out _ (Kept.refl _ _)) Rr.out Sr.out (by decide) hb0).mono ?_
      rintro e wn ⟨v, rfl, hv, hr, hk⟩
      have Bn := Lib.hid (door_w Br.out hrw hk)
      have P0n := Lib.hid ((hk.block _ (lt_of_block P0r.out) (by omega)).trans P0r.out)
      have P1n := Lib.hid ((hk.block _ (lt_of_block P1r.out) (by omega)).trans P1r.out)
      have Rn := Lib.hid hr
      have Sn := Lib.hid (next_small hb0 Sr.out)
      have Vn := Lib.hid hv
      have OWn := Lib.hid (OWr.out.kept hk (fun k h1 h2 => by omega))
      obtain ⟨va, vc, rfl, -, -⟩ := hv
      clear hr hk
      have KS : Hid (∀ W, Below wn.heap.size wn W → W.cell? ⟨w.heap.size, 3, none⟩ = some lv) := fun W hb => (cells6 (stays_block hb P0n.out)).2.2.2.2.1
      have Sn2 := Lib.hid Sn.out.2
      rcases hx : baseS ws with _ | x
      · have HN : Hid (parseR s = none) := parseR_none (by
          have hl : linesS l3 = none := by rw [LS.out, lines_base hb0, hx]; rfl
          simp only [parseS, h1, hs1, h2, hs2, h3, hl, Option.bind_some, Option.bind_none])
        rcases base_no hx with hno | ⟨p, q1, hno | ⟨q2, hno | ⟨d, q3, hno⟩⟩⟩
        · have N2 : Hid (∀ W, Below wn.heap.size wn W → Calls Tryz.prog 34 #[.slice va ws.length vc, .int .i64 2] W fun e w' => e = .panicked thrown ∧ Below W.heap.size W w') := fun W hb => number_no _ ws 2 (w.heap.size + 2) r W (HEK.out _ (onward hb Bn.out) _ (Kept.refl _ _)).env (Vn.out.below hb) Sn.out.1 hno
          clear hx hno
          go_wp2_with fail
          refine UpTo.start (z := 13) (C := (fun W => W.cell? ⟨w.heap.size, 3, none⟩ = some lv)) (by kernel_rfl) ?_ (fun hHeld => ?_)
          · (try dsimp only)
            exact KS.out _ (Below.refl _ _).drew
          refine PlanZ.start (plan := [0, 1, 2, 5, 7]) (fuel := 9) (by decide +kernel) (by assumption) ?_
          refine PlanZ.free (i := 0) (ds := some 37) (v := ?_) rfl rfl rfl ?_ (fun c a w h => put_door _ _ _ (by decide) (by decide) c a w h) ?_
          rotate_left
          · (intro w hSw; (try dsimp only at hSw); go_simp; first | done | with_reducible rfl)
          (try simp only [Act.put, List.setIfInBounds_toArray, List.set_cons_zero, List.set_cons_succ])
          refine PlanZ.free (i := 1) (ds := some 38) (v := ?_) rfl rfl rfl ?_ (fun c a w h => put_door _ _ _ (by decide) (by decide) c a w h) ?_
          rotate_left
          · (intro w hSw; (try dsimp only at hSw); go_simp; first | done | with_reducible rfl)
          (try simp only [Act.put, List.setIfInBounds_toArray, List.set_cons_zero, List.set_cons_succ])
          refine PlanZ.free (i := 2) (ds := some 39) (v := ?_) rfl rfl rfl ?_ (fun c a w h => put_door _ _ _ (by decide) (by decide) c a w h) ?_
          rotate_left
          · (intro w hSw; (try dsimp only at hSw); go_simp; first | done | with_reducible rfl)
          (try simp only [Act.put, List.setIfInBounds_toArray, List.set_cons_zero, List.set_cons_succ])
          refine PlanZ.free (i := 5) (ds := some 42) (v := ?_) rfl rfl rfl ?_ (fun c a w h => put_door _ _ _ (by decide) (by decide) c a w h) ?_
          rotate_left
          · (intro w hSw; (try dsimp only at hSw); go_simp; first | done | with_reducible rfl)
          (try simp only [Act.put, List.setIfInBounds_toArray, List.set_cons_zero, List.set_cons_succ])
          refine PlanZ.free (i := 7) (ds := some 44) (v := ?_) rfl rfl rfl ?_ (fun c a w h => put_door _ _ _ (by decide) (by decide) c a w h) ?_
          rotate_left
          · (intro w hSw; (try dsimp only at hSw); go_simp; first | done | with_reducible rfl)
          (try simp only [Act.put, List.setIfInBounds_toArray, List.set_cons_zero, List.set_cons_succ])
          refine PlanZ.stop (fun hHeld => ?_)
          refine UpTo.ready (rs := [3]) (by decide +kernel) (by simp) ?_
          refine AllZ.cons (o := _) rfl ?_ AllZ.nil
          intro K hK
          rw [if_pos (wanted_none (by rfl))]
          (go_simp; go_at_call 34; refine (N2.out _ (Below.refl _ _).drew).mono ?_; rintro e y9 ⟨rfl, hb⟩; have Y9 := Lib.hid (onward hb (Below.refl _ _).drew); clear hb; go_wp2_with fail; exact door_panic w _ _ rfl rfl (stays_block Y9.out P0n.out) (stays_block Y9.out P1n.out) (onward Y9.out Bn.out) _ (fun w' hb => parseI_none HN.out hb))
        · have N2 : Hid (∀ W, Below wn.heap.size wn W → Calls Tryz.prog 34 #[.slice va ws.length vc, .int .i64 2] W fun e w' => e = .returned (.int .i64 p) ∧ Below W.heap.size W w') := fun W hb => number_ok _ ws 2 p (w.heap.size + 2) r W (HEK.out _ (onward hb Bn.out) _ (Kept.refl _ _)).env (Vn.out.below hb) Sn.out.1 q1
          clear hx
          go_wp2_with fail
          refine UpTo.start (z := 13) (C := (fun W => W.cell? ⟨w.heap.size, 3, none⟩ = some lv)) (by kernel_rfl) ?_ (fun hHeld => ?_)
          · (try dsimp only)
            exact KS.out _ (Below.refl _ _).drew
          refine PlanZ.start (plan := [0, 1, 2, 5, 7]) (fuel := 9) (by decide +kernel) (by assumption) ?_
          refine PlanZ.free (i := 0) (ds := some 37) (v := ?_) rfl rfl rfl ?_ (fun c a w h => put_door _ _ _ (by decide) (by decide) c a w h) ?_
          rotate_left
          · (intro w hSw; (try dsimp only at hSw); go_simp; first | done | with_reducible rfl)
          (try simp only [Act.put, List.setIfInBounds_toArray, List.set_cons_zero, List.set_cons_succ])
          refine PlanZ.free (i := 1) (ds := some 38) (v := ?_) rfl rfl rfl ?_ (fun c a w h => put_door _ _ _ (by decide) (by decide) c a w h) ?_
          rotate_left
          · (intro w hSw; (try dsimp only at hSw); go_simp; first | done | with_reducible rfl)
          (try simp only [Act.put, List.setIfInBounds_toArray, List.set_cons_zero, List.set_cons_succ])
          refine PlanZ.free (i := 2) (ds := some 39) (v := ?_) rfl rfl rfl ?_ (fun c a w h => put_door _ _ _ (by decide) (by decide) c a w h) ?_
          rotate_left
          · (intro w hSw; (try dsimp only at hSw); go_simp; first | done | with_reducible rfl)
          (try simp only [Act.put, List.setIfInBounds_toArray, List.set_cons_zero, List.set_cons_succ])
          refine PlanZ.free (i := 5) (ds := some 42) (v := ?_) rfl rfl rfl ?_ (fun c a w h => put_door _ _ _ (by decide) (by decide) c a w h) ?_
          rotate_left
          · (intro w hSw; (try dsimp only at hSw); go_simp; first | done | with_reducible rfl)
          (try simp only [Act.put, List.setIfInBounds_toArray, List.set_cons_zero, List.set_cons_succ])
          refine PlanZ.free (i := 7) (ds := some 44) (v := ?_) rfl rfl rfl ?_ (fun c a w h => put_door _ _ _ (by decide) (by decide) c a w h) ?_
          rotate_left
          · (intro w hSw; (try dsimp only at hSw); go_simp; first | done | with_reducible rfl)
          (try simp only [Act.put, List.setIfInBounds_toArray, List.set_cons_zero, List.set_cons_succ])
          refine PlanZ.stop (fun hHeld => ?_)
          refine UpTo.ready (rs := [3]) (by decide +kernel) (by simp) ?_
          refine AllZ.cons (o := _) rfl ?_ AllZ.nil
          intro K hK
          rw [if_pos (wanted_none (by rfl))]
          (go_simp; go_at_call 34; refine (N2.out _ (Below.refl _ _).drew).mono ?_; rintro e y3 ⟨rfl, hb⟩; have Y3 := Lib.hid (onward hb (Below.refl _ _).drew); clear hb)
          refine hK.out _ _ ?_ (fun hHeld => ?_)
          · (try dsimp only)
            exact KS.out _ Y3.out
          clear hK K
          (try simp only [Act.put, List.setIfInBounds_toArray, List.set_cons_zero, List.set_cons_succ])
          refine UpTo.ready (rs := [4]) (by decide +kernel) (by simp) ?_
          refine AllZ.cons (o := _) rfl ?_ AllZ.nil
          intro K hK
          rw [if_pos (wanted_none (by rfl))]
          (go_simp; go_at_call 30; refine (small_no p _ hno).mono ?_; rintro e _ ⟨rfl, rfl⟩; go_wp2_with fail; exact door_panic w _ _ rfl rfl (stays_block Y3.out P0n.out) (stays_block Y3.out P1n.out) (onward Y3.out Bn.out) _ (fun w' hb => parseI_none HN.out hb))
        · have N2 : Hid (∀ W, Below wn.heap.size wn W → Calls Tryz.prog 34 #[.slice va ws.length vc, .int .i64 2] W fun e w' => e = .returned (.int .i64 p) ∧ Below W.heap.size W w') := fun W hb => number_ok _ ws 2 p (w.heap.size + 2) r W (HEK.out _ (onward hb Bn.out) _ (Kept.refl _ _)).env (Vn.out.below hb) Sn.out.1 q1
          have N4 : Hid (∀ W, Below wn.heap.size wn W → Calls Tryz.prog 34 #[.slice va ws.length vc, .int .i64 4] W fun e w' => e = .panicked thrown ∧ Below W.heap.size W w') := fun W hb => number_no _ ws 4 (w.heap.size + 2) r W (HEK.out _ (onward hb Bn.out) _ (Kept.refl _ _)).env (Vn.out.below hb) Sn.out.1 hno
          clear hx
          go_wp2_with fail
          refine UpTo.start (z := 13) (C := (fun W => W.cell? ⟨w.heap.size, 3, none⟩ = some lv)) (by kernel_rfl) ?_ (fun hHeld => ?_)
          · (try dsimp only)
            exact KS.out _ (Below.refl _ _).drew
          refine PlanZ.start (plan := [0, 1, 2, 5, 7]) (fuel := 9) (by decide +kernel) (by assumption) ?_
          refine PlanZ.free (i := 0) (ds := some 37) (v := ?_) rfl rfl rfl ?_ (fun c a w h => put_door _ _ _ (by decide) (by decide) c a w h) ?_
          rotate_left
          · (intro w hSw; (try dsimp only at hSw); go_simp; first | done | with_reducible rfl)
          (try simp only [Act.put, List.setIfInBounds_toArray, List.set_cons_zero, List.set_cons_succ])
          refine PlanZ.free (i := 1) (ds := some 38) (v := ?_) rfl rfl rfl ?_ (fun c a w h => put_door _ _ _ (by decide) (by decide) c a w h) ?_
          rotate_left
          · (intro w hSw; (try dsimp only at hSw); go_simp; first | done | with_reducible rfl)
          (try simp only [Act.put, List.setIfInBounds_toArray, List.set_cons_zero, List.set_cons_succ])
          refine PlanZ.free (i := 2) (ds := some 39) (v := ?_) rfl rfl rfl ?_ (fun c a w h => put_door _ _ _ (by decide) (by decide) c a w h) ?_
          rotate_left
          · (intro w hSw; (try dsimp only at hSw); go_simp; first | done | with_reducible rfl)
          (try simp only [Act.put, List.setIfInBounds_toArray, List.set_cons_zero, List.set_cons_succ])
          refine PlanZ.free (i := 5) (ds := some 42) (v := ?_) rfl rfl rfl ?_ (fun c a w h => put_door _ _ _ (by decide) (by decide) c a w h) ?_
          rotate_left
          · (intro w hSw; (try dsimp only at hSw); go_simp; first | done | with_reducible rfl)
          (try simp only [Act.put, List.setIfInBounds_toArray, List.set_cons_zero, List.set_cons_succ])
          refine PlanZ.free (i := 7) (ds := some 44) (v := ?_) rfl rfl rfl ?_ (fun c a w h => put_door _ _ _ (by decide) (by decide) c a w h) ?_
          rotate_left
          · (intro w hSw; (try dsimp only at hSw); go_simp; first | done | with_reducible rfl)
          (try simp only [Act.put, List.setIfInBounds_toArray, List.set_cons_zero, List.set_cons_succ])
          refine PlanZ.stop (fun hHeld => ?_)
          refine UpTo.ready (rs := [3]) (by decide +kernel) (by simp) ?_
          refine AllZ.cons (o := _) rfl ?_ AllZ.nil
          intro K hK
          rw [if_pos (wanted_none (by rfl))]
          (go_simp; go_at_call 34; refine (N2.out _ (Below.refl _ _).drew).mono ?_; rintro e y3 ⟨rfl, hb⟩; have Y3 := Lib.hid (onward hb (Below.refl _ _).drew); clear hb)
          refine hK.out _ _ ?_ (fun hHeld => ?_)
          · (try dsimp only)
            exact KS.out _ Y3.out
          clear hK K
          (try simp only [Act.put, List.setIfInBounds_toArray, List.set_cons_zero, List.set_cons_succ])
          refine UpTo.ready (rs := [4]) (by decide +kernel) (by simp) ?_
          refine AllZ.cons (o := _) rfl ?_ AllZ.nil
          intro K hK
          rw [if_pos (wanted_none (by rfl))]
          (go_simp; go_at_call 30; refine (small_ok p _ q2).mono ?_; rintro e _ ⟨rfl, rfl⟩)
          refine hK.out _ _ ?_ (fun hHeld => ?_)
          · (try dsimp only)
            exact KS.out _ Y3.out
          clear hK K
          (try simp only [Act.put, List.setIfInBounds_toArray, List.set_cons_zero, List.set_cons_succ])
          refine UpTo.ready (rs := [6]) (by decide +kernel) (by simp) ?_
          refine AllZ.cons (o := _) rfl ?_ AllZ.nil
          intro K hK
          rw [if_pos (wanted_none (by rfl))]
          (go_simp; go_at_call 34; refine (N4.out _ Y3.out).mono ?_; rintro e y9 ⟨rfl, hb⟩; have Y9 := Lib.hid (onward hb Y3.out); clear hb; go_wp2_with fail; exact door_panic w _ _ rfl rfl (stays_block Y9.out P0n.out) (stays_block Y9.out P1n.out) (onward Y9.out Bn.out) _ (fun w' hb => parseI_none HN.out hb))
        · have N2 : Hid (∀ W, Below wn.heap.size wn W → Calls Tryz.prog 34 #[.slice va ws.length vc, .int .i64 2] W fun e w' => e = .returned (.int .i64 p) ∧ Below W.heap.size W w') := fun W hb => number_ok _ ws 2 p (w.heap.size + 2) r W (HEK.out _ (onward hb Bn.out) _ (Kept.refl _ _)).env (Vn.out.below hb) Sn.out.1 q1
          have N4 : Hid (∀ W, Below wn.heap.size wn W → Calls Tryz.prog 34 #[.slice va ws.length vc, .int .i64 4] W fun e w' => e = .returned (.int .i64 d) ∧ Below W.heap.size W w') := fun W hb => number_ok _ ws 4 d (w.heap.size + 2) r W (HEK.out _ (onward hb Bn.out) _ (Kept.refl _ _)).env (Vn.out.below hb) Sn.out.1 q3
          have N6 : Hid (∀ W, Below wn.heap.size wn W → Calls Tryz.prog 34 #[.slice va ws.length vc, .int .i64 6] W fun e w' => e = .panicked thrown ∧ Below W.heap.size W w') := fun W hb => number_no _ ws 6 (w.heap.size + 2) r W (HEK.out _ (onward hb Bn.out) _ (Kept.refl _ _)).env (Vn.out.below hb) Sn.out.1 hno
          clear hx
          go_wp2_with fail
          refine UpTo.start (z := 13) (C := (fun W => W.cell? ⟨w.heap.size, 3, none⟩ = some lv)) (by kernel_rfl) ?_ (fun hHeld => ?_)
          · (try dsimp only)
            exact KS.out _ (Below.refl _ _).drew
          refine PlanZ.start (plan := [0, 1, 2, 5, 7]) (fuel := 9) (by decide +kernel) (by assumption) ?_
          refine PlanZ.free (i := 0) (ds := some 37) (v := ?_) rfl rfl rfl ?_ (fun c a w h => put_door _ _ _ (by decide) (by decide) c a w h) ?_
          rotate_left
          · (intro w hSw; (try dsimp only at hSw); go_simp; first | done | with_reducible rfl)
          (try simp only [Act.put, List.setIfInBounds_toArray, List.set_cons_zero, List.set_cons_succ])
          refine PlanZ.free (i := 1) (ds := some 38) (v := ?_) rfl rfl rfl ?_ (fun c a w h => put_door _ _ _ (by decide) (by decide) c a w h) ?_
          rotate_left
          · (intro w hSw; (try dsimp only at hSw); go_simp; first | done | with_reducible rfl)
          (try simp only [Act.put, List.setIfInBounds_toArray, List.set_cons_zero, List.set_cons_succ])
          refine PlanZ.free (i := 2) (ds := some 39) (v := ?_) rfl rfl rfl ?_ (fun c a w h => put_door _ _ _ (by decide) (by decide) c a w h) ?_
          rotate_left
          · (intro w hSw; (try dsimp only at hSw); go_simp; first | done | with_reducible rfl)
          (try simp only [Act.put, List.setIfInBounds_toArray, List.set_cons_zero, List.set_cons_succ])
          refine PlanZ.free (i := 5) (ds := some 42) (v := ?_) rfl rfl rfl ?_ (fun c a w h => put_door _ _ _ (by decide) (by decide) c a w h) ?_
          rotate_left
          · (intro w hSw; (try dsimp only at hSw); go_simp; first | done | with_reducible rfl)
          (try simp only [Act.put, List.setIfInBounds_toArray, List.set_cons_zero, List.set_cons_succ])
          refine PlanZ.free (i := 7) (ds := some 44) (v := ?_) rfl rfl rfl ?_ (fun c a w h => put_door _ _ _ (by decide) (by decide) c a w h) ?_
          rotate_left
          · (intro w hSw; (try dsimp only at hSw); go_simp; first | done | with_reducible rfl)
          (try simp only [Act.put, List.setIfInBounds_toArray, List.set_cons_zero, List.set_cons_succ])
          refine PlanZ.stop (fun hHeld => ?_)
          refine UpTo.ready (rs := [3]) (by decide +kernel) (by simp) ?_
          refine AllZ.cons (o := _) rfl ?_ AllZ.nil
          intro K hK
          rw [if_pos (wanted_none (by rfl))]
          (go_simp; go_at_call 34; refine (N2.out _ (Below.refl _ _).drew).mono ?_; rintro e y3 ⟨rfl, hb⟩; have Y3 := Lib.hid (onward hb (Below.refl _ _).drew); clear hb)
          refine hK.out _ _ ?_ (fun hHeld => ?_)
          · (try dsimp only)
            exact KS.out _ Y3.out
          clear hK K
          (try simp only [Act.put, List.setIfInBounds_toArray, List.set_cons_zero, List.set_cons_succ])
          refine UpTo.ready (rs := [4]) (by decide +kernel) (by simp) ?_
          refine AllZ.cons (o := _) rfl ?_ AllZ.nil
          intro K hK
          rw [if_pos (wanted_none (by rfl))]
          (go_simp; go_at_call 30; refine (small_ok p _ q2).mono ?_; rintro e _ ⟨rfl, rfl⟩)
          refine hK.out _ _ ?_ (fun hHeld => ?_)
          · (try dsimp only)
            exact KS.out _ Y3.out
          clear hK K
          (try simp only [Act.put, List.setIfInBounds_toArray, List.set_cons_zero, List.set_cons_succ])
          refine UpTo.ready (rs := [6]) (by decide +kernel) (by simp) ?_
          refine AllZ.cons (o := _) rfl ?_ AllZ.nil
          intro K hK
          rw [if_pos (wanted_none (by rfl))]
          (go_simp; go_at_call 34; refine (N4.out _ Y3.out).mono ?_; rintro e y6 ⟨rfl, hb⟩; have Y6 := Lib.hid (onward hb Y3.out); clear hb)
          refine hK.out _ _ ?_ (fun hHeld => ?_)
          · (try dsimp only)
            exact KS.out _ Y6.out
          clear hK K
          (try simp only [Act.put, List.setIfInBounds_toArray, List.set_cons_zero, List.set_cons_succ])
          refine UpTo.ready (rs := [8]) (by decide +kernel) (by simp) ?_
          refine AllZ.cons (o := _) rfl ?_ AllZ.nil
          intro K hK
          rw [if_pos (wanted_none (by rfl))]
          (go_simp; go_at_call 34; refine (N6.out _ Y6.out).mono ?_; rintro e y9 ⟨rfl, hb⟩; have Y9 := Lib.hid (onward hb Y6.out); clear hb; go_wp2_with fail; exact door_panic w _ _ rfl rfl (stays_block Y9.out P0n.out) (stays_block Y9.out P1n.out) (onward Y9.out Bn.out) _ (fun w' hb => parseI_none HN.out hb))
      · obtain ⟨p, d, a, q1, q2, q3, q4, rfl⟩ := base_is hx
        have N2 : Hid (∀ W, Below wn.heap.size wn W → Calls Tryz.prog 34 #[.slice va ws.length vc, .int .i64 2] W fun e w' => e = .returned (.int .i64 p) ∧ Below W.heap.size W w') := fun W hb => number_ok _ ws 2 p (w.heap.size + 2) r W (HEK.out _ (onward hb Bn.out) _ (Kept.refl _ _)).env (Vn.out.below hb) Sn.out.1 q1
        have N4 : Hid (∀ W, Below wn.heap.size wn W → Calls Tryz.prog 34 #[.slice va ws.length vc, .int .i64 4] W fun e w' => e = .returned (.int .i64 d) ∧ Below W.heap.size W w') := fun W hb => number_ok _ ws 4 d (w.heap.size + 2) r W (HEK.out _ (onward hb Bn.out) _ (Kept.refl _ _)).env (Vn.out.below hb) Sn.out.1 q3
        have N6 : Hid (∀ W, Below wn.heap.size wn W → Calls Tryz.prog 34 #[.slice va ws.length vc, .int .i64 6] W fun e w' => e = .returned (.int .i64 a) ∧ Below W.heap.size W w') := fun W hb => number_ok _ ws 6 a (w.heap.size + 2) r W (HEK.out _ (onward hb Bn.out) _ (Kept.refl _ _)).env (Vn.out.below hb) Sn.out.1 q4
        have LS2 : Hid (linesS l3 = (linesS r').map fun y => ((dn ++ [(⟨1, p, d, 0, a⟩ : Ren.Ln)]) ++ y.1, y.2)) := by
          show _ = _
          rw [LS.out, lines_base hb0, hx, Option.bind_some, Option.map_map]
          congr 1
          funext y
          simp
        clear hx
        go_wp2_with fail
        refine UpTo.start (z := 13) (C := (fun W => W.cell? ⟨w.heap.size, 3, none⟩ = some lv)) (by kernel_rfl) ?_ (fun hHeld => ?_)
        · (try dsimp only)
          exact KS.out _ (Below.refl _ _).drew
        refine PlanZ.start (plan := [0, 1, 2, 5, 7]) (fuel := 9) (by decide +kernel) (by assumption) ?_
        refine PlanZ.free (i := 0) (ds := some 37) (v := ?_) rfl rfl rfl ?_ (fun c a w h => put_door _ _ _ (by decide) (by decide) c a w h) ?_
        rotate_left
        · (intro w hSw; (try dsimp only at hSw); go_simp; first | done | with_reducible rfl)
        (try simp only [Act.put, List.setIfInBounds_toArray, List.set_cons_zero, List.set_cons_succ])
        refine PlanZ.free (i := 1) (ds := some 38) (v := ?_) rfl rfl rfl ?_ (fun c a w h => put_door _ _ _ (by decide) (by decide) c a w h) ?_
        rotate_left
        · (intro w hSw; (try dsimp only at hSw); go_simp; first | done | with_reducible rfl)
        (try simp only [Act.put, List.setIfInBounds_toArray, List.set_cons_zero, List.set_cons_succ])
        refine PlanZ.free (i := 2) (ds := some 39) (v := ?_) rfl rfl rfl ?_ (fun c a w h => put_door _ _ _ (by decide) (by decide) c a w h) ?_
        rotate_left
        · (intro w hSw; (try dsimp only at hSw); go_simp; first | done | with_reducible rfl)
        (try simp only [Act.put, List.setIfInBounds_toArray, List.set_cons_zero, List.set_cons_succ])
        refine PlanZ.free (i := 5) (ds := some 42) (v := ?_) rfl rfl rfl ?_ (fun c a w h => put_door _ _ _ (by decide) (by decide) c a w h) ?_
        rotate_left
        · (intro w hSw; (try dsimp only at hSw); go_simp; first | done | with_reducible rfl)
        (try simp only [Act.put, List.setIfInBounds_toArray, List.set_cons_zero, List.set_cons_succ])
        refine PlanZ.free (i := 7) (ds := some 44) (v := ?_) rfl rfl rfl ?_ (fun c a w h => put_door _ _ _ (by decide) (by decide) c a w h) ?_
        rotate_left
        · (intro w hSw; (try dsimp only at hSw); go_simp; first | done | with_reducible rfl)
        (try simp only [Act.put, List.setIfInBounds_toArray, List.set_cons_zero, List.set_cons_succ])
        refine PlanZ.stop (fun hHeld => ?_)
        refine UpTo.ready (rs := [3]) (by decide +kernel) (by simp) ?_
        refine AllZ.cons (o := _) rfl ?_ AllZ.nil
        intro K hK
        rw [if_pos (wanted_none (by rfl))]
        (go_simp; go_at_call 34; refine (N2.out _ (Below.refl _ _).drew).mono ?_; rintro e y3 ⟨rfl, hb⟩; have Y3 := Lib.hid (onward hb (Below.refl _ _).drew); clear hb)
        refine hK.out _ _ ?_ (fun hHeld => ?_)
        · (try dsimp only)
          exact KS.out _ Y3.out
        clear hK K
        (try simp only [Act.put, List.setIfInBounds_toArray, List.set_cons_zero, List.set_cons_succ])
        refine UpTo.ready (rs := [4]) (by decide +kernel) (by simp) ?_
        refine AllZ.cons (o := _) rfl ?_ AllZ.nil
        intro K hK
        rw [if_pos (wanted_none (by rfl))]
        (go_simp; go_at_call 30; refine (small_ok p _ q2).mono ?_; rintro e _ ⟨rfl, rfl⟩)
        refine hK.out _ _ ?_ (fun hHeld => ?_)
        · (try dsimp only)
          exact KS.out _ Y3.out
        clear hK K
        (try simp only [Act.put, List.setIfInBounds_toArray, List.set_cons_zero, List.set_cons_succ])
        refine UpTo.ready (rs := [6]) (by decide +kernel) (by simp) ?_
        refine AllZ.cons (o := _) rfl ?_ AllZ.nil
        intro K hK
        rw [if_pos (wanted_none (by rfl))]
        (go_simp; go_at_call 34; refine (N4.out _ Y3.out).mono ?_; rintro e y6 ⟨rfl, hb⟩; have Y6 := Lib.hid (onward hb Y3.out); clear hb)
        refine hK.out _ _ ?_ (fun hHeld => ?_)
        · (try dsimp only)
          exact KS.out _ Y6.out
        clear hK K
        (try simp only [Act.put, List.setIfInBounds_toArray, List.set_cons_zero, List.set_cons_succ])
        refine UpTo.ready (rs := [8]) (by decide +kernel) (by simp) ?_
        refine AllZ.cons (o := _) rfl ?_ AllZ.nil
        intro K hK
        rw [if_pos (wanted_none (by rfl))]
        (go_simp; go_at_call 34; refine (N6.out _ Y6.out).mono ?_; rintro e y8 ⟨rfl, hb⟩; have Y8 := Lib.hid (onward hb Y6.out); clear hb)
        refine hK.out _ _ ?_ (fun hHeld => ?_)
        · (try dsimp only)
          exact KS.out _ Y8.out
        clear hK K
        (try simp only [Act.put, List.setIfInBounds_toArray, List.set_cons_zero, List.set_cons_succ])
        refine PlanZ.start (plan := [9]) (fuel := 4) (by decide +kernel) (by assumption) ?_
        refine PlanZ.free (i := 9) (ds := some 46) (v := ?_) rfl rfl rfl ?_ (fun c a w h => put_door _ _ _ (by decide) (by decide) c a w h) ?_
        rotate_left
        · (intro w hSw; (try dsimp only at hSw); go_simp; first | done | with_reducible rfl)
        (try simp only [Act.put, List.setIfInBounds_toArray, List.set_cons_zero, List.set_cons_succ])
        refine PlanZ.stop (fun hHeld => ?_)
        refine UpTo.ready (rs := [10]) (by decide +kernel) (by simp) ?_
        refine AllZ.cons (o := _) rfl ?_ AllZ.nil
        intro K hK
        rw [if_pos (wanted_none (by rfl))]
        (go_simp)
        refine hK.out _ _ ?_ (fun hHeld => ?_)
        · (try dsimp only)
          exact KS.out _ (onward (below_alloc _ _) Y8.out)
        clear hK K
        (try simp only [Act.put, List.setIfInBounds_toArray, List.set_cons_zero, List.set_cons_succ])
        refine UpTo.ready (rs := [11]) (by decide +kernel) (by simp) ?_
        refine AllZ.cons (o := _) rfl ?_ AllZ.nil
        intro K hK
        rw [if_pos (wanted_none (by rfl))]
        (refine wp_append_own _ _ _ 23 (by rfl) (r + 1) 39 i0 _ 5 32 Tryz.underlying23 hi hz0 hz1 hz2 rfl (by decide) lv dn.length ((dn.map Ren.Ln.cells).flatten) (by rfl) (OWn.out.kept (Kept.of_below (onward (below_alloc _ _) Y8.out) (fun _ => False)) (fun _ _ h => h)) ⟨y8.heap.size, 0, none⟩ 1 1 [.int .u8 1, .int .u32 p, .int .i64 d, .int .i64 0, .int .i64 a] (by rfl) rfl (new_cells _ _ _) (oneLn (⟨1, p, d, 0, a⟩ : Ren.Ln)) (by unfold maxLen; omega) (by omega) (by have h1 := Rn.out.lt; have h2 := (onward (below_alloc _ (.cells #[] 0)) Y8.out).size; have h3 := (Y8.out).size; first | omega | (simp; omega)) ?_; intro v' wb hown hgrow _; obtain ⟨a', c', hv'⟩ := rown_form hown; subst hv'; have KG := kept_grown hgrow; have hnp : ∀ k, k ≤ r → ¬ lv.ownBlock = some k := fun k hk e => (by have := (own_typed OWn.out e).1; omega); have Zb := Lib.hid (onward (below_alloc y8 (.cells [.int .u8 1, .int .u32 p, .int .i64 d, .int .i64 0, .int .i64 a].toArray 39)) Y8.out); have P0b := Lib.hid ((KG.block _ (lt_of_block (stays_block Zb.out P0n.out)) (hnp _ hrw)).trans (stays_block Zb.out P0n.out)); have P1b := Lib.hid ((KG.block _ (lt_of_block (stays_block Zb.out P1n.out)) (hnp _ (by omega))).trans (stays_block Zb.out P1n.out)); have Bb := Lib.hid ((onward Zb.out Bn.out).trans (KG.below (onward Zb.out Bn.out).size (fun k hk => by have := (own_typed OWn.out hk).1; omega))); have Rb := Lib.hid ((Rn.out.below Zb.out).step KG (fun k h1 h2 => hnp k h2)); have Ob := Lib.hid (OwnL.snoc (l := (⟨1, p, d, 0, a⟩ : Ren.Ln)) hown); have hfb : wb.frozen? ⟨w.heap.size, 3, none⟩ = false := free_of_row P0b.out)
        refine hK.out _ _ ?_ (fun hHeld => ?_)
        · (try dsimp only)
          exact (cells6 P0b.out).2.2.2.2.1
        clear hK K
        (try simp only [Act.put, List.setIfInBounds_toArray, List.set_cons_zero, List.set_cons_succ])
        refine PlanZ.start (plan := [12]) (fuel := 1) (by decide +kernel) (by assumption) ?_
        refine PlanZ.free (i := 12) (ds := some 49) (v := ?_) rfl rfl rfl ?_ (fun c a w h => put_door _ _ _ (by decide) (by decide) c a w h) ?_
        rotate_left
        · (intro w hSw; (try dsimp only at hSw); go_simp; first | done | with_reducible rfl)
        (try simp only [Act.put, List.setIfInBounds_toArray, List.set_cons_zero, List.set_cons_succ])
        refine PlanZ.stop (fun hHeld => ?_)
        refine UpTo.ready (rs := [13]) (by decide +kernel) (by simp) ?_
        refine AllZ.last (o := _) rfl ?_
        intro K hK
        rw [if_pos (wanted_none (by rfl))]
        (go_simp)
        refine hK.out _ _ ?_
        clear hK K
        (try simp only [Act.put, List.setIfInBounds_toArray, List.set_cons_zero, List.set_cons_succ])
        refine UpTo.done (by decide +kernel) ?_ _
        have hk : Kept (· = w.heap.size) wb (wb.setCell ⟨w.heap.size, 3, none⟩ (.slice a' (dn.length + 1) c')) := (Kept.refl (fun k => k = w.heap.size) wb).set ⟨w.heap.size, 3, none⟩ (.slice a' (dn.length + 1) c') rfl
        have P0c : Hid ((wb.setCell ⟨w.heap.size, 3, none⟩ (.slice a' (dn.length + 1) c')).heap[w.heap.size]? = some (.cells #[.int .u32 a1, .int .u32 b1, .int .i64 mo, (.slice a' (dn.length + 1) c'), .int .i64 0, .int .i64 0] 25 (0, 0))) := set_block P0b.out
        have P1c := Lib.hid ((hk.block _ (lt_of_block P1b.out) (by omega)).trans P1b.out)
        have Bc := Lib.hid (door_w Bb.out (Nat.le_refl _) hk)
        have Rc := Lib.hid (Rb.out.step hk (fun k h1 h2 => by omega))
        have Oc := Lib.hid (Ob.out.kept hk (fun k h1 h2 => by omega))
        have hleft : leftAt (wb.setCell ⟨w.heap.size, 3, none⟩ (.slice a' (dn.length + 1) c')) r < leftAt wr r := by
          rw [Rc.out.left, Rr.out.left, next_len hb0]
          omega
        have hl2 : (dn ++ [(⟨1, p, d, 0, a⟩ : Ren.Ln)]).length + r'.length ≤ 1000002 := by
          have := next_len hb0
          rw [List.length_append]
          simp
          omega
        clear hk hown hgrow KG hnp
        go_wp2_with fail
        go_roundw
        case rel => exact ⟨r', _, (.slice a' (dn.length + 1) c'), Rc, Sn2, P0c, P1c, Oc, LS2, hl2, Bc⟩
        case measure => exact hleft
    go_wp2_with fail
    refine (next_no wBase _ (w.heap.size + 2) r _ Rr.out (by decide) hb0).mono ?_
    rintro e _ ⟨rfl, rfl⟩
    rcases next_cases wPack rem with hb1 | ⟨ws, r', hb1⟩
    rotate_left
    · go_wp2_with fail
      refine (next_yes wPack _ ws r' (w.heap.size + 2) r _ (HEK.out _ Br.out _ (Kept.refl _ _)) Rr.out Sr.out (by decide) hb1).mono ?_
      rintro e wn ⟨v, rfl, hv, hr, hk⟩
      have Bn := Lib.hid (door_w Br.out hrw hk)
      have P0n := Lib.hid ((hk.block _ (lt_of_block P0r.out) (by omega)).trans P0r.out)
      have P1n := Lib.hid ((hk.block _ (lt_of_block P1r.out) (by omega)).trans P1r.out)
      have Rn := Lib.hid hr
      have Sn := Lib.hid (next_small hb1 Sr.out)
      have Vn := Lib.hid hv
      have OWn := Lib.hid (OWr.out.kept hk (fun k h1 h2 => by omega))
      obtain ⟨va, vc, rfl, -, -⟩ := hv
      clear hr hk
      have KS : Hid (∀ W, Below wn.heap.size wn W → W.cell? ⟨w.heap.size, 3, none⟩ = some lv) := fun W hb => (cells6 (stays_block hb P0n.out)).2.2.2.2.1
      have Sn2 := Lib.hid Sn.out.2
      rcases hx : packS ws with _ | x
      · have HN : Hid (parseR s = none) := parseR_none (by
          have hl : linesS l3 = none := by rw [LS.out, lines_pack hb0 hb1, hx]; rfl
          simp only [parseS, h1, hs1, h2, hs2, h3, hl, Option.bind_some, Option.bind_none])
        have hno := pack_no hx
        have N2 : Hid (∀ W, Below wn.heap.size wn W → Calls Tryz.prog 34 #[.slice va ws.length vc, .int .i64 2] W fun e w' => e = .panicked thrown ∧ Below W.heap.size W w') := fun W hb => number_no _ ws 2 (w.heap.size + 2) r W (HEK.out _ (onward hb Bn.out) _ (Kept.refl _ _)).env (Vn.out.below hb) Sn.out.1 hno
        clear hx hno
        go_wp2_with fail
        refine UpTo.start (z := 8) (C := (fun W => W.cell? ⟨w.heap.size, 3, none⟩ = some lv)) (by kernel_rfl) ?_ (fun hHeld => ?_)
        · (try dsimp only)
          exact KS.out _ (Below.refl _ _).drew
        refine PlanZ.start (plan := [0, 1, 2]) (fuel := 6) (by decide +kernel) (by assumption) ?_
        refine PlanZ.free (i := 0) (ds := some 56) (v := ?_) rfl rfl rfl ?_ (fun c a w h => put_door _ _ _ (by decide) (by decide) c a w h) ?_
        rotate_left
        · (intro w hSw; (try dsimp only at hSw); go_simp; first | done | with_reducible rfl)
        (try simp only [Act.put, List.setIfInBounds_toArray, List.set_cons_zero, List.set_cons_succ])
        refine PlanZ.free (i := 1) (ds := some 57) (v := ?_) rfl rfl rfl ?_ (fun c a w h => put_door _ _ _ (by decide) (by decide) c a w h) ?_
        rotate_left
        · (intro w hSw; (try dsimp only at hSw); go_simp; first | done | with_reducible rfl)
        (try simp only [Act.put, List.setIfInBounds_toArray, List.set_cons_zero, List.set_cons_succ])
        refine PlanZ.free (i := 2) (ds := some 58) (v := ?_) rfl rfl rfl ?_ (fun c a w h => put_door _ _ _ (by decide) (by decide) c a w h) ?_
        rotate_left
        · (intro w hSw; (try dsimp only at hSw); go_simp; first | done | with_reducible rfl)
        (try simp only [Act.put, List.setIfInBounds_toArray, List.set_cons_zero, List.set_cons_succ])
        refine PlanZ.stop (fun hHeld => ?_)
        refine UpTo.ready (rs := [3]) (by decide +kernel) (by simp) ?_
        refine AllZ.cons (o := _) rfl ?_ AllZ.nil
        intro K hK
        rw [if_pos (wanted_none (by rfl))]
        (go_simp; go_at_call 34; refine (N2.out _ (Below.refl _ _).drew).mono ?_; rintro e y9 ⟨rfl, hb⟩; have Y9 := Lib.hid (onward hb (Below.refl _ _).drew); clear hb; go_wp2_with fail; exact door_panic w _ _ rfl rfl (stays_block Y9.out P0n.out) (stays_block Y9.out P1n.out) (onward Y9.out Bn.out) _ (fun w' hb => parseI_none HN.out hb))
      · obtain ⟨u, q1, rfl⟩ := pack_is hx
        have N2 : Hid (∀ W, Below wn.heap.size wn W → Calls Tryz.prog 34 #[.slice va ws.length vc, .int .i64 2] W fun e w' => e = .returned (.int .i64 u) ∧ Below W.heap.size W w') := fun W hb => number_ok _ ws 2 u (w.heap.size + 2) r W (HEK.out _ (onward hb Bn.out) _ (Kept.refl _ _)).env (Vn.out.below hb) Sn.out.1 q1
        have LS2 : Hid (linesS l3 = (linesS r').map fun y => ((dn ++ [(⟨2, 0, 0, u, 0⟩ : Ren.Ln)]) ++ y.1, y.2)) := by
          show _ = _
          rw [LS.out, lines_pack hb0 hb1, hx, Option.bind_some, Option.map_map]
          congr 1
          funext y
          simp
        clear hx
        go_wp2_with fail
        refine UpTo.start (z := 8) (C := (fun W => W.cell? ⟨w.heap.size, 3, none⟩ = some lv)) (by kernel_rfl) ?_ (fun hHeld => ?_)
        · (try dsimp only)
          exact KS.out _ (Below.refl _ _).drew
        refine PlanZ.start (plan := [0, 1, 2]) (fuel := 6) (by decide +kernel) (by assumption) ?_
        refine PlanZ.free (i := 0) (ds := some 56) (v := ?_) rfl rfl rfl ?_ (fun c a w h => put_door _ _ _ (by decide) (by decide) c a w h) ?_
        rotate_left
        · (intro w hSw; (try dsimp only at hSw); go_simp; first | done | with_reducible rfl)
        (try simp only [Act.put, List.setIfInBounds_toArray, List.set_cons_zero, List.set_cons_succ])
        refine PlanZ.free (i := 1) (ds := some 57) (v := ?_) rfl rfl rfl ?_ (fun c a w h => put_door _ _ _ (by decide) (by decide) c a w h) ?_
        rotate_left
        · (intro w hSw; (try dsimp only at hSw); go_simp; first | done | with_reducible rfl)
        (try simp only [Act.put, List.setIfInBounds_toArray, List.set_cons_zero, List.set_cons_succ])
        refine PlanZ.free (i := 2) (ds := some 58) (v := ?_) rfl rfl rfl ?_ (fun c a w h => put_door _ _ _ (by decide) (by decide) c a w h) ?_
        rotate_left
        · (intro w hSw; (try dsimp only at hSw); go_simp; first | done | with_reducible rfl)
        (try simp only [Act.put, List.setIfInBounds_toArray, List.set_cons_zero, List.set_cons_succ])
        refine PlanZ.stop (fun hHeld => ?_)
        refine UpTo.ready (rs := [3]) (by decide +kernel) (by simp) ?_
        refine AllZ.cons (o := _) rfl ?_ AllZ.nil
        intro K hK
        rw [if_pos (wanted_none (by rfl))]
        (go_simp; go_at_call 34; refine (N2.out _ (Below.refl _ _).drew).mono ?_; rintro e y3 ⟨rfl, hb⟩; have Y3 := Lib.hid (onward hb (Below.refl _ _).drew); clear hb)
        refine hK.out _ _ ?_ (fun hHeld => ?_)
        · (try dsimp only)
          exact KS.out _ Y3.out
        clear hK K
        (try simp only [Act.put, List.setIfInBounds_toArray, List.set_cons_zero, List.set_cons_succ])
        refine PlanZ.start (plan := [4]) (fuel := 4) (by decide +kernel) (by assumption) ?_
        refine PlanZ.free (i := 4) (ds := some 60) (v := ?_) rfl rfl rfl ?_ (fun c a w h => put_door _ _ _ (by decide) (by decide) c a w h) ?_
        rotate_left
        · (intro w hSw; (try dsimp only at hSw); go_simp; first | done | with_reducible rfl)
        (try simp only [Act.put, List.setIfInBounds_toArray, List.set_cons_zero, List.set_cons_succ])
        refine PlanZ.stop (fun hHeld => ?_)
        refine UpTo.ready (rs := [5]) (by decide +kernel) (by simp) ?_
        refine AllZ.cons (o := _) rfl ?_ AllZ.nil
        intro K hK
        rw [if_pos (wanted_none (by rfl))]
        (go_simp)
        refine hK.out _ _ ?_ (fun hHeld => ?_)
        · (try dsimp only)
          exact KS.out _ (onward (below_alloc _ _) Y3.out)
        clear hK K
        (try simp only [Act.put, List.setIfInBounds_toArray, List.set_cons_zero, List.set_cons_succ])
        refine UpTo.ready (rs := [6]) (by decide +kernel) (by simp) ?_
        refine AllZ.cons (o := _) rfl ?_ AllZ.nil
        intro K hK
        rw [if_pos (wanted_none (by rfl))]
        (refine wp_append_own _ _ _ 23 (by rfl) (r + 1) 39 i0 _ 5 32 Tryz.underlying23 hi hz0 hz1 hz2 rfl (by decide) lv dn.length ((dn.map Ren.Ln.cells).flatten) (by rfl) (OWn.out.kept (Kept.of_below (onward (below_alloc _ _) Y3.out) (fun _ => False)) (fun _ _ h => h)) ⟨y3.heap.size, 0, none⟩ 1 1 [.int .u8 2, .int .u32 0, .int .i64 0, .int .i64 u, .int .i64 0] (by rfl) rfl (new_cells _ _ _) (oneLn (⟨2, 0, 0, u, 0⟩ : Ren.Ln)) (by unfold maxLen; omega) (by omega) (by have h1 := Rn.out.lt; have h2 := (onward (below_alloc _ (.cells #[] 0)) Y3.out).size; have h3 := (Y3.out).size; first | omega | (simp; omega)) ?_; intro v' wb hown hgrow _; obtain ⟨a', c', hv'⟩ := rown_form hown; subst hv'; have KG := kept_grown hgrow; have hnp : ∀ k, k ≤ r → ¬ lv.ownBlock = some k := fun k hk e => (by have := (own_typed OWn.out e).1; omega); have Zb := Lib.hid (onward (below_alloc y3 (.cells [.int .u8 2, .int .u32 0, .int .i64 0, .int .i64 u, .int .i64 0].toArray 39)) Y3.out); have P0b := Lib.hid ((KG.block _ (lt_of_block (stays_block Zb.out P0n.out)) (hnp _ hrw)).trans (stays_block Zb.out P0n.out)); have P1b := Lib.hid ((KG.block _ (lt_of_block (stays_block Zb.out P1n.out)) (hnp _ (by omega))).trans (stays_block Zb.out P1n.out)); have Bb := Lib.hid ((onward Zb.out Bn.out).trans (KG.below (onward Zb.out Bn.out).size (fun k hk => by have := (own_typed OWn.out hk).1; omega))); have Rb := Lib.hid ((Rn.out.below Zb.out).step KG (fun k h1 h2 => hnp k h2)); have Ob := Lib.hid (OwnL.snoc (l := (⟨2, 0, 0, u, 0⟩ : Ren.Ln)) hown); have hfb : wb.frozen? ⟨w.heap.size, 3, none⟩ = false := free_of_row P0b.out)
        refine hK.out _ _ ?_ (fun hHeld => ?_)
        · (try dsimp only)
          exact (cells6 P0b.out).2.2.2.2.1
        clear hK K
        (try simp only [Act.put, List.setIfInBounds_toArray, List.set_cons_zero, List.set_cons_succ])
        refine PlanZ.start (plan := [7]) (fuel := 1) (by decide +kernel) (by assumption) ?_
        refine PlanZ.free (i := 7) (ds := some 63) (v := ?_) rfl rfl rfl ?_ (fun c a w h => put_door _ _ _ (by decide) (by decide) c a w h) ?_
        rotate_left
        · (intro w hSw; (try dsimp only at hSw); go_simp; first | done | with_reducible rfl)
        (try simp only [Act.put, List.setIfInBounds_toArray, List.set_cons_zero, List.set_cons_succ])
        refine PlanZ.stop (fun hHeld => ?_)
        refine UpTo.ready (rs := [8]) (by decide +kernel) (by simp) ?_
        refine AllZ.last (o := _) rfl ?_
        intro K hK
        rw [if_pos (wanted_none (by rfl))]
        (go_simp)
        refine hK.out _ _ ?_
        clear hK K
        (try simp only [Act.put, List.setIfInBounds_toArray, List.set_cons_zero, List.set_cons_succ])
        refine UpTo.done (by decide +kernel) ?_ _
        have hk : Kept (· = w.heap.size) wb (wb.setCell ⟨w.heap.size, 3, none⟩ (.slice a' (dn.length + 1) c')) := (Kept.refl (fun k => k = w.heap.size) wb).set ⟨w.heap.size, 3, none⟩ (.slice a' (dn.length + 1) c') rfl
        have P0c : Hid ((wb.setCell ⟨w.heap.size, 3, none⟩ (.slice a' (dn.length + 1) c')).heap[w.heap.size]? = some (.cells #[.int .u32 a1, .int .u32 b1, .int .i64 mo, (.slice a' (dn.length + 1) c'), .int .i64 0, .int .i64 0] 25 (0, 0))) := set_block P0b.out
        have P1c := Lib.hid ((hk.block _ (lt_of_block P1b.out) (by omega)).trans P1b.out)
        have Bc := Lib.hid (door_w Bb.out (Nat.le_refl _) hk)
        have Rc := Lib.hid (Rb.out.step hk (fun k h1 h2 => by omega))
        have Oc := Lib.hid (Ob.out.kept hk (fun k h1 h2 => by omega))
        have hleft : leftAt (wb.setCell ⟨w.heap.size, 3, none⟩ (.slice a' (dn.length + 1) c')) r < leftAt wr r := by
          rw [Rc.out.left, Rr.out.left, next_len hb1]
          omega
        have hl2 : (dn ++ [(⟨2, 0, 0, u, 0⟩ : Ren.Ln)]).length + r'.length ≤ 1000002 := by
          have := next_len hb1
          rw [List.length_append]
          simp
          omega
        clear hk hown hgrow KG hnp
        go_wp2_with fail
        go_roundw
        case rel => exact ⟨r', _, (.slice a' (dn.length + 1) c'), Rc, Sn2, P0c, P1c, Oc, LS2, hl2, Bc⟩
        case measure => exact hleft
    go_wp2_with fail
    refine (next_no wPack _ (w.heap.size + 2) r _ Rr.out (by decide) hb1).mono ?_
    rintro e _ ⟨rfl, rfl⟩
    rcases next_cases wOver rem with hb2 | ⟨ws, r', hb2⟩
    rotate_left
    · go_wp2_with fail
      refine (next_yes wOver _ ws r' (w.heap.size + 2) r _ (HEK.out _ Br.out _ (Kept.refl _ _)) Rr.out Sr.out (by decide) hb2).mono ?_
      rintro e wn ⟨v, rfl, hv, hr, hk⟩
      have Bn := Lib.hid (door_w Br.out hrw hk)
      have P0n := Lib.hid ((hk.block _ (lt_of_block P0r.out) (by omega)).trans P0r.out)
      have P1n := Lib.hid ((hk.block _ (lt_of_block P1r.out) (by omega)).trans P1r.out)
      have Rn := Lib.hid hr
      have Sn := Lib.hid (next_small hb2 Sr.out)
      have Vn := Lib.hid hv
      have OWn := Lib.hid (OWr.out.kept hk (fun k h1 h2 => by omega))
      obtain ⟨va, vc, rfl, -, -⟩ := hv
      clear hr hk
      have KS : Hid (∀ W, Below wn.heap.size wn W → W.cell? ⟨w.heap.size, 3, none⟩ = some lv) := fun W hb => (cells6 (stays_block hb P0n.out)).2.2.2.2.1
      have Sn2 := Lib.hid Sn.out.2
      rcases hx : overS ws with _ | x
      · have HN : Hid (parseR s = none) := parseR_none (by
          have hl : linesS l3 = none := by rw [LS.out, lines_over hb0 hb1 hb2, hx]; rfl
          simp only [parseS, h1, hs1, h2, hs2, h3, hl, Option.bind_some, Option.bind_none])
        rcases over_no hx with hno | ⟨p, q1, hno | ⟨q2, hno | ⟨d, q3, hno⟩⟩⟩
        · have N2 : Hid (∀ W, Below wn.heap.size wn W → Calls Tryz.prog 34 #[.slice va ws.length vc, .int .i64 2] W fun e w' => e = .panicked thrown ∧ Below W.heap.size W w') := fun W hb => number_no _ ws 2 (w.heap.size + 2) r W (HEK.out _ (onward hb Bn.out) _ (Kept.refl _ _)).env (Vn.out.below hb) Sn.out.1 hno
          clear hx hno
          go_wp2_with fail
          refine UpTo.start (z := 13) (C := (fun W => W.cell? ⟨w.heap.size, 3, none⟩ = some lv)) (by kernel_rfl) ?_ (fun hHeld => ?_)
          · (try dsimp only)
            exact KS.out _ (Below.refl _ _).drew
          refine PlanZ.start (plan := [0, 1, 2, 5, 7]) (fuel := 9) (by decide +kernel) (by assumption) ?_
          refine PlanZ.free (i := 0) (ds := some 70) (v := ?_) rfl rfl rfl ?_ (fun c a w h => put_door _ _ _ (by decide) (by decide) c a w h) ?_
          rotate_left
          · (intro w hSw; (try dsimp only at hSw); go_simp; first | done | with_reducible rfl)
          (try simp only [Act.put, List.setIfInBounds_toArray, List.set_cons_zero, List.set_cons_succ])
          refine PlanZ.free (i := 1) (ds := some 71) (v := ?_) rfl rfl rfl ?_ (fun c a w h => put_door _ _ _ (by decide) (by decide) c a w h) ?_
          rotate_left
          · (intro w hSw; (try dsimp only at hSw); go_simp; first | done | with_reducible rfl)
          (try simp only [Act.put, List.setIfInBounds_toArray, List.set_cons_zero, List.set_cons_succ])
          refine PlanZ.free (i := 2) (ds := some 72) (v := ?_) rfl rfl rfl ?_ (fun c a w h => put_door _ _ _ (by decide) (by decide) c a w h) ?_
          rotate_left
          · (intro w hSw; (try dsimp only at hSw); go_simp; first | done | with_reducible rfl)
          (try simp only [Act.put, List.setIfInBounds_toArray, List.set_cons_zero, List.set_cons_succ])
          refine PlanZ.free (i := 5) (ds := some 75) (v := ?_) rfl rfl rfl ?_ (fun c a w h => put_door _ _ _ (by decide) (by decide) c a w h) ?_
          rotate_left
          · (intro w hSw; (try dsimp only at hSw); go_simp; first | done | with_reducible rfl)
          (try simp only [Act.put, List.setIfInBounds_toArray, List.set_cons_zero, List.set_cons_succ])
          refine PlanZ.free (i := 7) (ds := some 77) (v := ?_) rfl rfl rfl ?_ (fun c a w h => put_door _ _ _ (by decide) (by decide) c a w h) ?_
          rotate_left
          · (intro w hSw; (try dsimp only at hSw); go_simp; first | done | with_reducible rfl)
          (try simp only [Act.put, List.setIfInBounds_toArray, List.set_cons_zero, List.set_cons_succ])
          refine PlanZ.stop (fun hHeld => ?_)
          refine UpTo.ready (rs := [3]) (by decide +kernel) (by simp) ?_
          refine AllZ.cons (o := _) rfl ?_ AllZ.nil
          intro K hK
          rw [if_pos (wanted_none (by rfl))]
          (go_simp; go_at_call 34; refine (N2.out _ (Below.refl _ _).drew).mono ?_; rintro e y9 ⟨rfl, hb⟩; have Y9 := Lib.hid (onward hb (Below.refl _ _).drew); clear hb; go_wp2_with fail; exact door_panic w _ _ rfl rfl (stays_block Y9.out P0n.out) (stays_block Y9.out P1n.out) (onward Y9.out Bn.out) _ (fun w' hb => parseI_none HN.out hb))
        · have N2 : Hid (∀ W, Below wn.heap.size wn W → Calls Tryz.prog 34 #[.slice va ws.length vc, .int .i64 2] W fun e w' => e = .returned (.int .i64 p) ∧ Below W.heap.size W w') := fun W hb => number_ok _ ws 2 p (w.heap.size + 2) r W (HEK.out _ (onward hb Bn.out) _ (Kept.refl _ _)).env (Vn.out.below hb) Sn.out.1 q1
          clear hx
          go_wp2_with fail
          refine UpTo.start (z := 13) (C := (fun W => W.cell? ⟨w.heap.size, 3, none⟩ = some lv)) (by kernel_rfl) ?_ (fun hHeld => ?_)
          · (try dsimp only)
            exact KS.out _ (Below.refl _ _).drew
          refine PlanZ.start (plan := [0, 1, 2, 5, 7]) (fuel := 9) (by decide +kernel) (by assumption) ?_
          refine PlanZ.free (i := 0) (ds := some 70) (v := ?_) rfl rfl rfl ?_ (fun c a w h => put_door _ _ _ (by decide) (by decide) c a w h) ?_
          rotate_left
          · (intro w hSw; (try dsimp only at hSw); go_simp; first | done | with_reducible rfl)
          (try simp only [Act.put, List.setIfInBounds_toArray, List.set_cons_zero, List.set_cons_succ])
          refine PlanZ.free (i := 1) (ds := some 71) (v := ?_) rfl rfl rfl ?_ (fun c a w h => put_door _ _ _ (by decide) (by decide) c a w h) ?_
          rotate_left
          · (intro w hSw; (try dsimp only at hSw); go_simp; first | done | with_reducible rfl)
          (try simp only [Act.put, List.setIfInBounds_toArray, List.set_cons_zero, List.set_cons_succ])
          refine PlanZ.free (i := 2) (ds := some 72) (v := ?_) rfl rfl rfl ?_ (fun c a w h => put_door _ _ _ (by decide) (by decide) c a w h) ?_
          rotate_left
          · (intro w hSw; (try dsimp only at hSw); go_simp; first | done | with_reducible rfl)
          (try simp only [Act.put, List.setIfInBounds_toArray, List.set_cons_zero, List.set_cons_succ])
          refine PlanZ.free (i := 5) (ds := some 75) (v := ?_) rfl rfl rfl ?_ (fun c a w h => put_door _ _ _ (by decide) (by decide) c a w h) ?_
          rotate_left
          · (intro w hSw; (try dsimp only at hSw); go_simp; first | done | with_reducible rfl)
          (try simp only [Act.put, List.setIfInBounds_toArray, List.set_cons_zero, List.set_cons_succ])
          refine PlanZ.free (i := 7) (ds := some 77) (v := ?_) rfl rfl rfl ?_ (fun c a w h => put_door _ _ _ (by decide) (by decide) c a w h) ?_
          rotate_left
          · (intro w hSw; (try dsimp only at hSw); go_simp; first | done | with_reducible rfl)
          (try simp only [Act.put, List.setIfInBounds_toArray, List.set_cons_zero, List.set_cons_succ])
          refine PlanZ.stop (fun hHeld => ?_)
          refine UpTo.ready (rs := [3]) (by decide +kernel) (by simp) ?_
          refine AllZ.cons (o := _) rfl ?_ AllZ.nil
          intro K hK
          rw [if_pos (wanted_none (by rfl))]
          (go_simp; go_at_call 34; refine (N2.out _ (Below.refl _ _).drew).mono ?_; rintro e y3 ⟨rfl, hb⟩; have Y3 := Lib.hid (onward hb (Below.refl _ _).drew); clear hb)
          refine hK.out _ _ ?_ (fun hHeld => ?_)
          · (try dsimp only)
            exact KS.out _ Y3.out
          clear hK K
          (try simp only [Act.put, List.setIfInBounds_toArray, List.set_cons_zero, List.set_cons_succ])
          refine UpTo.ready (rs := [4]) (by decide +kernel) (by simp) ?_
          refine AllZ.cons (o := _) rfl ?_ AllZ.nil
          intro K hK
          rw [if_pos (wanted_none (by rfl))]
          (go_simp; go_at_call 30; refine (small_no p _ hno).mono ?_; rintro e _ ⟨rfl, rfl⟩; go_wp2_with fail; exact door_panic w _ _ rfl rfl (stays_block Y3.out P0n.out) (stays_block Y3.out P1n.out) (onward Y3.out Bn.out) _ (fun w' hb => parseI_none HN.out hb))
        · have N2 : Hid (∀ W, Below wn.heap.size wn W → Calls Tryz.prog 34 #[.slice va ws.length vc, .int .i64 2] W fun e w' => e = .returned (.int .i64 p) ∧ Below W.heap.size W w') := fun W hb => number_ok _ ws 2 p (w.heap.size + 2) r W (HEK.out _ (onward hb Bn.out) _ (Kept.refl _ _)).env (Vn.out.below hb) Sn.out.1 q1
          have N4 : Hid (∀ W, Below wn.heap.size wn W → Calls Tryz.prog 34 #[.slice va ws.length vc, .int .i64 4] W fun e w' => e = .panicked thrown ∧ Below W.heap.size W w') := fun W hb => number_no _ ws 4 (w.heap.size + 2) r W (HEK.out _ (onward hb Bn.out) _ (Kept.refl _ _)).env (Vn.out.below hb) Sn.out.1 hno
          clear hx
          go_wp2_with fail
          refine UpTo.start (z := 13) (C := (fun W => W.cell? ⟨w.heap.size, 3, none⟩ = some lv)) (by kernel_rfl) ?_ (fun hHeld => ?_)
          · (try dsimp only)
            exact KS.out _ (Below.refl _ _).drew
          refine PlanZ.start (plan := [0, 1, 2, 5, 7]) (fuel := 9) (by decide +kernel) (by assumption) ?_
          refine PlanZ.free (i := 0) (ds := some 70) (v := ?_) rfl rfl rfl ?_ (fun c a w h => put_door _ _ _ (by decide) (by decide) c a w h) ?_
          rotate_left
          · (intro w hSw; (try dsimp only at hSw); go_simp; first | done | with_reducible rfl)
          (try simp only [Act.put, List.setIfInBounds_toArray, List.set_cons_zero, List.set_cons_succ])
          refine PlanZ.free (i := 1) (ds := some 71) (v := ?_) rfl rfl rfl ?_ (fun c a w h => put_door _ _ _ (by decide) (by decide) c a w h) ?_
          rotate_left
          · (intro w hSw; (try dsimp only at hSw); go_simp; first | done | with_reducible rfl)
          (try simp only [Act.put, List.setIfInBounds_toArray, List.set_cons_zero, List.set_cons_succ])
          refine PlanZ.free (i := 2) (ds := some 72) (v := ?_) rfl rfl rfl ?_ (fun c a w h => put_door _ _ _ (by decide) (by decide) c a w h) ?_
          rotate_left
          · (intro w hSw; (try dsimp only at hSw); go_simp; first | done | with_reducible rfl)
          (try simp only [Act.put, List.setIfInBounds_toArray, List.set_cons_zero, List.set_cons_succ])
          refine PlanZ.free (i := 5) (ds := some 75) (v := ?_) rfl rfl rfl ?_ (fun c a w h => put_door _ _ _ (by decide) (by decide) c a w h) ?_
          rotate_left
          · (intro w hSw; (try dsimp only at hSw); go_simp; first | done | with_reducible rfl)
          (try simp only [Act.put, List.setIfInBounds_toArray, List.set_cons_zero, List.set_cons_succ])
          refine PlanZ.free (i := 7) (ds := some 77) (v := ?_) rfl rfl rfl ?_ (fun c a w h => put_door _ _ _ (by decide) (by decide) c a w h) ?_
          rotate_left
          · (intro w hSw; (try dsimp only at hSw); go_simp; first | done | with_reducible rfl)
          (try simp only [Act.put, List.setIfInBounds_toArray, List.set_cons_zero, List.set_cons_succ])
          refine PlanZ.stop (fun hHeld => ?_)
          refine UpTo.ready (rs := [3]) (by decide +kernel) (by simp) ?_
          refine AllZ.cons (o := _) rfl ?_ AllZ.nil
          intro K hK
          rw [if_pos (wanted_none (by rfl))]
          (go_simp; go_at_call 34; refine (N2.out _ (Below.refl _ _).drew).mono ?_; rintro e y3 ⟨rfl, hb⟩; have Y3 := Lib.hid (onward hb (Below.refl _ _).drew); clear hb)
          refine hK.out _ _ ?_ (fun hHeld => ?_)
          · (try dsimp only)
            exact KS.out _ Y3.out
          clear hK K
          (try simp only [Act.put, List.setIfInBounds_toArray, List.set_cons_zero, List.set_cons_succ])
          refine UpTo.ready (rs := [4]) (by decide +kernel) (by simp) ?_
          refine AllZ.cons (o := _) rfl ?_ AllZ.nil
          intro K hK
          rw [if_pos (wanted_none (by rfl))]
          (go_simp; go_at_call 30; refine (small_ok p _ q2).mono ?_; rintro e _ ⟨rfl, rfl⟩)
          refine hK.out _ _ ?_ (fun hHeld => ?_)
          · (try dsimp only)
            exact KS.out _ Y3.out
          clear hK K
          (try simp only [Act.put, List.setIfInBounds_toArray, List.set_cons_zero, List.set_cons_succ])
          refine UpTo.ready (rs := [6]) (by decide +kernel) (by simp) ?_
          refine AllZ.cons (o := _) rfl ?_ AllZ.nil
          intro K hK
          rw [if_pos (wanted_none (by rfl))]
          (go_simp; go_at_call 34; refine (N4.out _ Y3.out).mono ?_; rintro e y9 ⟨rfl, hb⟩; have Y9 := Lib.hid (onward hb Y3.out); clear hb; go_wp2_with fail; exact door_panic w _ _ rfl rfl (stays_block Y9.out P0n.out) (stays_block Y9.out P1n.out) (onward Y9.out Bn.out) _ (fun w' hb => parseI_none HN.out hb))
        · have N2 : Hid (∀ W, Below wn.heap.size wn W → Calls Tryz.prog 34 #[.slice va ws.length vc, .int .i64 2] W fun e w' => e = .returned (.int .i64 p) ∧ Below W.heap.size W w') := fun W hb => number_ok _ ws 2 p (w.heap.size + 2) r W (HEK.out _ (onward hb Bn.out) _ (Kept.refl _ _)).env (Vn.out.below hb) Sn.out.1 q1
          have N4 : Hid (∀ W, Below wn.heap.size wn W → Calls Tryz.prog 34 #[.slice va ws.length vc, .int .i64 4] W fun e w' => e = .returned (.int .i64 d) ∧ Below W.heap.size W w') := fun W hb => number_ok _ ws 4 d (w.heap.size + 2) r W (HEK.out _ (onward hb Bn.out) _ (Kept.refl _ _)).env (Vn.out.below hb) Sn.out.1 q3
          have N6 : Hid (∀ W, Below wn.heap.size wn W → Calls Tryz.prog 34 #[.slice va ws.length vc, .int .i64 6] W fun e w' => e = .panicked thrown ∧ Below W.heap.size W w') := fun W hb => number_no _ ws 6 (w.heap.size + 2) r W (HEK.out _ (onward hb Bn.out) _ (Kept.refl _ _)).env (Vn.out.below hb) Sn.out.1 hno
          clear hx
          go_wp2_with fail
          refine UpTo.start (z := 13) (C := (fun W => W.cell? ⟨w.heap.size, 3, none⟩ = some lv)) (by kernel_rfl) ?_ (fun hHeld => ?_)
          · (try dsimp only)
            exact KS.out _ (Below.refl _ _).drew
          refine PlanZ.start (plan := [0, 1, 2, 5, 7]) (fuel := 9) (by decide +kernel) (by assumption) ?_
          refine PlanZ.free (i := 0) (ds := some 70) (v := ?_) rfl rfl rfl ?_ (fun c a w h => put_door _ _ _ (by decide) (by decide) c a w h) ?_
          rotate_left
          · (intro w hSw; (try dsimp only at hSw); go_simp; first | done | with_reducible rfl)
          (try simp only [Act.put, List.setIfInBounds_toArray, List.set_cons_zero, List.set_cons_succ])
          refine PlanZ.free (i := 1) (ds := some 71) (v := ?_) rfl rfl rfl ?_ (fun c a w h => put_door _ _ _ (by decide) (by decide) c a w h) ?_
          rotate_left
          · (intro w hSw; (try dsimp only at hSw); go_simp; first | done | with_reducible rfl)
          (try simp only [Act.put, List.setIfInBounds_toArray, List.set_cons_zero, List.set_cons_succ])
          refine PlanZ.free (i := 2) (ds := some 72) (v := ?_) rfl rfl rfl ?_ (fun c a w h => put_door _ _ _ (by decide) (by decide) c a w h) ?_
          rotate_left
          · (intro w hSw; (try dsimp only at hSw); go_simp; first | done | with_reducible rfl)
          (try simp only [Act.put, List.setIfInBounds_toArray, List.set_cons_zero, List.set_cons_succ])
          refine PlanZ.free (i := 5) (ds := some 75) (v := ?_) rfl rfl rfl ?_ (fun c a w h => put_door _ _ _ (by decide) (by decide) c a w h) ?_
          rotate_left
          · (intro w hSw; (try dsimp only at hSw); go_simp; first | done | with_reducible rfl)
          (try simp only [Act.put, List.setIfInBounds_toArray, List.set_cons_zero, List.set_cons_succ])
          refine PlanZ.free (i := 7) (ds := some 77) (v := ?_) rfl rfl rfl ?_ (fun c a w h => put_door _ _ _ (by decide) (by decide) c a w h) ?_
          rotate_left
          · (intro w hSw; (try dsimp only at hSw); go_simp; first | done | with_reducible rfl)
          (try simp only [Act.put, List.setIfInBounds_toArray, List.set_cons_zero, List.set_cons_succ])
          refine PlanZ.stop (fun hHeld => ?_)
          refine UpTo.ready (rs := [3]) (by decide +kernel) (by simp) ?_
          refine AllZ.cons (o := _) rfl ?_ AllZ.nil
          intro K hK
          rw [if_pos (wanted_none (by rfl))]
          (go_simp; go_at_call 34; refine (N2.out _ (Below.refl _ _).drew).mono ?_; rintro e y3 ⟨rfl, hb⟩; have Y3 := Lib.hid (onward hb (Below.refl _ _).drew); clear hb)
          refine hK.out _ _ ?_ (fun hHeld => ?_)
          · (try dsimp only)
            exact KS.out _ Y3.out
          clear hK K
          (try simp only [Act.put, List.setIfInBounds_toArray, List.set_cons_zero, List.set_cons_succ])
          refine UpTo.ready (rs := [4]) (by decide +kernel) (by simp) ?_
          refine AllZ.cons (o := _) rfl ?_ AllZ.nil
          intro K hK
          rw [if_pos (wanted_none (by rfl))]
          (go_simp; go_at_call 30; refine (small_ok p _ q2).mono ?_; rintro e _ ⟨rfl, rfl⟩)
          refine hK.out _ _ ?_ (fun hHeld => ?_)
          · (try dsimp only)
            exact KS.out _ Y3.out
          clear hK K
          (try simp only [Act.put, List.setIfInBounds_toArray, List.set_cons_zero, List.set_cons_succ])
          refine UpTo.ready (rs := [6]) (by decide +kernel) (by simp) ?_
          refine AllZ.cons (o := _) rfl ?_ AllZ.nil
          intro K hK
          rw [if_pos (wanted_none (by rfl))]
          (go_simp; go_at_call 34; refine (N4.out _ Y3.out).mono ?_; rintro e y6 ⟨rfl, hb⟩; have Y6 := Lib.hid (onward hb Y3.out); clear hb)
          refine hK.out _ _ ?_ (fun hHeld => ?_)
          · (try dsimp only)
            exact KS.out _ Y6.out
          clear hK K
          (try simp only [Act.put, List.setIfInBounds_toArray, List.set_cons_zero, List.set_cons_succ])
          refine UpTo.ready (rs := [8]) (by decide +kernel) (by simp) ?_
          refine AllZ.cons (o := _) rfl ?_ AllZ.nil
          intro K hK
          rw [if_pos (wanted_none (by rfl))]
          (go_simp; go_at_call 34; refine (N6.out _ Y6.out).mono ?_; rintro e y9 ⟨rfl, hb⟩; have Y9 := Lib.hid (onward hb Y6.out); clear hb; go_wp2_with fail; exact door_panic w _ _ rfl rfl (stays_block Y9.out P0n.out) (stays_block Y9.out P1n.out) (onward Y9.out Bn.out) _ (fun w' hb => parseI_none HN.out hb))
      · obtain ⟨p, d, a, q1, q2, q3, q4, rfl⟩ := over_is hx
        have N2 : Hid (∀ W, Below wn.heap.size wn W → Calls Tryz.prog 34 #[.slice va ws.length vc, .int .i64 2] W fun e w' => e = .returned (.int .i64 p) ∧ Below W.heap.size W w') := fun W hb => number_ok _ ws 2 p (w.heap.size + 2) r W (HEK.out _ (onward hb Bn.out) _ (Kept.refl _ _)).env (Vn.out.below hb) Sn.out.1 q1
        have N4 : Hid (∀ W, Below wn.heap.size wn W → Calls Tryz.prog 34 #[.slice va ws.length vc, .int .i64 4] W fun e w' => e = .returned (.int .i64 d) ∧ Below W.heap.size W w') := fun W hb => number_ok _ ws 4 d (w.heap.size + 2) r W (HEK.out _ (onward hb Bn.out) _ (Kept.refl _ _)).env (Vn.out.below hb) Sn.out.1 q3
        have N6 : Hid (∀ W, Below wn.heap.size wn W → Calls Tryz.prog 34 #[.slice va ws.length vc, .int .i64 6] W fun e w' => e = .returned (.int .i64 a) ∧ Below W.heap.size W w') := fun W hb => number_ok _ ws 6 a (w.heap.size + 2) r W (HEK.out _ (onward hb Bn.out) _ (Kept.refl _ _)).env (Vn.out.below hb) Sn.out.1 q4
        have LS2 : Hid (linesS l3 = (linesS r').map fun y => ((dn ++ [(⟨3, p, 0, d, a⟩ : Ren.Ln)]) ++ y.1, y.2)) := by
          show _ = _
          rw [LS.out, lines_over hb0 hb1 hb2, hx, Option.bind_some, Option.map_map]
          congr 1
          funext y
          simp
        clear hx
        go_wp2_with fail
        refine UpTo.start (z := 13) (C := (fun W => W.cell? ⟨w.heap.size, 3, none⟩ = some lv)) (by kernel_rfl) ?_ (fun hHeld => ?_)
        · (try dsimp only)
          exact KS.out _ (Below.refl _ _).drew
        refine PlanZ.start (plan := [0, 1, 2, 5, 7]) (fuel := 9) (by decide +kernel) (by assumption) ?_
        refine PlanZ.free (i := 0) (ds := some 70) (v := ?_) rfl rfl rfl ?_ (fun c a w h => put_door _ _ _ (by decide) (by decide) c a w h) ?_
        rotate_left
        · (intro w hSw; (try dsimp only at hSw); go_simp; first | done | with_reducible rfl)
        (try simp only [Act.put, List.setIfInBounds_toArray, List.set_cons_zero, List.set_cons_succ])
        refine PlanZ.free (i := 1) (ds := some 71) (v := ?_) rfl rfl rfl ?_ (fun c a w h => put_door _ _ _ (by decide) (by decide) c a w h) ?_
        rotate_left
        · (intro w hSw; (try dsimp only at hSw); go_simp; first | done | with_reducible rfl)
        (try simp only [Act.put, List.setIfInBounds_toArray, List.set_cons_zero, List.set_cons_succ])
        refine PlanZ.free (i := 2) (ds := some 72) (v := ?_) rfl rfl rfl ?_ (fun c a w h => put_door _ _ _ (by decide) (by decide) c a w h) ?_
        rotate_left
        · (intro w hSw; (try dsimp only at hSw); go_simp; first | done | with_reducible rfl)
        (try simp only [Act.put, List.setIfInBounds_toArray, List.set_cons_zero, List.set_cons_succ])
        refine PlanZ.free (i := 5) (ds := some 75) (v := ?_) rfl rfl rfl ?_ (fun c a w h => put_door _ _ _ (by decide) (by decide) c a w h) ?_
        rotate_left
        · (intro w hSw; (try dsimp only at hSw); go_simp; first | done | with_reducible rfl)
        (try simp only [Act.put, List.setIfInBounds_toArray, List.set_cons_zero, List.set_cons_succ])
        refine PlanZ.free (i := 7) (ds := some 77) (v := ?_) rfl rfl rfl ?_ (fun c a w h => put_door _ _ _ (by decide) (by decide) c a w h) ?_
        rotate_left
        · (intro w hSw; (try dsimp only at hSw); go_simp; first | done | with_reducible rfl)
        (try simp only [Act.put, List.setIfInBounds_toArray, List.set_cons_zero, List.set_cons_succ])
        refine PlanZ.stop (fun hHeld => ?_)
        refine UpTo.ready (rs := [3]) (by decide +kernel) (by simp) ?_
        refine AllZ.cons (o := _) rfl ?_ AllZ.nil
        intro K hK
        rw [if_pos (wanted_none (by rfl))]
        (go_simp; go_at_call 34; refine (N2.out _ (Below.refl _ _).drew).mono ?_; rintro e y3 ⟨rfl, hb⟩; have Y3 := Lib.hid (onward hb (Below.refl _ _).drew); clear hb)
        refine hK.out _ _ ?_ (fun hHeld => ?_)
        · (try dsimp only)
          exact KS.out _ Y3.out
        clear hK K
        (try simp only [Act.put, List.setIfInBounds_toArray, List.set_cons_zero, List.set_cons_succ])
        refine UpTo.ready (rs := [4]) (by decide +kernel) (by simp) ?_
        refine AllZ.cons (o := _) rfl ?_ AllZ.nil
        intro K hK
        rw [if_pos (wanted_none (by rfl))]
        (go_simp; go_at_call 30; refine (small_ok p _ q2).mono ?_; rintro e _ ⟨rfl, rfl⟩)
        refine hK.out _ _ ?_ (fun hHeld => ?_)
        · (try dsimp only)
          exact KS.out _ Y3.out
        clear hK K
        (try simp only [Act.put, List.setIfInBounds_toArray, List.set_cons_zero, List.set_cons_succ])
        refine UpTo.ready (rs := [6]) (by decide +kernel) (by simp) ?_
        refine AllZ.cons (o := _) rfl ?_ AllZ.nil
        intro K hK
        rw [if_pos (wanted_none (by rfl))]
        (go_simp; go_at_call 34; refine (N4.out _ Y3.out).mono ?_; rintro e y6 ⟨rfl, hb⟩; have Y6 := Lib.hid (onward hb Y3.out); clear hb)
        refine hK.out _ _ ?_ (fun hHeld => ?_)
        · (try dsimp only)
          exact KS.out _ Y6.out
        clear hK K
        (try simp only [Act.put, List.setIfInBounds_toArray, List.set_cons_zero, List.set_cons_succ])
        refine UpTo.ready (rs := [8]) (by decide +kernel) (by simp) ?_
        refine AllZ.cons (o := _) rfl ?_ AllZ.nil
        intro K hK
        rw [if_pos (wanted_none (by rfl))]
        (go_simp; go_at_call 34; refine (N6.out _ Y6.out).mono ?_; rintro e y8 ⟨rfl, hb⟩; have Y8 := Lib.hid (onward hb Y6.out); clear hb)
        refine hK.out _ _ ?_ (fun hHeld => ?_)
        · (try dsimp only)
          exact KS.out _ Y8.out
        clear hK K
        (try simp only [Act.put, List.setIfInBounds_toArray, List.set_cons_zero, List.set_cons_succ])
        refine PlanZ.start (plan := [9]) (fuel := 4) (by decide +kernel) (by assumption) ?_
        refine PlanZ.free (i := 9) (ds := some 79) (v := ?_) rfl rfl rfl ?_ (fun c a w h => put_door _ _ _ (by decide) (by decide) c a w h) ?_
        rotate_left
        · (intro w hSw; (try dsimp only at hSw); go_simp; first | done | with_reducible rfl)
        (try simp only [Act.put, List.setIfInBounds_toArray, List.set_cons_zero, List.set_cons_succ])
        refine PlanZ.stop (fun hHeld => ?_)
        refine UpTo.ready (rs := [10]) (by decide +kernel) (by simp) ?_
        refine AllZ.cons (o := _) rfl ?_ AllZ.nil
        intro K hK
        rw [if_pos (wanted_none (by rfl))]
        (go_simp)
        refine hK.out _ _ ?_ (fun hHeld => ?_)
        · (try dsimp only)
          exact KS.out _ (onward (below_alloc _ _) Y8.out)
        clear hK K
        (try simp only [Act.put, List.setIfInBounds_toArray, List.set_cons_zero, List.set_cons_succ])
        refine UpTo.ready (rs := [11]) (by decide +kernel) (by simp) ?_
        refine AllZ.cons (o := _) rfl ?_ AllZ.nil
        intro K hK
        rw [if_pos (wanted_none (by rfl))]
        (refine wp_append_own _ _ _ 23 (by rfl) (r + 1) 39 i0 _ 5 32 Tryz.underlying23 hi hz0 hz1 hz2 rfl (by decide) lv dn.length ((dn.map Ren.Ln.cells).flatten) (by rfl) (OWn.out.kept (Kept.of_below (onward (below_alloc _ _) Y8.out) (fun _ => False)) (fun _ _ h => h)) ⟨y8.heap.size, 0, none⟩ 1 1 [.int .u8 3, .int .u32 p, .int .i64 0, .int .i64 d, .int .i64 a] (by rfl) rfl (new_cells _ _ _) (oneLn (⟨3, p, 0, d, a⟩ : Ren.Ln)) (by unfold maxLen; omega) (by omega) (by have h1 := Rn.out.lt; have h2 := (onward (below_alloc _ (.cells #[] 0)) Y8.out).size; have h3 := (Y8.out).size; first | omega | (simp; omega)) ?_; intro v' wb hown hgrow _; obtain ⟨a', c', hv'⟩ := rown_form hown; subst hv'; have KG := kept_grown hgrow; have hnp : ∀ k, k ≤ r → ¬ lv.ownBlock = some k := fun k hk e => (by have := (own_typed OWn.out e).1; omega); have Zb := Lib.hid (onward (below_alloc y8 (.cells [.int .u8 3, .int .u32 p, .int .i64 0, .int .i64 d, .int .i64 a].toArray 39)) Y8.out); have P0b := Lib.hid ((KG.block _ (lt_of_block (stays_block Zb.out P0n.out)) (hnp _ hrw)).trans (stays_block Zb.out P0n.out)); have P1b := Lib.hid ((KG.block _ (lt_of_block (stays_block Zb.out P1n.out)) (hnp _ (by omega))).trans (stays_block Zb.out P1n.out)); have Bb := Lib.hid ((onward Zb.out Bn.out).trans (KG.below (onward Zb.out Bn.out).size (fun k hk => by have := (own_typed OWn.out hk).1; omega))); have Rb := Lib.hid ((Rn.out.below Zb.out).step KG (fun k h1 h2 => hnp k h2)); have Ob := Lib.hid (OwnL.snoc (l := (⟨3, p, 0, d, a⟩ : Ren.Ln)) hown); have hfb : wb.frozen? ⟨w.heap.size, 3, none⟩ = false := free_of_row P0b.out)
        refine hK.out _ _ ?_ (fun hHeld => ?_)
        · (try dsimp only)
          exact (cells6 P0b.out).2.2.2.2.1
        clear hK K
        (try simp only [Act.put, List.setIfInBounds_toArray, List.set_cons_zero, List.set_cons_succ])
        refine PlanZ.start (plan := [12]) (fuel := 1) (by decide +kernel) (by assumption) ?_
        refine PlanZ.free (i := 12) (ds := some 82) (v := ?_) rfl rfl rfl ?_ (fun c a w h => put_door _ _ _ (by decide) (by decide) c a w h) ?_
        rotate_left
        · (intro w hSw; (try dsimp only at hSw); go_simp; first | done | with_reducible rfl)
        (try simp only [Act.put, List.setIfInBounds_toArray, List.set_cons_zero, List.set_cons_succ])
        refine PlanZ.stop (fun hHeld => ?_)
        refine UpTo.ready (rs := [13]) (by decide +kernel) (by simp) ?_
        refine AllZ.last (o := _) rfl ?_
        intro K hK
        rw [if_pos (wanted_none (by rfl))]
        (go_simp)
        refine hK.out _ _ ?_
        clear hK K
        (try simp only [Act.put, List.setIfInBounds_toArray, List.set_cons_zero, List.set_cons_succ])
        refine UpTo.done (by decide +kernel) ?_ _
        have hk : Kept (· = w.heap.size) wb (wb.setCell ⟨w.heap.size, 3, none⟩ (.slice a' (dn.length + 1) c')) := (Kept.refl (fun k => k = w.heap.size) wb).set ⟨w.heap.size, 3, none⟩ (.slice a' (dn.length + 1) c') rfl
        have P0c : Hid ((wb.setCell ⟨w.heap.size, 3, none⟩ (.slice a' (dn.length + 1) c')).heap[w.heap.size]? = some (.cells #[.int .u32 a1, .int .u32 b1, .int .i64 mo, (.slice a' (dn.length + 1) c'), .int .i64 0, .int .i64 0] 25 (0, 0))) := set_block P0b.out
        have P1c := Lib.hid ((hk.block _ (lt_of_block P1b.out) (by omega)).trans P1b.out)
        have Bc := Lib.hid (door_w Bb.out (Nat.le_refl _) hk)
        have Rc := Lib.hid (Rb.out.step hk (fun k h1 h2 => by omega))
        have Oc := Lib.hid (Ob.out.kept hk (fun k h1 h2 => by omega))
        have hleft : leftAt (wb.setCell ⟨w.heap.size, 3, none⟩ (.slice a' (dn.length + 1) c')) r < leftAt wr r := by
          rw [Rc.out.left, Rr.out.left, next_len hb2]
          omega
        have hl2 : (dn ++ [(⟨3, p, 0, d, a⟩ : Ren.Ln)]).length + r'.length ≤ 1000002 := by
          have := next_len hb2
          rw [List.length_append]
          simp
          omega
        clear hk hown hgrow KG hnp
        go_wp2_with fail
        go_roundw
        case rel => exact ⟨r', _, (.slice a' (dn.length + 1) c'), Rc, Sn2, P0c, P1c, Oc, LS2, hl2, Bc⟩
        case measure => exact hleft
    go_wp2_with fail
    refine (next_no wOver _ (w.heap.size + 2) r _ Rr.out (by decide) hb2).mono ?_
    rintro e _ ⟨rfl, rfl⟩
    obtain ⟨la, lc, hlv⟩ := rown_form OWr.out
    subst hlv
    have hl : linesS l3 = some (dn, rem) := by rw [LS.out, lines_end hb0 hb1 hb2]; simp
    clear LS hb0 hb1 hb2
    go_wp2_with fail
    refine (must_any wTotal _ (w.heap.size + 2) r _ (HEK.out _ Br.out) Rr.out Sr.out (by decide)).mono ?_
    rintro e wt ⟨hk, hm⟩
    have Bt := Lib.hid (door_w Br.out hrw hk)
    have P0t := Lib.hid ((hk.block _ (lt_of_block P0r.out) (by omega)).trans P0r.out)
    have P1t := Lib.hid ((hk.block _ (lt_of_block P1r.out) (by omega)).trans P1r.out)
    have hk' := hk
    clear hk
    rcases h4 : mustS wTotal rem with _ | ⟨tot, l4⟩
    · rw [h4] at hm
      subst hm
      go_wp2_with fail
      exact door_panic w _ _ rfl rfl P0t.out P1t.out Bt.out _ (fun w' hb => parseI_none (parseR_none (by simp only [parseS, h1, hs1, h2, hs2, h3, hl, h4, Option.bind_some, Option.bind_none])) hb)
    rw [h4] at hm
    obtain ⟨rfl, hr, hsm⟩ := hm
    have Rt := Lib.hid hr
    have St := Lib.hid hsm
    have OWt := Lib.hid (OWr.out.kept hk' (fun k h1 h2 => by omega))
    clear hr hsm hk' Br OWr P0r P1r Rr Sr
    obtain ⟨-, c0, c1, c2, c3, c4, c5⟩ := cells6 P0t.out
    have f4 : wt.frozen? ⟨w.heap.size, 4, none⟩ = false := free_of_row P0t.out
    have hk : Kept (· = w.heap.size) wt (wt.setCell ⟨w.heap.size, 4, none⟩ (.int .i64 tot)) := (Kept.refl (fun k => k = w.heap.size) wt).set ⟨w.heap.size, 4, none⟩ (.int .i64 tot) rfl
    have P0u : Hid ((wt.setCell ⟨w.heap.size, 4, none⟩ (.int .i64 tot)).heap[w.heap.size]? = some (.cells #[.int .u32 a1, .int .u32 b1, .int .i64 mo, (.slice la dn.length lc), .int .i64 tot, .int .i64 0] 25 (0, 0))) := set_block P0t.out
    have P1u := Lib.hid ((hk.block _ (lt_of_block P1t.out) (by omega)).trans P1t.out)
    have Bu := Lib.hid (door_w Bt.out (Nat.le_refl _) hk)
    have Ru := Lib.hid (Rt.out.step hk (fun k h1 h2 => by omega))
    have OWu := Lib.hid (OWt.out.kept hk (fun k h1 h2 => by omega))
    have Su := St
    clear hk Bt P0t P1t Rt St OWt
    rcases next_cases wCredited l4 with hb4 | ⟨ws, r', hb4⟩
    · have hcr : credS l4 = some 0 := by unfold credS; rw [hb4]
      go_wp2_with fail
      refine (next_no wCredited _ (w.heap.size + 2) r _ Ru.out (by decide) hb4).mono ?_
      rintro e _ ⟨rfl, rfl⟩
      have hPS : parseS s = some ⟨a1, b1, mo, dn, tot, 0⟩ := by simp only [parseS, h1, hs1, h2, hs2, h3, hl, h4, hcr, Option.bind_some]
      have hok := parse_ok hPS
      have TX := Lib.hid (rtext_any ⟨a1, b1, mo, dn, tot, 0⟩ (.slice la dn.length lc) _ (HEK.out _ Bu.out _ (Kept.refl _ _)).env OWu.out.rows hok)
      obtain ⟨-, k0, k1, k2, k3, k4, k5⟩ := cells6 P0u.out
      go_wp2_with fail
      refine TX.out.mono ?_
      rintro e wx ⟨rfl, hb⟩
      generalize (if mayB (⟨a1, b1, mo, dn, tot, 0⟩ : Ren.Inv) = true then (0 : Int) else 1) = er
      have Bx := Lib.hid (onward hb Bu.out)
      have P0x := Lib.hid (stays_block hb P0u.out)
      have P1x := Lib.hid (stays_block hb P1u.out)
      have OWx := Lib.hid (OWu.out.kept (Kept.of_below hb (fun _ => False)) (fun _ _ h => h))
      obtain ⟨-, g0, g1, g2, g3, g4, g5⟩ := cells6 P0x.out
      have e0 := cell_of_row (i := 0) P1x.out
      simp only [List.getElem?_toArray, List.getElem?_cons_zero] at e0
      have f0 : wx.frozen? ⟨w.heap.size, 0, none⟩ = false := free_of_row P0x.out
      have f1 : wx.frozen? ⟨w.heap.size, 1, none⟩ = false := free_of_row P0x.out
      have f2 : wx.frozen? ⟨w.heap.size, 2, none⟩ = false := free_of_row P0x.out
      have f3 : wx.frozen? ⟨w.heap.size, 3, none⟩ = false := free_of_row P0x.out
      have f4 : wx.frozen? ⟨w.heap.size, 4, none⟩ = false := free_of_row P0x.out
      have f5 : wx.frozen? ⟨w.heap.size, 5, none⟩ = false := free_of_row P0x.out
      have f6 : wx.frozen? ⟨w.heap.size + 1, 0, none⟩ = false := free_of_row P1x.out
      have hp01 : w.heap.size + 1 ≠ w.heap.size := by omega
      have hp10 : w.heap.size ≠ w.heap.size + 1 := by omega
      clear hb TX k0 k1 k2 k3 k4 k5
      by_cases hts : textL ⟨a1, b1, mo, dn, tot, 0⟩ = s
      · have HR := Lib.hid (parseR_same hPS hts)
        obtain ⟨z0, z1, z2⟩ := seven P0x.out P1x.out hp10 (.int .u32 a1) (.int .u32 b1) (.int .i64 mo) (.slice la dn.length lc) (.int .i64 tot) (.int .i64 0) (.int .i64 0)
        have P08 := Lib.hid z0
        have P18 := Lib.hid z1
        have K8 := Lib.hid z2
        rw [hts]
        clear z0 z1 z2 hPS
        clear h1 hs1 h2 hs2 h3 hl3 hl h4 hcr hok hlen hSL hi hz0 hz1 hz2 HE HT HEK hmf hs hts
        go_wp2_with fail
        exact door_return w _ _ rfl rfl P08.out P18.out _ (parseI_some (v := ⟨a1, b1, mo, dn, tot, 0⟩) HR.out (Bx.out.trans (K8.out.below Bx.out.size (fun k hk => by rcases hk with rfl | rfl <;> omega))) (OWx.out.kept K8.out (fun k h1 h2 => by rcases h2 with rfl | rfl <;> omega)).rows)
      · have HR := Lib.hid (parseR_other hPS hts)
        have hne := baNe hts
        generalize (⟨(textL (⟨a1, b1, mo, dn, tot, 0⟩ : Ren.Inv)).toArray⟩ : ByteArray) = bx at *
        generalize (⟨s.toArray⟩ : ByteArray) = bs at *
        have hne2 := toList_ne hne
        obtain ⟨z0, z1, z2⟩ := seven P0x.out P1x.out hp10 (.int .u32 0) (.int .u32 0) (.int .i64 0) (.slice none 0 0) (.int .i64 0) (.int .i64 0) (.int .i64 21)
        have P08 := Lib.hid z0
        have P18 := Lib.hid z1
        have K8 := Lib.hid z2
        clear z0 z1 z2 hPS
        clear h1 hs1 h2 hs2 h3 hl3 hl h4 hcr hok hlen hSL hi hz0 hz1 hz2 HE HT HEK hmf hs hts
        go_wp2_with fail
        exact door_return w _ _ rfl rfl P08.out P18.out _ (parseI_none HR.out (Bx.out.trans (K8.out.below Bx.out.size (fun k hk => by rcases hk with rfl | rfl <;> omega))))
    · go_wp2_with fail
      refine (next_yes wCredited _ ws r' (w.heap.size + 2) r _ (HEK.out _ Bu.out _ (Kept.refl _ _)) Ru.out Su.out (by decide) hb4).mono ?_
      rintro e wn ⟨v, rfl, hv, hr, hk⟩
      have Bn := Lib.hid (door_w Bu.out hrw hk)
      have P0n := Lib.hid ((hk.block _ (lt_of_block P0u.out) (by omega)).trans P0u.out)
      have P1n := Lib.hid ((hk.block _ (lt_of_block P1u.out) (by omega)).trans P1u.out)
      have Rn := Lib.hid hr
      have Sn := Lib.hid (next_small hb4 Su.out)
      have Vn := Lib.hid hv
      have OWn := Lib.hid (OWu.out.kept hk (fun k h1 h2 => by omega))
      obtain ⟨va, vc, rfl, -, -⟩ := hv
      clear hr hk
      rcases hn : numS ws 1 with _ | cr
      · have hcr : credS l4 = none := by unfold credS; rw [hb4]; exact hn
        have HN : Hid (parseR s = none) := parseR_none (by simp only [parseS, h1, hs1, h2, hs2, h3, hl, h4, hcr, Option.bind_some, Option.bind_none])
        have hno := hn
        have N1 : Hid (∀ W, Below wn.heap.size wn W → Calls Tryz.prog 34 #[.slice va ws.length vc, .int .i64 1] W fun e w' => e = .panicked thrown ∧ Below W.heap.size W w') := fun W hb => number_no _ ws 1 (w.heap.size + 2) r W (HEK.out _ (onward hb Bn.out) _ (Kept.refl _ _)).env (Vn.out.below hb) Sn.out.1 hno
        clear hn hno
        go_wp2_with fail
        refine (N1.out _ (Below.refl _ _)).mono ?_
        rintro e w9 ⟨rfl, hb⟩
        have Y9 := Lib.hid hb
        clear hb
        go_wp2_with fail
        exact door_panic w _ _ rfl rfl (stays_block Y9.out P0n.out) (stays_block Y9.out P1n.out) (onward Y9.out Bn.out) _ (fun w' hb => parseI_none HN.out hb)
      have hcr : credS l4 = some cr := by unfold credS; rw [hb4]; exact hn
      have N1 : Hid (∀ W, Below wn.heap.size wn W → Calls Tryz.prog 34 #[.slice va ws.length vc, .int .i64 1] W fun e w' => e = .returned (.int .i64 cr) ∧ Below W.heap.size W w') := fun W hb => number_ok _ ws 1 cr (w.heap.size + 2) r W (HEK.out _ (onward hb Bn.out) _ (Kept.refl _ _)).env (Vn.out.below hb) Sn.out.1 hn
      clear hn
      go_wp2_with fail
      refine (N1.out _ (Below.refl _ _)).mono ?_
      rintro e w9 ⟨rfl, hb⟩
      have B9 := Lib.hid (onward hb Bn.out)
      have P09 := Lib.hid (stays_block hb P0n.out)
      have P19 := Lib.hid (stays_block hb P1n.out)
      have OW9 := Lib.hid (OWn.out.kept (Kept.of_below hb (fun _ => False)) (fun _ _ h => h))
      obtain ⟨-, c0, c1, c2, c3, c4, c5⟩ := cells6 P09.out
      have f5 : w9.frozen? ⟨w.heap.size, 5, none⟩ = false := free_of_row P09.out
      have hk : Kept (· = w.heap.size) w9 (w9.setCell ⟨w.heap.size, 5, none⟩ (.int .i64 cr)) := (Kept.refl (fun k => k = w.heap.size) w9).set ⟨w.heap.size, 5, none⟩ (.int .i64 cr) rfl
      have P0v : Hid ((w9.setCell ⟨w.heap.size, 5, none⟩ (.int .i64 cr)).heap[w.heap.size]? = some (.cells #[.int .u32 a1, .int .u32 b1, .int .i64 mo, (.slice la dn.length lc), .int .i64 tot, .int .i64 cr] 25 (0, 0))) := set_block P09.out
      have P1v := Lib.hid ((hk.block _ (lt_of_block P19.out) (by omega)).trans P19.out)
      have Bv := Lib.hid (door_w B9.out (Nat.le_refl _) hk)
      have OWv := Lib.hid (OW9.out.kept hk (fun k h1 h2 => by omega))
      clear hb hk B9 P09 P19 OW9 N1
      have hPS : parseS s = some ⟨a1, b1, mo, dn, tot, cr⟩ := by simp only [parseS, h1, hs1, h2, hs2, h3, hl, h4, hcr, Option.bind_some]
      have hok := parse_ok hPS
      have TX := Lib.hid (rtext_any ⟨a1, b1, mo, dn, tot, cr⟩ (.slice la dn.length lc) _ (HEK.out _ Bv.out _ (Kept.refl _ _)).env OWv.out.rows hok)
      obtain ⟨-, k0, k1, k2, k3, k4, k5⟩ := cells6 P0v.out
      go_wp2_with fail
      clear c0 c1 c2 c3 c4 c5 f5
      refine TX.out.mono ?_
      rintro e wx ⟨rfl, hb⟩
      generalize (if mayB (⟨a1, b1, mo, dn, tot, cr⟩ : Ren.Inv) = true then (0 : Int) else 1) = er
      have Bx := Lib.hid (onward hb Bv.out)
      have P0x := Lib.hid (stays_block hb P0v.out)
      have P1x := Lib.hid (stays_block hb P1v.out)
      have OWx := Lib.hid (OWv.out.kept (Kept.of_below hb (fun _ => False)) (fun _ _ h => h))
      obtain ⟨-, g0, g1, g2, g3, g4, g5⟩ := cells6 P0x.out
      have e0 := cell_of_row (i := 0) P1x.out
      simp only [List.getElem?_toArray, List.getElem?_cons_zero] at e0
      have f0 : wx.frozen? ⟨w.heap.size, 0, none⟩ = false := free_of_row P0x.out
      have f1 : wx.frozen? ⟨w.heap.size, 1, none⟩ = false := free_of_row P0x.out
      have f2 : wx.frozen? ⟨w.heap.size, 2, none⟩ = false := free_of_row P0x.out
      have f3 : wx.frozen? ⟨w.heap.size, 3, none⟩ = false := free_of_row P0x.out
      have f4 : wx.frozen? ⟨w.heap.size, 4, none⟩ = false := free_of_row P0x.out
      have f5 : wx.frozen? ⟨w.heap.size, 5, none⟩ = false := free_of_row P0x.out
      have f6 : wx.frozen? ⟨w.heap.size + 1, 0, none⟩ = false := free_of_row P1x.out
      have hp01 : w.heap.size + 1 ≠ w.heap.size := by omega
      have hp10 : w.heap.size ≠ w.heap.size + 1 := by omega
      clear hb TX k0 k1 k2 k3 k4 k5
      by_cases hts : textL ⟨a1, b1, mo, dn, tot, cr⟩ = s
      · have HR := Lib.hid (parseR_same hPS hts)
        obtain ⟨z0, z1, z2⟩ := seven P0x.out P1x.out hp10 (.int .u32 a1) (.int .u32 b1) (.int .i64 mo) (.slice la dn.length lc) (.int .i64 tot) (.int .i64 cr) (.int .i64 0)
        have P08 := Lib.hid z0
        have P18 := Lib.hid z1
        have K8 := Lib.hid z2
        rw [hts]
        clear z0 z1 z2 hPS
        clear h1 hs1 h2 hs2 h3 hl3 hl h4 hcr hok hlen hSL hi hz0 hz1 hz2 HE HT HEK hmf hs hts
        go_wp2_with fail
        exact door_return w _ _ rfl rfl P08.out P18.out _ (parseI_some (v := ⟨a1, b1, mo, dn, tot, cr⟩) HR.out (Bx.out.trans (K8.out.below Bx.out.size (fun k hk => by rcases hk with rfl | rfl <;> omega))) (OWx.out.kept K8.out (fun k h1 h2 => by rcases h2 with rfl | rfl <;> omega)).rows)
      · have HR := Lib.hid (parseR_other hPS hts)
        have hne := baNe hts
        generalize (⟨(textL (⟨a1, b1, mo, dn, tot, cr⟩ : Ren.Inv)).toArray⟩ : ByteArray) = bx at *
        generalize (⟨s.toArray⟩ : ByteArray) = bs at *
        have hne2 := toList_ne hne
        obtain ⟨z0, z1, z2⟩ := seven P0x.out P1x.out hp10 (.int .u32 0) (.int .u32 0) (.int .i64 0) (.slice none 0 0) (.int .i64 0) (.int .i64 0) (.int .i64 21)
        have P08 := Lib.hid z0
        have P18 := Lib.hid z1
        have K8 := Lib.hid z2
        clear z0 z1 z2 hPS
        clear h1 hs1 h2 hs2 h3 hl3 hl h4 hcr hok hlen hSL hi hz0 hz1 hz2 HE HT HEK hmf hs hts
        go_wp2_with fail
        exact door_return w _ _ rfl rfl P08.out P18.out _ (parseI_none HR.out (Bx.out.trans (K8.out.below Bx.out.size (fun k hk => by rcases hk with rfl | rfl <;> omega))))
end Go.Proofs.YtmppkhjjlgngkaaGreatDoor
