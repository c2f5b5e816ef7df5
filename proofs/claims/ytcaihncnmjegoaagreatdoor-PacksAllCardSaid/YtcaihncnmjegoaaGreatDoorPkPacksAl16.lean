/- The walk of packs.Add. (Printed by gen_pai.py.) -/
import Derived.Test.YtcaihncnmjegoaaGreatDoorPkPacksAl15
/-! The walk of packs.Add. (Printed by gen_pai.py.) -/
namespace Go.Proofs.YtcaihncnmjegoaaGreatDoor
open Go.RowKit Go.WideMaps Go.Maps
set_option linter.unusedVariables false
set_option linter.unusedSimpArgs false
set_option maxRecDepth 10000000
theorem pow_turned {b : Nat} {w w' : World} (h : Pow w) (ht : Turned b w w') : Pow w' := by
  change w.var? Tryz.prog "internal/strconv.uint64pow10" = some (Lib.pow10Tab.map fun z => Value.int .u64 z).toArray at h
  show w'.var? Tryz.prog "internal/strconv.uint64pow10" = some (Lib.pow10Tab.map fun z => Value.int .u64 z).toArray
  unfold World.var? at *
  cases hg : Tryz.prog.globalNamed "internal/strconv.uint64pow10" with
  | none => simp [hg] at h
  | some g =>
    simp only [hg, Option.bind_some] at h ⊢
    have hlt : g < w.heap.size := by
      rcases Nat.lt_or_ge g w.heap.size with h' | h'
      · exact h'
      · rw [Array.getElem?_eq_none h'] at h; simp at h
    have hne : g ≠ b := fun e => by
      obtain ⟨es, c, hm⟩ := ht.isM
      rw [e, hm] at h
      simp at h
    rw [ht.grown.block g hlt (fun e => hne (by injection e))]
    exact h
theorem EnvA.turned {b : Nat} {w w' : World} (h : EnvA w) (ht : Turned b w w') : EnvA w' := by
  obtain ⟨h1, ⟨m, h2⟩, ⟨t, p, h3⟩, ⟨t', p', h4⟩⟩ := h
  exact ⟨pow_turned h1 ht, ⟨m, ht.cell h2⟩, ⟨t, p, ht.cell h3⟩, ⟨t', p', ht.cell h4⟩⟩
theorem ints_one {W : World} {g : Nat} {x : Int} {T : TypeId} (h : W.heap[g]? = some (.cells #[.int .i64 x] T (0, 0))) : IntsAt W (.slice (some ⟨g, 0, none⟩) 1 1) [x] :=
  ⟨_, 1, rfl, fun i hi => ⟨g, 0, rfl, by
    rw [cell_of_row h]
    have : i = 0 := by simp at hi; omega
    subst this
    rfl⟩⟩
theorem rows0P (w : World) : RowsIn w (.slice none 0 0) 2 (([] : List Pt).map Pt.cells) := ⟨none, 0, rfl, Nat.le_refl _, Nat.zero_le _, fun i hi => by simp at hi⟩
theorem rows2P {w : World} {g : Nat} {p q : Pt} (h : w.heap[g]? = some (.cells #[.string p.a, .int .i64 p.n, .string q.a, .int .i64 q.n] 30 (0, 0))) : RowsIn w (.slice (some ⟨g, 0, none⟩) 2 2) 2 ([p, q].map Pt.cells) :=
  ⟨_, 2, rfl, Nat.le_refl _, by unfold maxLen; omega, fun i hi => ⟨g, 0, rfl, lt_of_block h, fun j hj => by
    rw [cell_of_row h]
    have hi2 : i = 0 ∨ i = 1 := by simp at hi; omega
    have hj2 : j = 0 ∨ j = 1 := by omega
    rcases hi2 with rfl | rfl <;> rcases hj2 with rfl | rfl <;> rfl⟩⟩
def wSold : ByteArray := ⟨#[115, 111, 108, 100]⟩
/-- the next number -/
def nextN (P : List (Nat × Int × Int)) : Nat := P.foldl (fun m x => max m (x.1 + 1)) 1
theorem nextN_snoc (P : List (Nat × Int × Int)) (i : Nat) (x : Nat × Int × Int) (h : P[i]? = some x) : nextN (P.take (i + 1)) = max (nextN (P.take i)) (x.1 + 1) := by
  unfold nextN
  rw [List.take_add_one, h, Option.toList_some, List.foldl_append]
  rfl
theorem nextN_lt {P : List (Nat × Int × Int)} (h : ∀ x ∈ P, x.1 < 4294967295) : nextN P < 4294967296 := by
  have key : ∀ (P : List (Nat × Int × Int)) (m : Nat), m < 4294967296 → (∀ x ∈ P, x.1 < 4294967295) → P.foldl (fun m x => max m (x.1 + 1)) m < 4294967296 := by
    intro P
    induction P with
    | nil => intro m hm _; exact hm
    | cons x r ih => intro m hm hx; exact ih _ (by have := hx x (by simp); show max m (x.1 + 1) < _; omega) (fun y hy => hx y (by simp [hy]))
  exact key P 1 (by omega) h
def addParts (u id : Nat) (units : Int) : List Pt := [⟨Acct.nameB wPack [(u : Int), (id : Int)], units⟩, ⟨Acct.nameB wSold [(u : Int)], -units⟩]
/-- what Add answers: number, parts, error; the store -/
def addF (room : Int) (D : DM) (P : List (Nat × Int × Int)) (u : Nat) (units ex now : Int) : Nat × List Pt × Int × DM :=
  if units < 1 ∨ 1099511627776 < units ∨ ex ≤ now ∨ 137438953472 < ex then (0, [], 1, D)
  else if 8 ≤ (liveL now (lefts P)).length then (0, [], 3, D)
  else if putE room D (pkey u (nextN P)) (packL (nextN P) ex) = 0 then (nextN P, addParts u (nextN P) units, 0, putD room D (pkey u (nextN P)) (packL (nextN P) ex))
  else (0, [], putE room D (pkey u (nextN P)) (packL (nextN P) ex), putD room D (pkey u (nextN P)) (packL (nextN P) ex))
def AddEnd (p b1 b2 n : Nat) (room : Int) (D2 : DM) (r : Nat × List Pt × Int × DM) (w : World) (e : Ending) (w' : World) : Prop := ∃ pv, e = .returned (.tuple #[.int .u32 r.1, pv, .int .i64 r.2.2.1]) ∧ RowsIn w' pv 2 (r.2.1.map Pt.cells) ∧ MemS w' p b1 b2 room (n + 1) r.2.2.2 D2 ∧ Turned b1 w w'
theorem AddEnd.no {p b1 b2 n : Nat} {room : Int} {D D2 : DM} {r : Nat × List Pt × Int × DM} {c : Int} {w w' : World} {e : Ending} (hr : r = (0, [], c, D)) (hM : MemS w p b1 b2 room n D D2) (hb : Below w.heap.size w w') (he : e = .returned (.tuple #[.int .u32 0, .slice none 0 0, .int .i64 c])) : AddEnd p b1 b2 n room D2 r w e w' := by
  subst hr
  exact ⟨_, he, rows0P _, (hM.below hb).mono (Nat.le_succ _), Turned.of_below hb hM.now.isM⟩
set_option maxHeartbeats 4000000 in
theorem add_any {p b1 b2 n : Nat} {room : Int} {D D2 : DM} {P : List (Nat × Int × Int)} (u : Nat) (units ex now : Int) (w : World) (hE : EnvA w) (hM : MemS w p b1 b2 room n D D2) (hn : n < 1000000) (hD : IsMap D) (hP : PackAt D u P) (hu : u < 4294967296) (hl : P.length ≤ 1000000) (hids : ∀ x ∈ P, x.1 < 4294967295) (hun : Acct.inInt units) (hex : Acct.inInt ex) :
    Calls Tryz.prog 13 #[memI p, .int .u32 u, .int .i64 units, .int .i64 ex, .int .i64 now] w (AddEnd p b1 b2 n room D2 (addF room D P u units ex now) w) := by
  have HE := Lib.hid hE
  have HM := Lib.hid hM
  have AX := Lib.hid (all_any u w hE hM hn hD hP hu hl)
  have LX := Lib.hid (fun (W : World) (hb : Below w.heap.size w W) => live_any u now W (hE.below hb) (hM.below hb) hn hD hP hu hl)
  by_cases hbad : units < 1 ∨ 1099511627776 < units ∨ ex ≤ now ∨ 137438953472 < ex
  · have HR : Hid (addF room D P u units ex now = (0, [], 1, D)) := if_pos hbad
    clear hE hM AX LX
    go_enter Tryz.func13, Tryz.ntmps13
    by_cases c1 : units < 1
    · go_wp2_with fail
      go_ret3
      exact AddEnd.no HR.out HM.out (Below.refl _ _) rfl
    · by_cases c2 : units > 1099511627776
      · go_wp2_with fail
        go_ret3
        exact AddEnd.no HR.out HM.out (Below.refl _ _) rfl
      · by_cases c3 : ex ≤ now
        · go_wp2_with fail
          go_ret3
          exact AddEnd.no HR.out HM.out (Below.refl _ _) rfl
        · have c4 : ex > 137438953472 := by omega
          go_wp2_with fail
          go_ret3
          exact AddEnd.no HR.out HM.out (Below.refl _ _) rfl
  · have c1 : ¬ units < 1 := fun h => hbad (.inl h)
    have c2 : ¬ units > 1099511627776 := fun h => hbad (.inr (.inl h))
    have c3 : ¬ ex ≤ now := fun h => hbad (.inr (.inr (.inl h)))
    have c4 : ¬ ex > 137438953472 := fun h => hbad (.inr (.inr (.inr h)))
    have HR : Hid (addF room D P u units ex now = if 8 ≤ (liveL now (lefts P)).length then (0, [], 3, D)
      else if putE room D (pkey u (nextN P)) (packL (nextN P) ex) = 0 then (nextN P, addParts u (nextN P) units, 0, putD room D (pkey u (nextN P)) (packL (nextN P) ex))
      else (0, [], putE room D (pkey u (nextN P)) (packL (nextN P) ex), putD room D (pkey u (nextN P)) (packL (nextN P) ex))) := if_neg hbad
    have HIDS := Lib.hid hids
    clear hE hM hbad hids
    go_enter Tryz.func13, Tryz.ntmps13
    go_wp2_with fail
    refine AX.out.mono ?_
    rintro e w3 ⟨lv, rfl, ho, hb⟩
    have B3 := Lib.hid hb
    have O3 := Lib.hid ho
    have LY := Lib.hid (LX.out w3 hb)
    have hlv : ∃ a c, lv = .slice a P.length c := by
      rcases Go.Joins.ownsRow_forms ho with ⟨h1, h0⟩ | ⟨g, cap, h1⟩
      · rw [lefts_len] at h0; exact ⟨none, 0, by rw [h1, h0]⟩
      · rw [lefts_len] at h1; exact ⟨_, _, h1⟩
    obtain ⟨la, lc, rfl⟩ := hlv
    clear ho hb AX LX
    go_wp2_with fail
    refine LY.out.mono ?_
    rintro e w4 ⟨vv, rfl, hv, hb⟩
    have B4 : Hid (Below w.heap.size w w4) := onward hb B3.out
    have O4 := Lib.hid (ownsRow_below O3.out hb)
    obtain ⟨va, vc, rfl, hvc⟩ := hv
    clear hb hvc LY O3
    by_cases h8 : 8 ≤ (liveL now (lefts P)).length
    · have HR2 : Hid (addF room D P u units ex now = (0, [], 3, D)) := by show _ = _; rw [HR.out, if_pos h8]
      have hz8 : ((liveL now (lefts P)).length : Int) ≥ 8 := by omega
      clear HR
      generalize (liveL now (lefts P)).length = q at *
      go_wp2_with fail
      go_ret3
      exact AddEnd.no HR2.out HM.out B4.out rfl
    have HR2 : Hid (addF room D P u units ex now = if putE room D (pkey u (nextN P)) (packL (nextN P) ex) = 0 then (nextN P, addParts u (nextN P) units, 0, putD room D (pkey u (nextN P)) (packL (nextN P) ex))
      else (0, [], putE room D (pkey u (nextN P)) (packL (nextN P) ex), putD room D (pkey u (nextN P)) (packL (nextN P) ex))) := by show _ = _; rw [HR.out, if_neg h8]
    have hz8 : ¬ ((liveL now (lefts P)).length : Int) ≥ 8 := by omega
    clear HR
    generalize (liveL now (lefts P)).length = q at *
    obtain ⟨w5, hw5⟩ : ∃ W, W = w4.alloc (.cells #[.int .u32 1, .int .i64 ex] 32) := ⟨_, rfl⟩
    have hb5 : Below w4.heap.size w4 w5 := by rw [hw5]; exact below_alloc _ _
    have H5 : Hid (w5.heap[w4.heap.size]? = some (.cells #[.int .u32 ((nextN (P.take 0) : Nat) : Int), .int .i64 ex] 32 (0, 0))) := by rw [hw5]; exact alloc_block _ _ _ _
    have B5 := Lib.hid hb5
    clear hb5
    obtain ⟨gp, hgp⟩ : ∃ g, g = w4.heap.size := ⟨_, rfl⟩
    have HGP := Lib.hid hgp
    go_upto_region 12 with fail
    rw [← hw5]
    clear hw5
    rw [← hgp] at H5 ⊢
    clear hgp
    go_wp2_with fail
    go_loopw [18, 63] (fun _ iv wr => ∃ i : Nat, i ≤ P.length ∧ iv = .int .i64 i ∧ Hid (wr.heap[gp]? = some (.cells #[.int .u32 ((nextN (P.take i) : Nat) : Int), .int .i64 ex] 32 (0, 0))) ∧ Hid (Below w4.heap.size w4 wr)) (fun _ iv _ => P.length - (intOf iv).toNat)
    case atStart => exact ⟨0, by omega, rfl, H5.out, B5.out⟩
    case round =>
      obtain ⟨i, hi1, rfl, HI, BI⟩ := hrel
      by_cases hlt : i < P.length
      · have hz : (i : Int) < (P.length : Int) := by omega
        obtain ⟨x, hx⟩ : ∃ x, P[i]? = some x := ⟨_, List.getElem?_eq_getElem hlt⟩
        have hxi := HIDS.out x (List.mem_of_getElem? hx)
        have HS := Lib.hid (nextN_snoc P i x hx)
        have hO := ownsRow_below O4.out BI.out
        obtain ⟨g, cap, e1⟩ := Go.Joins.ownsRow_form hO (by rw [lefts_len]; omega)
        rw [lefts_len] at e1 hO
        injection e1 with e1 _ e3
        subst e1 e3
        have hgl : (lefts P)[i]! = ((x.1 : Int), x.2.1, x.2.2) := by
          rw [getElem!_pos (lefts P) i (by rw [lefts_len]; exact hlt)]
          unfold lefts
          rw [List.getElem_map]
          rw [List.getElem?_eq_getElem hlt] at hx
          injection hx with hx
          rw [hx]
        have k0 := hO.cellAt (i * 3) (by omega)
        have k1 := hO.cellAt (i * 3 + 1) (by omega)
        have k2 := hO.cellAt (i * 3 + 2) (by omega)
        have j0 := lefts_get (lefts P) i 0 (by rw [lefts_len]; exact hlt) (by omega)
        have j1 := lefts_get (lefts P) i 1 (by rw [lefts_len]; exact hlt) (by omega)
        have j2 := lefts_get (lefts P) i 2 (by rw [lefts_len]; exact hlt) (by omega)
        rw [hgl] at j0 j1 j2
        have c0 : wr.cell? ⟨g, i * 3, none⟩ = some (.int .u32 x.1) := k0.trans j0
        have c1 : wr.cell? ⟨g, i * 3 + 1, none⟩ = some (.int .i64 x.2.1) := k1.trans j1
        have c2 : wr.cell? ⟨g, i * 3 + 2, none⟩ = some (.int .i64 x.2.2) := k2.trans j2
        obtain ⟨x0, x1, x2⟩ := x
        simp only at c0 c1 c2 hxi HS
        have hgg : g < gp := by have := (World.ownsRow.lt O4.out g rfl).2; have := HGP.out; omega
        obtain ⟨w8, hw8⟩ : ∃ W, W = wr.alloc (.cells #[.int .u32 x0, .int .i64 x1, .int .i64 x2] 34) := ⟨_, rfl⟩
        have hb8 : Below wr.heap.size wr w8 := by rw [hw8]; exact below_alloc _ _
        have h8 : w8.heap[wr.heap.size]? = some (.cells #[.int .u32 x0, .int .i64 x1, .int .i64 x2] 34 (0, 0)) := by rw [hw8]; exact alloc_block _ _ _ _
        obtain ⟨q0, q1, q2⟩ := box3c h8
        have HG := stays_block hb8 HI.out
        have hg0 : w8.cell? ⟨gp, 0, none⟩ = some (.int .u32 ((nextN (P.take i) : Nat) : Int)) := by rw [cell_of_row HG]; rfl
        have hf0 : w8.frozen? ⟨gp, 0, none⟩ = false := free_of_row HG
        have hmx : max ((nextN (P.take i) : Nat) : Int) ((x0 : Int) + 1) = ((nextN (P.take (i + 1)) : Nat) : Int) := by
          rw [HS.out]; omega
        obtain ⟨WF, hWF⟩ : ∃ W, W = w8.setCell ⟨gp, 0, none⟩ (.int .u32 (max ((nextN (P.take i) : Nat) : Int) ((x0 : Int) + 1))) := ⟨_, rfl⟩
        have HF : Hid (WF.heap[gp]? = some (.cells #[.int .u32 ((nextN (P.take (i + 1)) : Nat) : Int), .int .i64 ex] 32 (0, 0))) := by
          rw [hWF, hmx]
          exact set_cells (k := 0) HG
        have BF : Hid (Below w4.heap.size w4 WF) := by
          rw [hWF]
          exact (onward hb8 BI.out).setCell (by have := HGP.out; show _ ≤ gp; omega) _
        have hwx : IntKind.u32.wrap ((x0 : Int) + 1) = (x0 : Int) + 1 := by
          have e : ∀ z : Int, IntKind.u32.wrap z = z % 4294967296 := fun _ => rfl
          rw [e]; omega
        clear hmx hb8 h8 HG HS hgl k0 k1 k2 j0 j1 j2 hO HI BI hx
        go_upto_region 15 with fail
        rw [← hw8]
        clear hw8
        go_upto_region 16 with fail
        rw [← hWF]
        clear hWF
        go_wp2_with fail
        go_roundw
        case rel => exact ⟨i + 1, by omega, by go_num, HF.out, BF.out⟩
        case measure => simp [intOf]; omega
      · obtain rfl : i = P.length := by omega
        have dk0 : decide ((P.length : Int) < (P.length : Int)) = false := decide_eq_false (by omega)
        have HID : Hid (nextN P < 4294967296) := nextN_lt HIDS.out
        obtain ⟨id, hid⟩ : ∃ id, id = nextN P := ⟨_, rfl⟩
        obtain ⟨w6, hw6⟩ : ∃ W, W = wr := ⟨_, rfl⟩
        have H6 : Hid (wr.heap[gp]? = some (.cells #[.int .u32 id, .int .i64 ex] 32 (0, 0))) := by have := HI.out; rw [List.take_length] at this; rw [hid]; exact this
        rw [← hid] at HID HR2
        have B6 : Hid (Below w.heap.size w wr) := onward BI.out B4.out
        rw [← hw6] at H6 B6 ⊢
        clear hw6 hid BI HI B5 H5 O4 HIDS
        have hid64 : id < 4294967296 := HID.out
        have HM6 := Lib.hid (HM.out.below B6.out)
        have HE6 := Lib.hid (HE.out.below B6.out)
        have KX : Hid (∀ W, Below w6.heap.size w6 W → W.cell? ⟨gp, 0, none⟩ = some (.int .u32 id) ∧ W.cell? ⟨gp, 1, none⟩ = some (.int .i64 ex)) := fun W hb => by
          have h := stays_block hb H6.out
          exact ⟨by rw [cell_of_row h]; rfl, by rw [cell_of_row h]; rfl⟩
        have KT : Hid (∀ W, Turned b1 w6 W → W.cell? ⟨gp, 0, none⟩ = some (.int .u32 id) ∧ W.cell? ⟨gp, 1, none⟩ = some (.int .i64 ex)) := fun W ht => by
          have h := ht.block H6.out
          exact ⟨by rw [cell_of_row h]; rfl, by rw [cell_of_row h]; rfl⟩
        have hwu : ∀ z : Int, IntKind.u64.wrap z = z % 18446744073709551616 := fun _ => rfl
        have hcu : IntKind.u64.wrap (u : Int) = (u : Int) := by rw [hwu]; omega
        have hci : IntKind.u64.wrap (id : Int) = (id : Int) := by rw [hwu]; omega
        have hcv : IntKind.i64.wrap (u : Int) = (u : Int) := IntWalk.i64_in _ (by omega)
        have hng : IntKind.i64.wrap (-units) = -units := IntWalk.i64_in _ (by omega)
        have hmf : ∀ (fn : Fn) (first cap : Array Value) (w : World), (Instr.makeFunc fn first cap).run Tryz.prog w = .ok (.func fn first cap) w := fun _ _ _ _ => rfl
        have hna := nil_put p
        clear hwu
        go_upto_region 17 with fail
        refine wp_region_held_drew (S := (fun W => W.cell? ⟨gp, 0, none⟩ = some (.int .u32 id) ∧ W.cell? ⟨gp, 1, none⟩ = some (.int .i64 ex))) (by kernel_rfl) ?_ (fun hHeld => ?_)
        · (try dsimp only)
          exact KX.out _ ((Below.refl _ _).drew)
        refine Plan.start (plan := [0, 1, 2, 3, 4, 5, 8, 10, 11, 12]) (fuel := 5) (by decide +kernel) (by assumption) ?_
        refine Plan.free (i := 0) (ds := some 76) (v := ?_) rfl rfl rfl ?_ (fun _ _ _ h => h) ?_
        rotate_left
        · (intro w hSw; (try dsimp only at hSw); go_simp; first | done | with_reducible rfl)
        (try simp only [Act.put, List.setIfInBounds_toArray, List.set_cons_zero, List.set_cons_succ])
        refine Plan.free (i := 1) (ds := some 77) (v := ?_) rfl rfl rfl ?_ (fun _ _ _ h => h) ?_
        rotate_left
        · (intro w hSw; (try dsimp only at hSw); go_simp; first | done | with_reducible rfl)
        (try simp only [Act.put, List.setIfInBounds_toArray, List.set_cons_zero, List.set_cons_succ])
        refine Plan.free (i := 2) (ds := some 78) (v := ?_) rfl rfl rfl ?_ (fun _ _ _ h => h) ?_
        rotate_left
        · (intro w hSw; (try dsimp only at hSw); go_simp; first | done | with_reducible rfl)
        (try simp only [Act.put, List.setIfInBounds_toArray, List.set_cons_zero, List.set_cons_succ])
        refine Plan.free (i := 3) (ds := some 79) (v := ?_) rfl rfl rfl ?_ (fun _ _ _ h => h) ?_
        rotate_left
        · (intro w hSw; (try dsimp only at hSw); go_simp; first | done | with_reducible rfl)
        (try simp only [Act.put, List.setIfInBounds_toArray, List.set_cons_zero, List.set_cons_succ])
        refine Plan.free (i := 4) (ds := some 80) (v := ?_) rfl rfl rfl ?_ (fun _ _ _ h => h) ?_
        rotate_left
        · (intro w hSw; (try dsimp only at hSw); go_simp; first | done | with_reducible rfl)
        (try simp only [Act.put, List.setIfInBounds_toArray, List.set_cons_zero, List.set_cons_succ])
        refine Plan.free (i := 5) (ds := some 81) (v := ?_) rfl rfl rfl ?_ (fun _ _ _ h => h) ?_
        rotate_left
        · (intro w hSw; (try dsimp only at hSw); go_simp; first | done | with_reducible rfl)
        (try simp only [Act.put, List.setIfInBounds_toArray, List.set_cons_zero, List.set_cons_succ])
        refine Plan.free (i := 8) (ds := some 84) (v := ?_) rfl rfl rfl ?_ (fun _ _ _ h => h) ?_
        rotate_left
        · (intro w hSw; (try dsimp only at hSw); go_simp; first | done | with_reducible rfl)
        (try simp only [Act.put, List.setIfInBounds_toArray, List.set_cons_zero, List.set_cons_succ])
        refine Plan.free (i := 10) (ds := some 86) (v := ?_) rfl rfl rfl ?_ (fun _ _ _ h => h) ?_
        rotate_left
        · (intro w hSw; (try dsimp only at hSw); go_simp; first | done | with_reducible rfl)
        (try simp only [Act.put, List.setIfInBounds_toArray, List.set_cons_zero, List.set_cons_succ])
        refine Plan.free (i := 11) (ds := some 87) (v := ?_) rfl rfl rfl ?_ (fun _ _ _ h => h) ?_
        rotate_left
        · (intro w hSw; (try dsimp only at hSw); go_simp; first | done | with_reducible rfl)
        (try simp only [Act.put, List.setIfInBounds_toArray, List.set_cons_zero, List.set_cons_succ])
        refine Plan.free (i := 12) (ds := some 88) (v := ?_) rfl rfl rfl ?_ (fun _ _ _ h => h) ?_
        rotate_left
        · (intro w hSw; (try dsimp only at hSw); go_simp; first | done | with_reducible rfl)
        (try simp only [Act.put, List.setIfInBounds_toArray, List.set_cons_zero, List.set_cons_succ])
        refine Plan.stop (fun hHeld => ?_)
        refine wpAnyH_ready (rs := [6]) (by decide +kernel) (by simp) ?_
        refine AllReadyH.cons (o := _) rfl ?_ AllReadyH.nil
        intro K hK
        rw [if_pos (wanted_none (by rfl))]
        (go_simp; obtain ⟨Vg, h6⟩ : ∃ W, W = (w6.alloc (.cells #[.int .u64 u, .int .u64 id] 64)).drew := ⟨_, rfl⟩; rw [← h6]; have hb : Below w6.heap.size w6 Vg := (by rw [h6]; exact (below_alloc _ _).drew); have h7 : Vg.heap[w6.heap.size]? = some (.cells #[.int .u64 u, .int .u64 id] 64 (0, 0)) := (by rw [h6]; exact alloc_block _ _ _ _); have H7 := Lib.hid h7; have BVg := Lib.hid hb; clear hb h6 h7)
        refine hK.out _ _ ?_ (fun hHeld => ?_)
        · (try dsimp only)
          exact KX.out _ BVg.out
        clear hK K
        (try simp only [Act.put, List.setIfInBounds_toArray, List.set_cons_zero, List.set_cons_succ])
        refine wpAnyH_ready (rs := [7]) (by decide +kernel) (by simp) ?_
        refine AllReadyH.cons (o := _) rfl ?_ AllReadyH.nil
        intro K hK
        rw [if_pos (wanted_none (by rfl))]
        (go_simp; go_at_call 18; refine (key2_any 112 u id w6.heap.size Vg (by omega) (by omega) (by rw [cell_of_row H7.out]; rfl) (by rw [cell_of_row H7.out]; rfl)).mono ?_; rintro e Vgh ⟨v7, rfl, h7, hb⟩; have K7 := Lib.hid h7; have ZVgh := Lib.hid hb; have BVgh : Hid (Below w6.heap.size w6 Vgh) := onward hb (BVg.out); clear hb h7)
        refine hK.out _ _ ?_ (fun hHeld => ?_)
        · (try dsimp only)
          exact KX.out _ BVgh.out
        clear hK K
        (try simp only [Act.put, List.setIfInBounds_toArray, List.set_cons_zero, List.set_cons_succ])
        refine wpAnyH_ready (rs := [9]) (by decide +kernel) (by simp) ?_
        refine AllReadyH.cons (o := _) rfl ?_ AllReadyH.nil
        intro K hK
        rw [if_pos (wanted_none (by rfl))]
        (go_simp; go_at_call 19; refine (putpack_any id ex _ hid64 hex).mono ?_; rintro e Vghj ⟨v9, rfl, h9, hb⟩; have K9 := Lib.hid h9; have ZVghj := Lib.hid hb; have BVghj : Hid (Below w6.heap.size w6 Vghj) := onward hb (BVgh.out); clear hb h9)
        refine hK.out _ _ ?_ (fun hHeld => ?_)
        · (try dsimp only)
          exact KX.out _ BVghj.out
        clear hK K
        (try simp only [Act.put, List.setIfInBounds_toArray, List.set_cons_zero, List.set_cons_succ])
        refine wpAnyH_ready (rs := [13]) (by decide +kernel) (by simp) ?_
        refine AllReadyH.cons (o := _) rfl ?_ AllReadyH.nil
        intro K hK
        rw [if_pos (wanted_none (by rfl))]
        (go_simp; refine (put_any Vghj (HM6.out.below BVghj.out) hn _ _ (pkey u id) (packL id ex) (K7.out.below ZVghj.out) K9.out (by simp [pkey, big8]) (by simp [packL, big8])).mono ?_; rintro e w7 ⟨rfl, hm, ht⟩; have M7 := Lib.hid hm; have T7 := Lib.hid ((Turned.of_below BVghj.out HM6.out.now.isM).trans ht); clear hm ht)
        refine hK.out _ _ ?_ (fun hHeld => ?_)
        · (try dsimp only)
          exact KT.out _ T7.out
        clear hK K
        (try simp only [Act.put, List.setIfInBounds_toArray, List.set_cons_zero, List.set_cons_succ])
        refine Plan.start (plan := [14]) (fuel := 0) (by decide +kernel) (by assumption) ?_
        refine Plan.free (i := 14) (ds := some 19) (v := ?_) rfl rfl rfl ?_ (fun _ _ _ h => h) ?_
        rotate_left
        · (intro w hSw; (try dsimp only at hSw); go_simp; first | done | with_reducible rfl)
        (try simp only [Act.put, List.setIfInBounds_toArray, List.set_cons_zero, List.set_cons_succ])
        refine Plan.stop (fun hHeld => ?_)
        refine wpAnyH_done (by decide +kernel) ?_ _
        have HM7 := Lib.hid M7.out
        have B67 : Hid (Turned b1 w w7) := (Turned.of_below B6.out HM.out.now.isM).trans T7.out
        generalize hee : putE room D (pkey u id) (packL id ex) = ee at *
        obtain ⟨z0, z1⟩ := KT.out _ T7.out
        by_cases he : ee = 0
        · subst he
          have HR3 : Hid (addF room D P u units ex now = (id, addParts u id units, 0, putD room D (pkey u id) (packL id ex))) := by show _ = _; rw [HR2.out, if_pos rfl]
          have HE7 := Lib.hid (HE6.out.turned T7.out)
          have KY : Hid (∀ W, Below w7.heap.size w7 W → W.cell? ⟨gp, 0, none⟩ = some (.int .u32 id) ∧ W.cell? ⟨gp, 1, none⟩ = some (.int .i64 ex)) := fun W hb => ⟨stays hb z0, stays hb z1⟩
          clear HR2 hee KX KT HM6 HE6 H6 hHeld z0 z1
          go_upto_region 20 with fail
          refine wp_region_held_drew (S := (fun W => W.cell? ⟨gp, 0, none⟩ = some (.int .u32 id) ∧ W.cell? ⟨gp, 1, none⟩ = some (.int .i64 ex))) (by kernel_rfl) ?_ (fun hHeld => ?_)
          · (try dsimp only)
            exact KY.out _ ((Below.refl _ _).drew)
          refine Plan.start (plan := [0, 1, 2, 3, 4, 6, 8, 9, 12, 13]) (fuel := 9) (by decide +kernel) (by assumption) ?_
          refine Plan.free (i := 0) (ds := some 93) (v := ?_) rfl rfl rfl ?_ (fun _ _ _ h => h) ?_
          rotate_left
          · (intro w hSw; (try dsimp only at hSw); go_simp; first | done | with_reducible rfl)
          (try simp only [Act.put, List.setIfInBounds_toArray, List.set_cons_zero, List.set_cons_succ])
          refine Plan.free (i := 1) (ds := some 94) (v := ?_) rfl rfl rfl ?_ (fun _ _ _ h => h) ?_
          rotate_left
          · (intro w hSw; (try dsimp only at hSw); go_simp; first | done | with_reducible rfl)
          (try simp only [Act.put, List.setIfInBounds_toArray, List.set_cons_zero, List.set_cons_succ])
          refine Plan.free (i := 2) (ds := some 95) (v := ?_) rfl rfl rfl ?_ (fun _ _ _ h => h) ?_
          rotate_left
          · (intro w hSw; (try dsimp only at hSw); go_simp; first | done | with_reducible rfl)
          (try simp only [Act.put, List.setIfInBounds_toArray, List.set_cons_zero, List.set_cons_succ])
          refine Plan.free (i := 3) (ds := some 96) (v := ?_) rfl rfl rfl ?_ (fun _ _ _ h => h) ?_
          rotate_left
          · (intro w hSw; (try dsimp only at hSw); go_simp; first | done | with_reducible rfl)
          (try simp only [Act.put, List.setIfInBounds_toArray, List.set_cons_zero, List.set_cons_succ])
          refine Plan.free (i := 4) (ds := some 97) (v := ?_) rfl rfl rfl ?_ (fun _ _ _ h => h) ?_
          rotate_left
          · (intro w hSw; (try dsimp only at hSw); go_simp; first | done | with_reducible rfl)
          (try simp only [Act.put, List.setIfInBounds_toArray, List.set_cons_zero, List.set_cons_succ])
          refine Plan.free (i := 6) (ds := some 99) (v := ?_) rfl rfl rfl ?_ (fun _ _ _ h => h) ?_
          rotate_left
          · (intro w hSw; (try dsimp only at hSw); go_simp; first | done | with_reducible rfl)
          (try simp only [Act.put, List.setIfInBounds_toArray, List.set_cons_zero, List.set_cons_succ])
          refine Plan.free (i := 8) (ds := some 101) (v := ?_) rfl rfl rfl ?_ (fun _ _ _ h => h) ?_
          rotate_left
          · (intro w hSw; (try dsimp only at hSw); go_simp; first | done | with_reducible rfl)
          (try simp only [Act.put, List.setIfInBounds_toArray, List.set_cons_zero, List.set_cons_succ])
          refine Plan.free (i := 9) (ds := some 102) (v := ?_) rfl rfl rfl ?_ (fun _ _ _ h => h) ?_
          rotate_left
          · (intro w hSw; (try dsimp only at hSw); go_simp; first | done | with_reducible rfl)
          (try simp only [Act.put, List.setIfInBounds_toArray, List.set_cons_zero, List.set_cons_succ])
          refine Plan.free (i := 12) (ds := some 105) (v := ?_) rfl rfl rfl ?_ (fun _ _ _ h => h) ?_
          rotate_left
          · (intro w hSw; (try dsimp only at hSw); go_simp; first | done | with_reducible rfl)
          (try simp only [Act.put, List.setIfInBounds_toArray, List.set_cons_zero, List.set_cons_succ])
          refine Plan.free (i := 13) (ds := some 106) (v := ?_) rfl rfl rfl ?_ (fun _ _ _ h => h) ?_
          rotate_left
          · (intro w hSw; (try dsimp only at hSw); go_simp; first | done | with_reducible rfl)
          (try simp only [Act.put, List.setIfInBounds_toArray, List.set_cons_zero, List.set_cons_succ])
          refine Plan.stop (fun hHeld => ?_)
          refine wpAnyH_ready (rs := [5, 10]) (by decide +kernel) (by simp) ?_
          refine AllReadyH.cons (o := _) rfl ?_ ?_
          · intro K hK
            rw [if_pos (wanted_none (by rfl))]
            (go_simp; go_at_call 16; refine (account_any u id _ (pow_below HE7.out.pow ((Below.refl _ _).drew)) ⟨by omega, by omega⟩ ⟨by omega, by omega⟩).mono ?_; rintro e Uf ⟨rfl, hb⟩; have BUf : Hid (Below w7.heap.size w7 Uf) := onward hb ((Below.refl _ _).drew); have X5 := Lib.hid hb; clear hb)
            refine hK.out _ _ ?_ (fun hHeld => ?_)
            · (try dsimp only)
              exact KY.out _ BUf.out
            clear hK K
            (try simp only [Act.put, List.setIfInBounds_toArray, List.set_cons_zero, List.set_cons_succ])
            refine Plan.start (plan := [7]) (fuel := 7) (by decide +kernel) (by assumption) ?_
            refine Plan.free (i := 7) (ds := some 100) (v := ?_) rfl rfl rfl ?_ (fun _ _ _ h => h) ?_
            rotate_left
            · (intro w hSw; (try dsimp only at hSw); go_simp; first | done | with_reducible rfl)
            (try simp only [Act.put, List.setIfInBounds_toArray, List.set_cons_zero, List.set_cons_succ])
            refine Plan.stop (fun hHeld => ?_)
            refine wpAnyH_ready (rs := [10]) (by decide +kernel) (by simp) ?_
            refine AllReadyH.cons (o := _) rfl ?_ AllReadyH.nil
            intro K hK
            rw [if_pos (wanted_none (by rfl))]
            (go_simp; obtain ⟨Ufk, h6⟩ : ∃ W, W = Uf.alloc (.cells #[.int .i64 u] 2) := ⟨_, rfl⟩; rw [← h6]; have hb : Below Uf.heap.size Uf Ufk := (by rw [h6]; exact below_alloc _ _); have h7 : Ufk.heap[Uf.heap.size]? = some (.cells #[.int .i64 u] 2 (0, 0)) := (by rw [h6]; exact alloc_block _ _ _ _); have H10 := Lib.hid h7; have BUfk : Hid (Below w7.heap.size w7 Ufk) := onward hb BUf.out; clear hb h6 h7)
            refine hK.out _ _ ?_ (fun hHeld => ?_)
            · (try dsimp only)
              exact KY.out _ BUfk.out
            clear hK K
            (try simp only [Act.put, List.setIfInBounds_toArray, List.set_cons_zero, List.set_cons_succ])
            refine wpAnyH_ready (rs := [11]) (by decide +kernel) (by simp) ?_
            refine AllReadyH.cons (o := _) rfl ?_ AllReadyH.nil
            intro K hK
            rw [if_pos (wanted_none (by rfl))]
            (go_simp; go_at_call 20; refine (name_any wSold _ [(u : Int)] _ (pow_below HE7.out.pow BUfk.out) (ints_one H10.out) (fun n hn => by simp at hn; subst hn; unfold Acct.inInt; omega) (by simp) (by decide)).mono ?_; rintro e Ufkl ⟨rfl, hb⟩; have BUfkl : Hid (Below w7.heap.size w7 Ufkl) := onward hb BUfk.out; clear hb)
            refine hK.out _ _ ?_ (fun hHeld => ?_)
            · (try dsimp only)
              exact KY.out _ BUfkl.out
            clear hK K
            (try simp only [Act.put, List.setIfInBounds_toArray, List.set_cons_zero, List.set_cons_succ])
            refine Plan.start (plan := [14, 16]) (fuel := 3) (by decide +kernel) (by assumption) ?_
            refine Plan.free (i := 14) (ds := some 107) (v := ?_) rfl rfl rfl ?_ (fun _ _ _ h => h) ?_
            rotate_left
            · (intro w hSw; (try dsimp only at hSw); go_simp; first | done | with_reducible rfl)
            (try simp only [Act.put, List.setIfInBounds_toArray, List.set_cons_zero, List.set_cons_succ])
            refine Plan.free (i := 16) (ds := some 10) (v := ?_) rfl rfl rfl ?_ (fun _ _ _ h => h) ?_
            rotate_left
            · (intro w hSw; (try dsimp only at hSw); go_simp; first | done | with_reducible rfl)
            (try simp only [Act.put, List.setIfInBounds_toArray, List.set_cons_zero, List.set_cons_succ])
            refine Plan.stop (fun hHeld => ?_)
            refine wpAnyH_ready (rs := [15]) (by decide +kernel) (by simp) ?_
            refine AllReadyH.cons (o := _) rfl ?_ AllReadyH.nil
            intro K hK
            rw [if_pos (wanted_none (by rfl))]
            (go_simp; obtain ⟨Ufklp, h6⟩ : ∃ W, W = Ufkl.alloc (.cells #[.string (Acct.nameB wPack [(u : Int), (id : Int)]), .int .i64 units, .string (Acct.nameB wSold [(u : Int)]), .int .i64 (-units)] 30) := ⟨_, rfl⟩; rw [← h6]; have hb : Below Ufkl.heap.size Ufkl Ufklp := (by rw [h6]; exact below_alloc _ _); have h7 : Ufklp.heap[Ufkl.heap.size]? = some (.cells #[.string (Acct.nameB wPack [(u : Int), (id : Int)]), .int .i64 units, .string (Acct.nameB wSold [(u : Int)]), .int .i64 (-units)] 30 (0, 0)) := (by rw [h6]; exact alloc_block _ _ _ _); have H15 := Lib.hid h7; have BUfklp : Hid (Below w7.heap.size w7 Ufklp) := onward hb BUfkl.out; clear hb h6 h7)
            refine hK.out _ _ ?_ (fun hHeld => ?_)
            · (try dsimp only)
              exact KY.out _ BUfklp.out
            clear hK K
            (try simp only [Act.put, List.setIfInBounds_toArray, List.set_cons_zero, List.set_cons_succ])
            refine Plan.start (plan := [17, 18]) (fuel := 0) (by decide +kernel) (by assumption) ?_
            refine Plan.free (i := 17) (ds := some 11) (v := ?_) rfl rfl rfl ?_ (fun _ _ _ h => h) ?_
            rotate_left
            · (intro w hSw; (try dsimp only at hSw); go_simp; first | done | with_reducible rfl)
            (try simp only [Act.put, List.setIfInBounds_toArray, List.set_cons_zero, List.set_cons_succ])
            refine Plan.free (i := 18) (ds := some 12) (v := ?_) rfl rfl rfl ?_ (fun _ _ _ h => h) ?_
            rotate_left
            · (intro w hSw; (try dsimp only at hSw); go_simp; first | done | with_reducible rfl)
            (try simp only [Act.put, List.setIfInBounds_toArray, List.set_cons_zero, List.set_cons_succ])
            refine Plan.stop (fun hHeld => ?_)
            refine wpAnyH_done (by decide +kernel) ?_ _
            go_wp2_with fail
            go_ret3
            unfold AddEnd
            rw [HR3.out]
            exact ⟨_, rfl, rows2P H15.out, M7.out.below BUfklp.out, B67.out.trans (Turned.of_below BUfklp.out M7.out.now.isM)⟩
          refine AllReadyH.cons (o := _) rfl ?_ ?_
          · intro K hK
            rw [if_pos (wanted_none (by rfl))]
            (go_simp; obtain ⟨Uk, h6⟩ : ∃ W, W = (w7.alloc (.cells #[.int .i64 u] 2)).drew := ⟨_, rfl⟩; rw [← h6]; have hb : Below w7.heap.size w7 Uk := (by rw [h6]; exact (below_alloc _ _).drew); have h7 : Uk.heap[w7.heap.size]? = some (.cells #[.int .i64 u] 2 (0, 0)) := (by rw [h6]; exact alloc_block _ _ _ _); have H10 := Lib.hid h7; have BUk : Hid (Below w7.heap.size w7 Uk) := hb; clear hb h6 h7)
            refine hK.out _ _ ?_ (fun hHeld => ?_)
            · (try dsimp only)
              exact KY.out _ BUk.out
            clear hK K
            (try simp only [Act.put, List.setIfInBounds_toArray, List.set_cons_zero, List.set_cons_succ])
            refine wpAnyH_ready (rs := [5]) (by decide +kernel) (by simp) ?_
            refine AllReadyH.cons (o := _) rfl ?_ AllReadyH.nil
            intro K hK
            rw [if_pos (wanted_none (by rfl))]
            (go_simp; go_at_call 16; refine (account_any u id _ (pow_below HE7.out.pow BUk.out) ⟨by omega, by omega⟩ ⟨by omega, by omega⟩).mono ?_; rintro e Ukf ⟨rfl, hb⟩; have BUkf : Hid (Below w7.heap.size w7 Ukf) := onward hb BUk.out; have X5 := Lib.hid hb; clear hb)
            refine hK.out _ _ ?_ (fun hHeld => ?_)
            · (try dsimp only)
              exact KY.out _ BUkf.out
            clear hK K
            (try simp only [Act.put, List.setIfInBounds_toArray, List.set_cons_zero, List.set_cons_succ])
            refine Plan.start (plan := [7]) (fuel := 6) (by decide +kernel) (by assumption) ?_
            refine Plan.free (i := 7) (ds := some 100) (v := ?_) rfl rfl rfl ?_ (fun _ _ _ h => h) ?_
            rotate_left
            · (intro w hSw; (try dsimp only at hSw); go_simp; first | done | with_reducible rfl)
            (try simp only [Act.put, List.setIfInBounds_toArray, List.set_cons_zero, List.set_cons_succ])
            refine Plan.stop (fun hHeld => ?_)
            refine wpAnyH_ready (rs := [11]) (by decide +kernel) (by simp) ?_
            refine AllReadyH.cons (o := _) rfl ?_ AllReadyH.nil
            intro K hK
            rw [if_pos (wanted_none (by rfl))]
            (go_simp; go_at_call 20; refine (name_any wSold _ [(u : Int)] _ (pow_below HE7.out.pow BUkf.out) (ints_one (stays_block X5.out H10.out)) (fun n hn => by simp at hn; subst hn; unfold Acct.inInt; omega) (by simp) (by decide)).mono ?_; rintro e Ukfl ⟨rfl, hb⟩; have BUkfl : Hid (Below w7.heap.size w7 Ukfl) := onward hb BUkf.out; clear hb)
            refine hK.out _ _ ?_ (fun hHeld => ?_)
            · (try dsimp only)
              exact KY.out _ BUkfl.out
            clear hK K
            (try simp only [Act.put, List.setIfInBounds_toArray, List.set_cons_zero, List.set_cons_succ])
            refine Plan.start (plan := [14, 16]) (fuel := 3) (by decide +kernel) (by assumption) ?_
            refine Plan.free (i := 14) (ds := some 107) (v := ?_) rfl rfl rfl ?_ (fun _ _ _ h => h) ?_
            rotate_left
            · (intro w hSw; (try dsimp only at hSw); go_simp; first | done | with_reducible rfl)
            (try simp only [Act.put, List.setIfInBounds_toArray, List.set_cons_zero, List.set_cons_succ])
            refine Plan.free (i := 16) (ds := some 10) (v := ?_) rfl rfl rfl ?_ (fun _ _ _ h => h) ?_
            rotate_left
            · (intro w hSw; (try dsimp only at hSw); go_simp; first | done | with_reducible rfl)
            (try simp only [Act.put, List.setIfInBounds_toArray, List.set_cons_zero, List.set_cons_succ])
            refine Plan.stop (fun hHeld => ?_)
            refine wpAnyH_ready (rs := [15]) (by decide +kernel) (by simp) ?_
            refine AllReadyH.cons (o := _) rfl ?_ AllReadyH.nil
            intro K hK
            rw [if_pos (wanted_none (by rfl))]
            (go_simp; obtain ⟨Ukflp, h6⟩ : ∃ W, W = Ukfl.alloc (.cells #[.string (Acct.nameB wPack [(u : Int), (id : Int)]), .int .i64 units, .string (Acct.nameB wSold [(u : Int)]), .int .i64 (-units)] 30) := ⟨_, rfl⟩; rw [← h6]; have hb : Below Ukfl.heap.size Ukfl Ukflp := (by rw [h6]; exact below_alloc _ _); have h7 : Ukflp.heap[Ukfl.heap.size]? = some (.cells #[.string (Acct.nameB wPack [(u : Int), (id : Int)]), .int .i64 units, .string (Acct.nameB wSold [(u : Int)]), .int .i64 (-units)] 30 (0, 0)) := (by rw [h6]; exact alloc_block _ _ _ _); have H15 := Lib.hid h7; have BUkflp : Hid (Below w7.heap.size w7 Ukflp) := onward hb BUkfl.out; clear hb h6 h7)
            refine hK.out _ _ ?_ (fun hHeld => ?_)
            · (try dsimp only)
              exact KY.out _ BUkflp.out
            clear hK K
            (try simp only [Act.put, List.setIfInBounds_toArray, List.set_cons_zero, List.set_cons_succ])
            refine Plan.start (plan := [17, 18]) (fuel := 0) (by decide +kernel) (by assumption) ?_
            refine Plan.free (i := 17) (ds := some 11) (v := ?_) rfl rfl rfl ?_ (fun _ _ _ h => h) ?_
            rotate_left
            · (intro w hSw; (try dsimp only at hSw); go_simp; first | done | with_reducible rfl)
            (try simp only [Act.put, List.setIfInBounds_toArray, List.set_cons_zero, List.set_cons_succ])
            refine Plan.free (i := 18) (ds := some 12) (v := ?_) rfl rfl rfl ?_ (fun _ _ _ h => h) ?_
            rotate_left
            · (intro w hSw; (try dsimp only at hSw); go_simp; first | done | with_reducible rfl)
            (try simp only [Act.put, List.setIfInBounds_toArray, List.set_cons_zero, List.set_cons_succ])
            refine Plan.stop (fun hHeld => ?_)
            refine wpAnyH_done (by decide +kernel) ?_ _
            go_wp2_with fail
            go_ret3
            unfold AddEnd
            rw [HR3.out]
            exact ⟨_, rfl, rows2P H15.out, M7.out.below BUkflp.out, B67.out.trans (Turned.of_below BUkflp.out M7.out.now.isM)⟩
          exact AllReadyH.nil
        · have HR3 : Hid (addF room D P u units ex now = (0, [], ee, putD room D (pkey u id) (packL id ex))) := by show _ = _; rw [HR2.out, if_neg he]
          have he2 : (ee != 0) = true := by rw [bne_iff_ne]; exact he
          clear HR2 hee KX KT HM6 HE6 H6 hHeld z0 z1
          go_wp2_with fail
          go_ret3
          unfold AddEnd
          rw [HR3.out]
          exact ⟨_, rfl, rows0P _, M7.out, B67.out⟩
end Go.Proofs.YtcaihncnmjegoaaGreatDoor

