/- The walk of the reference's Post. (Printed by gen_jxc.py.) -/
import Derived.Test.YtecbnhmnhcpcmaaGreatDoorPkJournalPlays39
import Derived.Test.YtecbnhmnhcpcmaaGreatDoorPkJournalPlays41
/-! The walk of the reference's Post. (Printed by gen_jxc.py.) -/
namespace Go.Proofs.YtecbnhmnhcpcmaaGreatDoor
open Go.RowKit Go.WideMaps Go.Maps
set_option linter.unusedVariables false
set_option linter.unusedSimpArgs false
set_option maxRecDepth 100000
/-- beyond the bounds, by the list of postings -/
noncomputable def roverB (RL : List Po) (q : Pt) : Bool := decide ((sumE [wrap64 (ram RL q.a), q.n]).2 ≠ 0 ∨ (sumE [wrap64 (ram RL q.a), q.n]).1 < -4611686018427387904 ∨ 4611686018427387904 < (sumE [wrap64 (ram RL q.a), q.n]).1)
noncomputable def rpE (RL : List Po) (t : Int) (L : List Pt) : Int := if mayR17 t L = false then 1 else if (evenB allP L && evenB unitP L) = false then 32 else if L.any (roverB RL) = true then 30 else 0
theorem rpE_1 {RL : List Po} {t : Int} {L : List Pt} (h : mayR17 t L = false) : rpE RL t L = 1 := by unfold rpE; rw [if_pos h]
theorem rpE_32 {RL : List Po} {t : Int} {L : List Pt} (h : mayR17 t L = true) (h2 : (evenB allP L && evenB unitP L) = false) : rpE RL t L = 32 := by unfold rpE; rw [if_neg (by rw [h]; decide), if_pos h2]
theorem rpE_30 {RL : List Po} {t : Int} {L : List Pt} (h : mayR17 t L = true) (h2 : (evenB allP L && evenB unitP L) = true) {k : Nat} {q : Pt} (hq : L[k]? = some q) (ho : roverB RL q = true) : rpE RL t L = 30 := by
  unfold rpE
  rw [if_neg (by rw [h]; decide), if_neg (by rw [h2]; decide), if_pos (List.any_eq_true.2 ⟨q, List.mem_of_getElem? hq, ho⟩)]
theorem rpE_0 {RL : List Po} {t : Int} {L : List Pt} (h : mayR17 t L = true) (h2 : (evenB allP L && evenB unitP L) = true) (ho : ∀ q ∈ L, roverB RL q = false) : rpE RL t L = 0 := by
  unfold rpE
  rw [if_neg (by rw [h]; decide), if_neg (by rw [h2]; decide), if_neg (by simpa using ho)]
theorem inI_wrap (x : Int) : Acct.inInt (wrap64 x) := by unfold Acct.inInt wrap64; omega
def RPost (B jp : Nat) (RL : List Po) (E t : Int) (ten : Nat) (L : List Pt) (w : World) (e : Ending) (w' : World) : Prop :=
  ∃ rv' RL', e = .returned (.tuple #[.int .u64 (if E = 0 then ((RL.length : Int) + 1) else 0), .int .i64 E]) ∧ (E ≠ 0 → RL' = RL) ∧ (E = 0 → ∃ lv', RL' = RL ++ [⟨RL.length + 1, t, ten, L, lv'⟩]) ∧ JR B w' jp rv' RL' ∧ Beside B w w'
theorem RPost.no {B jp : Nat} {RL : List Po} {E t : Int} {ten : Nat} {L : List Pt} {w w' : World} {e : Ending} {rv : Value} (hR : JR B w jp rv RL) (hE : E ≠ 0) (he : e = .returned (.tuple #[.int .u64 0, .int .i64 E])) (hb : Below w.heap.size w w') : RPost B jp RL E t ten L w e w' :=
  ⟨rv, RL, by rw [if_neg hE]; exact he, fun _ => rfl, fun h => absurd h hE, hR.below hb, .of_below hb⟩
theorem infoPo : (Tryz.prog.info? 49).map (fun i => (i.zero, i.size, i.bytes)) = some (some (.agg #[.int .u64 0, .int .i64 0, .int .u32 0, .slice none 0 0]), 4, 48) := by kernel_rfl
/-- what the last append and the store give -/
theorem jr_grow {B jp s ten : Nat} {t : Int} {L : List Pt} {lv rv v' : Value} {RL : List Po} {w w' : World} (hR : JR B w jp rv RL) (hP : OwnP w B lv L) (hs : s = RL.length + 1) (hown : w'.ownsRow B 49 4 v' (RL.length + 1) ((RL.map Po.cells).flatten ++ [.int .u64 s, .int .i64 t, .int .u32 ten, lv])) (hg : w.grownBy w' rv.ownBlock) :
    JR B (w'.setCell ⟨jp, 0, none⟩ v') jp v' (RL ++ [⟨s, t, ten, L, lv⟩]) ∧ Beside B w (w'.setCell ⟨jp, 0, none⟩ v') := by
  have bs := Beside.grown hg hR.list
  have hbox : w'.heap[jp]? = some (.cells #[rv] 30 (0, 0)) := (hg.block jp (lt_of_block hR.box) (fun e => by
    obtain ⟨_, cs, h⟩ := post_block hR.list e.symm
    rw [hR.box] at h; injection h with h; injection h with _ h _; exact absurd h (by decide))).trans hR.box
  have bset := Beside.set (j := 0) hbox hR.lt v'
  have hne : ∀ (T n size : Nat) (v : Value) (xs : List Value), T ≠ 30 → w'.ownsRow B T size v n xs → v.ownBlock ≠ some jp := fun T n size v xs hT ho e => by
    obtain ⟨_, ⟨rfl, _⟩ | ⟨g, cap, cur, rfl, h2, h3, _⟩⟩ := ho
    · cases e
    · injection e with e
      have e' : g = jp := e
      subst e'
      rw [hbox] at h3; injection h3 with h3; injection h3 with _ h3 _; exact hT h3.symm
  refine ⟨⟨by have h := set_cells (k := 0) (u := v') hbox; exact h, ?_, ?_, hR.lt, ?_⟩, bs.trans bset⟩
  · rw [List.length_append, List.map_append, List.flatten_append]
    exact ownsRow_setCell_other (by simpa [Po.cells] using hown) (hne _ _ _ _ _ (by decide) hown) _
  · intro p hp
    rcases List.mem_append.1 hp with h | h
    · exact bset.own (by decide) (by decide) (bs.own (by decide) (by decide) (hR.parts p h))
    · simp at h
      subst h
      exact bset.own (by decide) (by decide) (bs.own (by decide) (by decide) hP)
  · intro i p hp
    rcases Nat.lt_trichotomy i RL.length with h | h | h
    · rw [List.getElem?_append_left h] at hp
      exact hR.seqs i p hp
    · rw [h, List.getElem?_append_right (Nat.le_refl _)] at hp
      simp at hp
      subst hp
      rw [h]; exact hs
    · rw [List.getElem?_eq_none (by simp; omega)] at hp
      cases hp
theorem wr_ui {n : Nat} (h : n ≤ 100) : IntKind.u64.wrap (IntKind.i64.wrap ((n : Int) + 1)) = (n : Int) + 1 := by
  have e : ∀ z : Int, IntKind.u64.wrap z = z % 18446744073709551616 := fun _ => rfl
  have e2 : ∀ z : Int, -9223372036854775808 ≤ z → z ≤ 9223372036854775807 → IntKind.i64.wrap z = z := fun z h1 h2 => by simp [IntKind.wrap, IntKind.bits, IntKind.signed]; omega
  rw [e2 _ (by omega) (by omega), e]
  omega
theorem onePo (s : Int) (t : Int) (ten : Nat) (a : Option Addr) (n c : Nat) : ∀ u : Value, u ∈ [Value.int .u64 s, .int .i64 t, .int .u32 ten, .slice a n c] → u.oneCell' = true := by
  intro u hu
  simp at hu
  rcases hu with rfl | rfl | rfl | rfl <;> rfl
/-- what a grown list leaves as it was: the box, a posting in a block of its own -/
theorem grow_keeps {B jp pp : Nat} {rv : Value} {RL : List Po} {w w' : World} {cs : Array Value} (hg : w.grownBy w' rv.ownBlock) (hR : JR B w jp rv RL) (hp : w.heap[pp]? = some (.cells cs 49 (0, 0))) (hne : rv.ownBlock ≠ some pp) :
    w'.heap[jp]? = some (.cells #[rv] 30 (0, 0)) ∧ w'.heap[pp]? = some (.cells cs 49 (0, 0)) :=
  ⟨(hg.block jp (lt_of_block hR.box) (fun e => by
    obtain ⟨_, cs, h⟩ := post_block hR.list e.symm
    rw [hR.box] at h; injection h with h; injection h with _ h _; exact absurd h (by decide))).trans hR.box, (hg.block pp (lt_of_block hp) fun e => hne e.symm).trans hp⟩
theorem po_facts {W : World} {jp pp n c : Nat} {ra a11 : Option Addr} {rc : Nat} {m : Nat} {s t : Int} {ten : Nat} (h1 : W.heap[jp]? = some (.cells #[.slice ra m rc] 30 (0, 0))) (h2 : W.heap[pp]? = some (.cells #[.int .u64 s, .int .i64 t, .int .u32 ten, .slice a11 n c] 49 (0, 0))) :
    W.cell? ⟨jp, 0, none⟩ = some (.slice ra m rc) ∧ W.cell? ⟨pp, 0, none⟩ = some (.int .u64 s) ∧ W.cell? ⟨pp, 1, none⟩ = some (.int .i64 t) ∧ W.cell? ⟨pp, 2, none⟩ = some (.int .u32 ten) ∧ W.cell? ⟨pp, 3, none⟩ = some (.slice a11 n c) :=
  ⟨by rw [cell_of_row h1]; rfl, by rw [cell_of_row h2]; rfl, by rw [cell_of_row h2]; rfl, by rw [cell_of_row h2]; rfl, by rw [cell_of_row h2]; rfl⟩
theorem RPost.yes {B jp ten : Nat} {RL : List Po} {t : Int} {L : List Pt} {w w' : World} {e : Ending} {rv lv : Value} (he : e = .returned (.tuple #[.int .u64 ((RL.length : Int) + 1), .int .i64 0])) (hR : JR B w' jp rv (RL ++ [⟨RL.length + 1, t, ten, L, lv⟩])) (hb : Beside B w w') : RPost B jp RL 0 t ten L w e w' :=
  ⟨rv, _, by rw [if_pos rfl]; exact he, fun h => absurd rfl h, fun _ => ⟨lv, rfl⟩, hR, hb⟩
set_option maxHeartbeats 4000000 in
theorem rpost_any {B jp : Nat} {rv : Value} {RL : List Po} (t : Int) (ten : Nat) (lv : Value) (L : List Pt) (w : World) (hR : JR B w jp rv RL) (hn : RL.length ≤ 100) (hq : ∀ p ∈ RL, p.ps.length ≤ 40) (hl : RowsIn w lv 2 (L.map Pt.cells)) (h40 : L.length ≤ 40) (hs : ∀ q ∈ L, q.a.size ≤ 100 ∧ Acct.inInt q.n) :
    Calls Tryz.prog 11 #[.pointer (some ⟨jp, 0, none⟩), .int .i64 t, .int .u32 ten, lv] w (RPost B jp RL (rpE RL t L) t ten L w) := by
  have HR := Lib.hid hR
  have HL := Lib.hid hl
  have HS := Lib.hid hs
  have MX := Lib.hid (rmay_any t lv L w hl h40 (fun q hq => (hs q hq).1))
  have EX := Lib.hid (fun (W : World) (hb : Below w.heap.size w W) => reven_any lv L W (hl.below hb) h40 hs)
  have BX := Lib.hid (fun (s : ByteArray) (W : World) (hb : Below w.heap.size w W) => rbal_any s W (hR.below hb) hn hq)
  have HM2 : Hid (mayR17 t L = true → 2 ≤ L.length) := fun h => by
    rcases Nat.lt_or_ge L.length 2 with h2 | h2
    · rw [mayR_short h2] at h; cases h
    · exact h2
  have H1 := Lib.hid (rpE_1 (RL := RL) (t := t) (L := L))
  have H32 := Lib.hid (rpE_32 (RL := RL) (t := t) (L := L))
  have H30 := Lib.hid (fun h h2 (k : Nat) (q : Pt) => rpE_30 (RL := RL) (t := t) (L := L) h h2 (k := k) (q := q))
  have H0 := Lib.hid (rpE_0 (RL := RL) (t := t) (L := L))
  obtain ⟨E, hE⟩ : ∃ E, E = rpE RL t L := ⟨_, rfl⟩
  rw [← hE] at H1 H32 H30 H0 ⊢
  clear hE
  obtain ⟨a, c, rfl⟩ := pt_form hl
  clear hl hs hR hq
  go_enter Tryz.func11, Tryz.ntmps11
  go_wp2_with fail
  refine MX.out.mono ?_
  rintro e w1 ⟨rfl, hb⟩
  have B1 := Lib.hid hb
  clear hb MX
  cases hm : mayR17 t L
  · obtain rfl := H1.out hm
    clear hm
    go_wp2_with fail
    go_ret2
    exact RPost.no HR.out (by decide) rfl B1.out
  have HM := Lib.hid hm
  have H2 := Lib.hid (HM2.out hm)
  clear hm HM2
  go_wp2_with fail
  refine (EX.out _ B1.out).mono ?_
  rintro e w2 ⟨rfl, hb⟩
  have B2 := Lib.hid (onward hb B1.out)
  clear hb EX
  cases hev : (evenB allP L && evenB unitP L)
  · obtain rfl := H32.out HM.out hev
    clear hev
    go_wp2_with fail
    go_ret2
    exact RPost.no HR.out (by decide) rfl B2.out
  have HEV := Lib.hid hev
  clear hev
  go_wp2_with fail
  go_loopw [10, 11, 12] (fun iv bv ev wr => ∃ k : Nat, k ≤ L.length ∧ iv = .int .i64 k ∧ Hid (∀ q ∈ L.take k, roverB RL q = false) ∧ Hid (Below w.heap.size w wr)) (fun iv _ _ _ => L.length - (intOf iv).toNat)
  case atStart => exact ⟨0, by omega, rfl, fun q hq => by simp at hq, B2.out⟩
  case round =>
    obtain ⟨k, hk, rfl, OR, BR⟩ := hrel
    by_cases hkl : k < L.length
    · have hzk : (k : Int) < (L.length : Int) := by omega
      obtain ⟨g, o, rfl, x0, x1⟩ := pt_cells (HL.out.below BR.out) k hkl
      have hsk := HS.out L[k] (List.getElem_mem hkl)
      have HQ : Hid (L[k]? = some L[k]) := List.getElem?_eq_getElem hkl
      have HRV : Hid (roverB RL L[k] = decide ((sumE [wrap64 (ram RL L[k].a), L[k].n]).2 ≠ 0 ∨ (sumE [wrap64 (ram RL L[k].a), L[k].n]).1 < -4611686018427387904 ∨ 4611686018427387904 < (sumE [wrap64 (ram RL L[k].a), L[k].n]).1)) := rfl
      have HTK : Hid (roverB RL L[k] = false → ∀ q ∈ L.take (k + 1), roverB RL q = false) := fun h q hq => by
        rw [take_snoc (List.getElem?_eq_getElem hkl)] at hq
        rcases List.mem_append.1 hq with h1 | h1
        · exact OR.out q h1
        · simp at h1; subst h1; exact h
      have HOV : Hid (roverB RL L[k] = true → E = 30) := fun h => H30.out HM.out HEV.out k _ (List.getElem?_eq_getElem hkl) h
      generalize roverB RL L[k] = ob at HRV HTK HOV
      generalize L[k] = q at *
      obtain ⟨s, n⟩ := q
      dsimp only at x0 x1 hsk HRV
      have BXS := Lib.hid (fun (W : World) (hb : Below wr.heap.size wr W) => BX.out s W (onward hb BR.out))
      have SX := Lib.hid (fun (v : Value) (W : World) (hI : IntsAt W v [wrap64 (ram RL s), n]) => rsum_any v [wrap64 (ram RL s), n] W hI (by simp) (fun x hx => by simp at hx; rcases hx with rfl | rfl; exact inI_wrap _; exact hsk.2))
      have KX : Hid (∀ W, Below wr.heap.size wr W → W.cell? ⟨g, o + k * 2, none⟩ = some (.string s) ∧ W.cell? ⟨g, o + k * 2 + 1, none⟩ = some (.int .i64 n)) := by
        have q0 := x0
        have q1 := x1
        exact fun W hb => ⟨stays hb q0, stays hb q1⟩
      generalize wrap64 (ram RL s) = b at *
      generalize sumE [b, n] = r at *
      obtain ⟨r1, r2⟩ := r
      dsimp only at HRV SX
      clear x0 x1 hsk
      go_upto_region 8 with fail
      refine wp_region_held_drew (S := (fun W => W.cell? ⟨g, o + k * 2, none⟩ = some (.string s) ∧ W.cell? ⟨g, o + k * 2 + 1, none⟩ = some (.int .i64 n))) (by kernel_rfl) ?_ (fun hHeld => ?_)
      · (try dsimp only)
        exact KX.out _ ((Below.refl _ _).drew)
      refine Plan.start (plan := [0, 1, 2, 3, 4, 5, 7, 8, 9, 10, 11]) (fuel := 8) (by decide +kernel) (by assumption) ?_
      refine Plan.free (i := 0) (ds := some 28) (v := ?_) rfl rfl rfl ?_ (fun _ _ _ h => h) ?_
      rotate_left
      · (intro w hSw; (try dsimp only at hSw); go_simp; first | done | with_reducible rfl)
      (try simp only [Act.put, List.setIfInBounds_toArray, List.set_cons_zero, List.set_cons_succ])
      refine Plan.free (i := 1) (ds := some 29) (v := ?_) rfl rfl rfl ?_ (fun _ _ _ h => h) ?_
      rotate_left
      · (intro w hSw; (try dsimp only at hSw); go_simp; first | done | with_reducible rfl)
      (try simp only [Act.put, List.setIfInBounds_toArray, List.set_cons_zero, List.set_cons_succ])
      refine Plan.free (i := 2) (ds := some 30) (v := ?_) rfl rfl rfl ?_ (fun _ _ _ h => h) ?_
      rotate_left
      · (intro w hSw; (try dsimp only at hSw); go_simp; first | done | with_reducible rfl)
      (try simp only [Act.put, List.setIfInBounds_toArray, List.set_cons_zero, List.set_cons_succ])
      refine Plan.free (i := 3) (ds := some 31) (v := ?_) rfl rfl rfl ?_ (fun _ _ _ h => h) ?_
      rotate_left
      · (intro w hSw; (try dsimp only at hSw); go_simp; first | done | with_reducible rfl)
      (try simp only [Act.put, List.setIfInBounds_toArray, List.set_cons_zero, List.set_cons_succ])
      refine Plan.free (i := 4) (ds := some 32) (v := ?_) rfl rfl rfl ?_ (fun _ _ _ h => h) ?_
      rotate_left
      · (intro w hSw; (try dsimp only at hSw); go_simp; first | done | with_reducible rfl)
      (try simp only [Act.put, List.setIfInBounds_toArray, List.set_cons_zero, List.set_cons_succ])
      refine Plan.free (i := 5) (ds := some 33) (v := ?_) rfl rfl rfl ?_ (fun _ _ _ h => h) ?_
      rotate_left
      · (intro w hSw; (try dsimp only at hSw); go_simp; first | done | with_reducible rfl)
      (try simp only [Act.put, List.setIfInBounds_toArray, List.set_cons_zero, List.set_cons_succ])
      refine Plan.free (i := 7) (ds := some 35) (v := ?_) rfl rfl rfl ?_ (fun _ _ _ h => h) ?_
      rotate_left
      · (intro w hSw; (try dsimp only at hSw); go_simp; first | done | with_reducible rfl)
      (try simp only [Act.put, List.setIfInBounds_toArray, List.set_cons_zero, List.set_cons_succ])
      refine Plan.free (i := 8) (ds := some 36) (v := ?_) rfl rfl rfl ?_ (fun _ _ _ h => h) ?_
      rotate_left
      · (intro w hSw; (try dsimp only at hSw); go_simp; first | done | with_reducible rfl)
      (try simp only [Act.put, List.setIfInBounds_toArray, List.set_cons_zero, List.set_cons_succ])
      refine Plan.free (i := 9) (ds := some 37) (v := ?_) rfl rfl rfl ?_ (fun _ _ _ h => h) ?_
      rotate_left
      · (intro w hSw; (try dsimp only at hSw); go_simp; first | done | with_reducible rfl)
      (try simp only [Act.put, List.setIfInBounds_toArray, List.set_cons_zero, List.set_cons_succ])
      refine Plan.free (i := 10) (ds := some 38) (v := ?_) rfl rfl rfl ?_ (fun _ _ _ h => h) ?_
      rotate_left
      · (intro w hSw; (try dsimp only at hSw); go_simp; first | done | with_reducible rfl)
      (try simp only [Act.put, List.setIfInBounds_toArray, List.set_cons_zero, List.set_cons_succ])
      refine Plan.free (i := 11) (ds := some 39) (v := ?_) rfl rfl rfl ?_ (fun _ _ _ h => h) ?_
      rotate_left
      · (intro w hSw; (try dsimp only at hSw); go_simp; first | done | with_reducible rfl)
      (try simp only [Act.put, List.setIfInBounds_toArray, List.set_cons_zero, List.set_cons_succ])
      refine Plan.stop (fun hHeld => ?_)
      refine wpAnyH_ready (rs := [6]) (by decide +kernel) (by simp) ?_
      refine AllReadyH.cons (o := _) rfl ?_ AllReadyH.nil
      intro K hK
      rw [if_pos (wanted_none (by rfl))]
      (go_simp; go_at_call 14; refine (BXS.out _ ((Below.refl _ _).drew)).mono ?_; rintro e W6 ⟨rfl, hb⟩; have B6 : Hid (Below wr.heap.size wr W6) := onward hb ((Below.refl _ _).drew); clear hb)
      refine hK.out _ _ ?_ (fun hHeld => ?_)
      · (try dsimp only)
        exact KX.out _ B6.out
      clear hK K
      (try simp only [Act.put, List.setIfInBounds_toArray, List.set_cons_zero, List.set_cons_succ])
      refine wpAnyH_ready (rs := [12]) (by decide +kernel) (by simp) ?_
      refine AllReadyH.cons (o := _) rfl ?_ AllReadyH.nil
      intro K hK
      rw [if_pos (wanted_none (by rfl))]
      (go_simp; obtain ⟨W12, h12⟩ : ∃ W, W = W6.alloc (.cells #[.int .i64 b, .int .i64 n] 2) := ⟨_, rfl⟩; rw [← h12]; have B12 : Hid (Below wr.heap.size wr W12) := (by rw [h12]; exact onward (below_alloc _ _) B6.out); have I12 : Hid (IntsAt W12 (.slice (some ⟨W6.heap.size, 0, none⟩) 2 2) [b, n]) := (by rw [h12]; exact litI2 _ _ _); clear h12)
      refine hK.out _ _ ?_ (fun hHeld => ?_)
      · (try dsimp only)
        exact KX.out _ B12.out
      clear hK K
      (try simp only [Act.put, List.setIfInBounds_toArray, List.set_cons_zero, List.set_cons_succ])
      refine wpAnyH_ready (rs := [13]) (by decide +kernel) (by simp) ?_
      refine AllReadyH.cons (o := _) rfl ?_ AllReadyH.nil
      intro K hK
      rw [if_pos (wanted_none (by rfl))]
      (go_simp; go_at_call 39; refine (SX.out _ _ I12.out).mono ?_; rintro e W13 ⟨rfl, hb⟩; have B13 : Hid (Below wr.heap.size wr W13) := onward hb B12.out; clear hb)
      refine hK.out _ _ ?_ (fun hHeld => ?_)
      · (try dsimp only)
        exact KX.out _ B13.out
      clear hK K
      (try simp only [Act.put, List.setIfInBounds_toArray, List.set_cons_zero, List.set_cons_succ])
      refine Plan.start (plan := [14, 15, 16, 17, 18]) (fuel := 0) (by decide +kernel) (by assumption) ?_
      refine Plan.free (i := 14) (ds := some 27) (v := ?_) rfl rfl rfl ?_ (fun _ _ _ h => h) ?_
      rotate_left
      · (intro w hSw; (try dsimp only at hSw); go_simp; first | done | with_reducible rfl)
      (try simp only [Act.put, List.setIfInBounds_toArray, List.set_cons_zero, List.set_cons_succ])
      refine Plan.free (i := 15) (ds := some 42) (v := ?_) rfl rfl rfl ?_ (fun _ _ _ h => h) ?_
      rotate_left
      · (intro w hSw; (try dsimp only at hSw); go_simp; first | done | with_reducible rfl)
      (try simp only [Act.put, List.setIfInBounds_toArray, List.set_cons_zero, List.set_cons_succ])
      refine Plan.free (i := 16) (ds := some 43) (v := ?_) rfl rfl rfl ?_ (fun _ _ _ h => h) ?_
      rotate_left
      · (intro w hSw; (try dsimp only at hSw); go_simp; first | done | with_reducible rfl)
      (try simp only [Act.put, List.setIfInBounds_toArray, List.set_cons_zero, List.set_cons_succ])
      refine Plan.free (i := 17) (ds := some 11) (v := ?_) rfl rfl rfl ?_ (fun _ _ _ h => h) ?_
      rotate_left
      · (intro w hSw; (try dsimp only at hSw); go_simp; first | done | with_reducible rfl)
      (try simp only [Act.put, List.setIfInBounds_toArray, List.set_cons_zero, List.set_cons_succ])
      refine Plan.free (i := 18) (ds := some 12) (v := ?_) rfl rfl rfl ?_ (fun _ _ _ h => h) ?_
      rotate_left
      · (intro w hSw; (try dsimp only at hSw); go_simp; first | done | with_reducible rfl)
      (try simp only [Act.put, List.setIfInBounds_toArray, List.set_cons_zero, List.set_cons_succ])
      refine Plan.stop (fun hHeld => ?_)
      refine wpAnyH_done (by decide +kernel) ?_ _
      clear SX BXS KX I12
      cases hob : ob
      · rw [hob] at HRV HTK
        have h := of_decide_eq_false HRV.out.symm
        have c1 : r2 = 0 := Decidable.not_not.1 fun h1 => h (.inl h1)
        have c2 : ¬ r1 < -4611686018427387904 := fun h1 => h (.inr (.inl h1))
        have c3 : ¬ 4611686018427387904 < r1 := fun h1 => h (.inr (.inr h1))
        have OR2 := Lib.hid (HTK.out rfl)
        subst c1
        have d2 : decide (r1 < -4611686018427387904) = false := decide_eq_false c2
        have d3 : decide (4611686018427387904 < r1) = false := decide_eq_false c3
        clear h HRV HTK HOV c2 c3
        go_wp2_with fail
        go_roundw
        case rel => exact ⟨k + 1, by omega, by go_num, OR2.out, onward B13.out BR.out⟩
        case measure => simp [intOf]; omega
      · rw [hob] at HRV
        have h := of_decide_eq_true HRV.out.symm
        obtain rfl := HOV.out hob
        clear HRV HTK HOV hob
        have fin : Hid (RPost B jp RL 30 t ten L w (.returned (.tuple #[.int .u64 0, .int .i64 30])) W13) := RPost.no HR.out (by decide) rfl (onward B13.out BR.out)
        by_cases c1 : r2 = 0
        · subst c1
          by_cases c2 : r1 < -4611686018427387904
          · have d2 : decide (r1 < -4611686018427387904) = true := decide_eq_true c2
            clear c2 h
            go_wp2_with fail
            go_ret2
            exact fin.out
          · have d2 : decide (r1 < -4611686018427387904) = false := decide_eq_false c2
            have c3 : 4611686018427387904 < r1 := by rcases h with h | h | h; exact absurd rfl h; exact absurd h c2; exact h
            have d3 : decide (4611686018427387904 < r1) = true := decide_eq_true c3
            clear c2 c3 h
            go_wp2_with fail
            go_ret2
            exact fin.out
        · clear h
          go_wp2_with fail
          go_ret2
          exact fin.out
    · obtain rfl : k = L.length := by omega
      have dk : decide ((L.length : Int) < (L.length : Int)) = false := decide_eq_false (by omega)
      have hov := OR.out
      rw [List.take_length] at hov
      obtain rfl := H0.out HM.out HEV.out hov
      clear hov
      obtain ⟨ra, rc, rfl⟩ := jown_form HR.out.list
      have J0 := Lib.hid (stays_block BR.out HR.out.box)
      have JRr := Lib.hid (HR.out.below BR.out)
      have KX : Hid (∀ W, Below wr.heap.size wr W → W.cell? ⟨jp, 0, none⟩ = some (.slice ra RL.length rc)) := fun W hb => by rw [cell_of_row (stays_block hb J0.out)]; rfl
      have HLW := Lib.hid (HL.out.below BR.out)
      have SZ : Hid (B ≤ wr.heap.size) := Nat.le_trans HR.out.lt (Nat.le_of_lt (lt_of_block J0.out))
      obtain ⟨g, o, rfl, -, -⟩ := pt_cells HLW.out 0 (by have := H2.out; omega)
      obtain ⟨i0, hi, hz0, hz1, hz2⟩ := info_parts infoPt
      obtain ⟨i1, hi', hz0', hz1', hz2'⟩ := info_parts infoPo
      go_upto_region 11 with fail
      refine UpTo.start (z := 14) (C := (fun W => W.cell? ⟨jp, 0, none⟩ = some (.slice ra RL.length rc))) (by kernel_rfl) ?_ (fun hHeld => ?_)
      · (try dsimp only)
        exact KX.out _ ((Below.refl _ _).drew)
      refine PlanZ.start (plan := [0, 1, 2, 3, 4, 5, 6, 7, 8, 10]) (fuel := 5) (by decide +kernel) (by assumption) ?_
      refine PlanZ.free (i := 0) (ds := some 54) (v := ?_) rfl rfl rfl ?_ (fun _ _ _ h => h) ?_
      rotate_left
      · (intro w hSw; (try dsimp only at hSw); go_simp; first | done | with_reducible rfl)
      (try simp only [Act.put, List.setIfInBounds_toArray, List.set_cons_zero, List.set_cons_succ])
      refine PlanZ.free (i := 1) (ds := some 55) (v := ?_) rfl rfl rfl ?_ (fun _ _ _ h => h) ?_
      rotate_left
      · (intro w hSw; (try dsimp only at hSw); go_simp; first | done | with_reducible rfl)
      (try simp only [Act.put, List.setIfInBounds_toArray, List.set_cons_zero, List.set_cons_succ])
      refine PlanZ.free (i := 2) (ds := some 56) (v := ?_) rfl rfl rfl ?_ (fun _ _ _ h => h) ?_
      rotate_left
      · (intro w hSw; (try dsimp only at hSw); go_simp; first | done | with_reducible rfl)
      (try simp only [Act.put, List.setIfInBounds_toArray, List.set_cons_zero, List.set_cons_succ])
      refine PlanZ.free (i := 3) (ds := some 57) (v := ?_) rfl rfl rfl ?_ (fun _ _ _ h => h) ?_
      rotate_left
      · (intro w hSw; (try dsimp only at hSw); go_simp; first | done | with_reducible rfl)
      (try simp only [Act.put, List.setIfInBounds_toArray, List.set_cons_zero, List.set_cons_succ])
      refine PlanZ.free (i := 4) (ds := some 58) (v := ?_) rfl rfl rfl ?_ (fun _ _ _ h => h) ?_
      rotate_left
      · (intro w hSw; (try dsimp only at hSw); go_simp; first | done | with_reducible rfl)
      (try simp only [Act.put, List.setIfInBounds_toArray, List.set_cons_zero, List.set_cons_succ])
      refine PlanZ.free (i := 5) (ds := some 59) (v := ?_) rfl rfl rfl ?_ (fun _ _ _ h => h) ?_
      rotate_left
      · (intro w hSw; (try dsimp only at hSw); go_simp; first | done | with_reducible rfl)
      (try simp only [Act.put, List.setIfInBounds_toArray, List.set_cons_zero, List.set_cons_succ])
      refine PlanZ.free (i := 6) (ds := some 60) (v := ?_) rfl rfl rfl ?_ (fun _ _ _ h => h) ?_
      rotate_left
      · (intro w hSw; (try dsimp only at hSw); go_simp; first | done | with_reducible rfl)
      (try simp only [Act.put, List.setIfInBounds_toArray, List.set_cons_zero, List.set_cons_succ])
      refine PlanZ.free (i := 7) (ds := some 61) (v := ?_) rfl rfl rfl ?_ (fun _ _ _ h => h) ?_
      rotate_left
      · (intro w hSw; (try dsimp only at hSw); go_simp; first | done | with_reducible rfl)
      (try simp only [Act.put, List.setIfInBounds_toArray, List.set_cons_zero, List.set_cons_succ])
      refine PlanZ.free (i := 8) (ds := some 62) (v := ?_) rfl rfl rfl ?_ (fun _ _ _ h => h) ?_
      rotate_left
      · (intro w hSw; (try dsimp only at hSw); go_simp; first | done | with_reducible rfl)
      (try simp only [Act.put, List.setIfInBounds_toArray, List.set_cons_zero, List.set_cons_succ])
      refine PlanZ.free (i := 10) (ds := some 64) (v := ?_) rfl rfl rfl ?_ (fun _ _ _ h => h) ?_
      rotate_left
      · (intro w hSw; (try dsimp only at hSw); go_simp; first | done | with_reducible rfl)
      (try simp only [Act.put, List.setIfInBounds_toArray, List.set_cons_zero, List.set_cons_succ])
      refine PlanZ.stop (fun hHeld => ?_)
      refine UpTo.ready (rs := [9, 13]) (by decide +kernel) (by simp) ?_
      refine AllZ.cons (o := _) rfl ?_ ?_
      · intro K hK
        rw [if_pos (wanted_none (by rfl))]
        (go_simp; obtain ⟨W9, h9⟩ : ∃ W, W = (wr.alloc (.cells #[] 41)).drew := ⟨_, rfl⟩; (try rw [← h9]); have bb : Below wr.heap.size wr W9 := (by rw [h9]; exact (below_alloc _ _).drew); have G9 : Hid (Below wr.heap.size wr W9) := bb; obtain ⟨eb, heb⟩ : ∃ g, g = wr.heap.size := ⟨_, rfl⟩; rw [← heb]; have HEB : Hid (wr.heap.size ≤ eb) := (by rw [heb]; exact Nat.le_refl _); have OWN9 : Hid (W9.ownsRow wr.heap.size 41 2 (.slice (some ⟨eb, 0, none⟩) 0 0) 0 []) := (by rw [heb, h9]; exact own_base (Nat.le_refl _) (ownsRow_below (own_emptyP wr) (Below.refl _ _).drew)); clear heb; clear h9 bb)
        refine hK.out _ _ ?_ (fun hHeld => ?_)
        · (try dsimp only)
          exact KX.out _ G9.out
        clear hK K
        (try simp only [Act.put, List.setIfInBounds_toArray, List.set_cons_zero, List.set_cons_succ])
        refine UpTo.ready (rs := [11, 13]) (by decide +kernel) (by simp) ?_
        refine AllZ.cons (o := _) rfl ?_ ?_
        · intro K hK
          rw [if_pos (wanted_none (by rfl))]
          (have h40' := h40; have h2' := H2.out; refine wp_appendJ _ _ _ 36 (by rfl) wr.heap.size 41 i0 _ 2 24 Tryz.underlying36 hi hz0 hz1 hz2 rfl (by decide) _ _ _ (by rfl) OWN9.out ⟨g, o + 0 * 2, none⟩ L.length c ((((L.drop 0).take L.length).map Pt.cells).flatten) (by rfl) (by rw [pts_len]; simp) (pts_src (HLW.out.below G9.out) 0 L.length (by omega)) (pts_one _) (by unfold maxLen; omega) (by omega) G9.out.size ?_; intro v11 W11 hown hgr; have G11 : Hid (Below wr.heap.size wr W11) := G9.out.grown hgr G9.out.size (fun k hk => (OWN9.out.lt k hk).1); obtain ⟨a11, c11, hv11⟩ := jown_form hown; subst hv11; have OWN11 : Hid (W11.ownsRow wr.heap.size 41 2 (.slice a11 (0 + L.length) c11) L.length (L.map Pt.cells).flatten) := (by have h := hown; rw [List.nil_append, List.drop_zero, List.take_length] at h; show World.ownsRow _ _ _ _ _ _ _; simpa using h); clear hown hgr h40' h2'; simp only [Nat.zero_add] at OWN11 ⊢)
          refine hK.out _ _ ?_ (fun hHeld => ?_)
          · (try dsimp only)
            exact KX.out _ G11.out
          clear hK K
          (try simp only [Act.put, List.setIfInBounds_toArray, List.set_cons_zero, List.set_cons_succ])
          refine PlanZ.start (plan := [12]) (fuel := 2) (by decide +kernel) (by assumption) ?_
          refine PlanZ.free (i := 12) (ds := some 66) (v := ?_) rfl rfl rfl ?_ (fun _ _ _ h => h) ?_
          rotate_left
          · (intro w hSw; (try dsimp only at hSw); go_simp; first | done | with_reducible rfl)
          (try simp only [Act.put, List.setIfInBounds_toArray, List.set_cons_zero, List.set_cons_succ])
          refine PlanZ.stop (fun hHeld => ?_)
          refine UpTo.ready (rs := [13]) (by decide +kernel) (by simp) ?_
          refine AllZ.cons (o := _) rfl ?_ AllZ.nil
          intro K hK
          rw [if_pos (wanted_none (by rfl))]
          (go_simp; obtain ⟨W13, h9⟩ : ∃ W, W = W11.alloc (.cells #[.int .u64 0, .int .i64 0, .int .u32 0, .slice none 0 0] 49) := ⟨_, rfl⟩; (try rw [← h9]); have bb : Below W11.heap.size W11 W13 := (by rw [h9]; exact below_alloc _ _); have G13 : Hid (Below wr.heap.size wr W13) := onward bb G11.out; obtain ⟨pp, hpp⟩ : ∃ g, g = W11.heap.size := ⟨_, rfl⟩; rw [← hpp]; have HPP : Hid (wr.heap.size ≤ pp) := (by rw [hpp]; exact G11.out.size); have OPN13 : Hid (W13.heap[pp]? = some (.cells #[.int .u64 0, .int .i64 0, .int .u32 0, .slice none 0 0] 49 (0, 0))) := (by rw [hpp, h9]; exact alloc_block _ _ _ _); have OWN13 := Lib.hid (ownsRow_below OWN11.out bb); clear hpp; clear h9 bb)
          refine hK.out _ _ ?_ (fun hHeld => ?_)
          · (try dsimp only)
            exact KX.out _ G13.out
          clear hK K
          (try simp only [Act.put, List.setIfInBounds_toArray, List.set_cons_zero, List.set_cons_succ])
          refine UpTo.ready (rs := [14]) (by decide +kernel) (by simp) ?_
          refine AllZ.last (o := _) rfl ?_
          intro K hK
          rw [if_pos (wanted_none (by rfl))]
          (have hf0 : W13.frozen? ⟨pp, 0, none⟩ = false := free_of_row OPN13.out; have hf1 : W13.frozen? ⟨pp, 1, none⟩ = false := free_of_row OPN13.out; have hf2 : W13.frozen? ⟨pp, 2, none⟩ = false := free_of_row OPN13.out; have hf3 : W13.frozen? ⟨pp, 3, none⟩ = false := free_of_row OPN13.out; have hc0 : W13.cell? ⟨pp, 0, none⟩ = some (.int .u64 0) := (by rw [cell_of_row OPN13.out]; rfl); have hc1 : W13.cell? ⟨pp, 1, none⟩ = some (.int .i64 0) := (by rw [cell_of_row OPN13.out]; rfl); have hc2 : W13.cell? ⟨pp, 2, none⟩ = some (.int .u32 0) := (by rw [cell_of_row OPN13.out]; rfl); have hc3 : W13.cell? ⟨pp, 3, none⟩ = some (.slice none 0 0) := (by rw [cell_of_row OPN13.out]; rfl); go_simp)
          refine hK.out _ _ ?_
          clear hK K
          (try simp only [Act.put, List.setIfInBounds_toArray, List.set_cons_zero, List.set_cons_succ])
          refine UpTo.done (by decide +kernel) ?_ _
          rw [wr_ui (by omega)]
          clear hf0 hf1 hf2 hf3 hc0 hc1 hc2 hc3
          obtain ⟨WF, hWF⟩ : ∃ W, W = ((((W13.setCell ⟨pp, 0, none⟩ (.int .u64 ((RL.length : Int) + 1))).setCell ⟨pp, 1, none⟩ (.int .i64 t)).setCell ⟨pp, 2, none⟩ (.int .u32 ten)).setCell ⟨pp, 3, none⟩ (.slice a11 L.length c11)) := ⟨_, rfl⟩
          have BF : Hid (Below wr.heap.size wr WF) := by rw [hWF]; exact ((((G13.out.setCell HPP.out _).setCell HPP.out _).setCell HPP.out _).setCell HPP.out _)
          have PF : Hid (WF.heap[pp]? = some (.cells #[.int .u64 ((RL.length : Int) + 1), .int .i64 t, .int .u32 ten, .slice a11 L.length c11] 49 (0, 0))) := by rw [hWF]; exact box4_set OPN13.out
          have OWF : Hid (OwnP WF B (.slice a11 L.length c11) L) := by
            rw [hWF]
            have hne : (Value.slice a11 L.length c11).ownBlock ≠ some pp := fun e => own_type OWN13.out OPN13.out (by decide) e.symm
            exact own_base SZ.out (ownsRow_setCell_other (ownsRow_setCell_other (ownsRow_setCell_other (ownsRow_setCell_other OWN13.out hne _) hne _) hne _) hne _)
          have JRF := Lib.hid (JRr.out.below BF.out)
          have JF := Lib.hid (stays_block BF.out J0.out)
          have KF := Lib.hid (fun (W : World) (hb : Below WF.heap.size WF W) => po_facts (stays_block hb JF.out) (stays_block hb PF.out))
          have PJ : Hid (pp ≠ jp) := by have := HPP.out; have := lt_of_block J0.out; show _ ≠ _; omega
          have PNE : Hid ((Value.slice ra RL.length rc).ownBlock ≠ some pp) := fun e => by have := (JRr.out.list.lt _ e).2; have := HPP.out; omega
          go_upto_region 12 with fail
          rw [← hWF]
          clear hWF
          refine UpTo.start (z := 10) (C := (fun W => W.cell? ⟨jp, 0, none⟩ = some (.slice ra RL.length rc) ∧ W.cell? ⟨pp, 0, none⟩ = some (.int .u64 ((RL.length : Int) + 1)) ∧ W.cell? ⟨pp, 1, none⟩ = some (.int .i64 t) ∧ W.cell? ⟨pp, 2, none⟩ = some (.int .u32 ten) ∧ W.cell? ⟨pp, 3, none⟩ = some (.slice a11 L.length c11))) (by kernel_rfl) ?_ (fun hHeld => ?_)
          · (try dsimp only)
            exact KF.out _ ((Below.refl _ _).drew)
          refine PlanZ.start (plan := [0, 1, 2, 3, 4, 5]) (fuel := 5) (by decide +kernel) (by assumption) ?_
          refine PlanZ.free (i := 0) (ds := some 67) (v := ?_) rfl rfl rfl ?_ (fun _ _ _ h => h) ?_
          rotate_left
          · (intro w hSw; (try dsimp only at hSw); go_simp; first | done | with_reducible rfl)
          (try simp only [Act.put, List.setIfInBounds_toArray, List.set_cons_zero, List.set_cons_succ])
          refine PlanZ.free (i := 1) (ds := some 68) (v := ?_) rfl rfl rfl ?_ (fun _ _ _ h => h) ?_
          rotate_left
          · (intro w hSw; (try dsimp only at hSw); go_simp; first | done | with_reducible rfl)
          (try simp only [Act.put, List.setIfInBounds_toArray, List.set_cons_zero, List.set_cons_succ])
          refine PlanZ.free (i := 2) (ds := some 69) (v := ?_) rfl rfl rfl ?_ (fun _ _ _ h => h) ?_
          rotate_left
          · (intro w hSw; (try dsimp only at hSw); go_simp; first | done | with_reducible rfl)
          (try simp only [Act.put, List.setIfInBounds_toArray, List.set_cons_zero, List.set_cons_succ])
          refine PlanZ.free (i := 3) (ds := some 70) (v := ?_) rfl rfl rfl ?_ (fun _ _ _ h => h) ?_
          rotate_left
          · (intro w hSw; (try dsimp only at hSw); go_simp; first | done | with_reducible rfl)
          (try simp only [Act.put, List.setIfInBounds_toArray, List.set_cons_zero, List.set_cons_succ])
          refine PlanZ.free (i := 4) (ds := some 71) (v := ?_) rfl rfl rfl ?_ (fun _ _ _ h => h) ?_
          rotate_left
          · (intro w hSw; (try dsimp only at hSw); go_simp; first | done | with_reducible rfl)
          (try simp only [Act.put, List.setIfInBounds_toArray, List.set_cons_zero, List.set_cons_succ])
          refine PlanZ.free (i := 5) (ds := some 72) (v := ?_) rfl rfl rfl ?_ (fun _ _ _ h => h) ?_
          rotate_left
          · (intro w hSw; (try dsimp only at hSw); go_simp; first | done | with_reducible rfl)
          (try simp only [Act.put, List.setIfInBounds_toArray, List.set_cons_zero, List.set_cons_succ])
          refine PlanZ.stop (fun hHeld => ?_)
          refine UpTo.ready (rs := [6]) (by decide +kernel) (by simp) ?_
          refine AllZ.cons (o := _) rfl ?_ AllZ.nil
          intro K hK
          rw [if_pos (wanted_none (by rfl))]
          (go_simp; obtain ⟨W6, h6⟩ : ∃ W, W = (WF.alloc (.cells #[.int .u64 ((RL.length : Int) + 1), .int .i64 t, .int .u32 ten, .slice a11 L.length c11] 49)).drew := ⟨_, rfl⟩; (try rw [← h6]); have bb : Below WF.heap.size WF W6 := (by rw [h6]; exact (below_alloc _ _).drew); have SRC : Hid (∀ (j : Nat) (u : Value), [.int .u64 ((RL.length : Int) + 1), .int .i64 t, .int .u32 ten, .slice a11 L.length c11][j]? = some u → W6.cell? (Addr.add ⟨WF.heap.size, 0, none⟩ j) = some u) := (by rw [h6]; exact new_cells WF _ _); have BF6 := Lib.hid bb; have JR6 := Lib.hid (JRF.out.below bb); have OW6 := Lib.hid (ownsRow_below OWF.out bb); clear h6 bb)
          refine hK.out _ _ ?_ (fun hHeld => ?_)
          · (try dsimp only)
            exact KF.out _ BF6.out
          clear hK K
          (try simp only [Act.put, List.setIfInBounds_toArray, List.set_cons_zero, List.set_cons_succ])
          refine UpTo.ready (rs := [7]) (by decide +kernel) (by simp) ?_
          refine AllZ.cons (o := _) rfl ?_ AllZ.nil
          intro K hK
          rw [if_pos (wanted_none (by rfl))]
          (refine wp_appendJ _ _ _ 28 (by rfl) B 49 i1 _ 4 48 Tryz.underlying28 hi' hz0' hz1' hz2' rfl (by decide) _ _ _ (by rfl) JR6.out.list ⟨WF.heap.size, 0, none⟩ 1 1 [.int .u64 ((RL.length : Int) + 1), .int .i64 t, .int .u32 ten, .slice a11 L.length c11] (by rfl) rfl SRC.out (onePo _ _ _ _ _ _) (by unfold maxLen; omega) (by omega) (Nat.le_trans SZ.out (Nat.le_trans BF.out.size BF6.out.size)) ?_; intro v7 W7 hown hgr; obtain ⟨a7, c7, hv7⟩ := jown_form hown; subst hv7; have JG := Lib.hid (jr_grow JR6.out OW6.out rfl hown hgr); have K7 := Lib.hid (grow_keeps hgr JR6.out (stays_block BF6.out PF.out) PNE.out); clear hown hgr)
          refine hK.out _ _ ?_ (fun hHeld => ?_)
          · (try dsimp only)
            exact po_facts K7.out.1 K7.out.2
          clear hK K
          (try simp only [Act.put, List.setIfInBounds_toArray, List.set_cons_zero, List.set_cons_succ])
          refine UpTo.ready (rs := [8]) (by decide +kernel) (by simp) ?_
          refine AllZ.cons (o := _) rfl ?_ AllZ.nil
          intro K hK
          rw [if_pos (wanted_none (by rfl))]
          (go_simp)
          refine hK.out _ _ ?_ (fun hHeld => ?_)
          · (try dsimp only)
            exact po_facts K7.out.1 K7.out.2
          clear hK K
          (try simp only [Act.put, List.setIfInBounds_toArray, List.set_cons_zero, List.set_cons_succ])
          refine UpTo.ready (rs := [9]) (by decide +kernel) (by simp) ?_
          refine AllZ.cons (o := _) rfl ?_ AllZ.nil
          intro K hK
          rw [if_pos (wanted_none (by rfl))]
          (go_simp)
          refine hK.out _ _ ?_ (fun hHeld => ?_)
          · (try dsimp only)
            exact po_facts K7.out.1 K7.out.2
          clear hK K
          (try simp only [Act.put, List.setIfInBounds_toArray, List.set_cons_zero, List.set_cons_succ])
          refine UpTo.ready (rs := [10]) (by decide +kernel) (by simp) ?_
          refine AllZ.last (o := _) rfl ?_
          intro K hK
          rw [if_pos (wanted_none (by rfl))]
          (have hf : W7.frozen? ⟨jp, 0, none⟩ = false := free_of_row K7.out.1; obtain ⟨z0, -⟩ := po_facts K7.out.1 K7.out.2; go_simp)
          refine hK.out _ _ ?_
          clear hK K
          (try simp only [Act.put, List.setIfInBounds_toArray, List.set_cons_zero, List.set_cons_succ])
          refine UpTo.done (by decide +kernel) ?_ _
          clear hf z0
          have y0 : (W7.setCell ⟨jp, 0, none⟩ (.slice a7 (RL.length + 1) c7)).cell? ⟨pp, 0, none⟩ = some (.int .u64 ((RL.length : Int) + 1)) := by rw [cell_of_row ((Below.heap_setCell _ _ _ _ PJ.out).trans K7.out.2)]; rfl
          have FIN : Hid (RPost B jp RL 0 t ten L w (.returned (.tuple #[.int .u64 ((RL.length : Int) + 1), .int .i64 0])) (W7.setCell ⟨jp, 0, none⟩ (.slice a7 (RL.length + 1) c7))) := RPost.yes rfl JG.out.1 ((((Beside.of_below BR.out).trans (.of_below BF.out)).trans (.of_below BF6.out)).trans JG.out.2)
          clear JG K7 SRC JR6 OW6
          go_wp2_with fail
          go_ret2
          exact FIN.out
          
        refine AllZ.cons (o := _) rfl ?_ ?_
        · intro K hK
          rw [if_pos (wanted_none (by rfl))]
          (go_simp; obtain ⟨W13, h9⟩ : ∃ W, W = W9.alloc (.cells #[.int .u64 0, .int .i64 0, .int .u32 0, .slice none 0 0] 49) := ⟨_, rfl⟩; (try rw [← h9]); have bb : Below W9.heap.size W9 W13 := (by rw [h9]; exact below_alloc _ _); have G13 : Hid (Below wr.heap.size wr W13) := onward bb G9.out; obtain ⟨pp, hpp⟩ : ∃ g, g = W9.heap.size := ⟨_, rfl⟩; rw [← hpp]; have HPP : Hid (wr.heap.size ≤ pp) := (by rw [hpp]; exact G9.out.size); have OPN13 : Hid (W13.heap[pp]? = some (.cells #[.int .u64 0, .int .i64 0, .int .u32 0, .slice none 0 0] 49 (0, 0))) := (by rw [hpp, h9]; exact alloc_block _ _ _ _); have OWN13 := Lib.hid (ownsRow_below OWN9.out bb); clear hpp; clear h9 bb)
          refine hK.out _ _ ?_ (fun hHeld => ?_)
          · (try dsimp only)
            exact KX.out _ G13.out
          clear hK K
          (try simp only [Act.put, List.setIfInBounds_toArray, List.set_cons_zero, List.set_cons_succ])
          refine UpTo.ready (rs := [11]) (by decide +kernel) (by simp) ?_
          refine AllZ.cons (o := _) rfl ?_ AllZ.nil
          intro K hK
          rw [if_pos (wanted_none (by rfl))]
          (have h40' := h40; have h2' := H2.out; refine wp_appendJ _ _ _ 36 (by rfl) wr.heap.size 41 i0 _ 2 24 Tryz.underlying36 hi hz0 hz1 hz2 rfl (by decide) _ _ _ (by rfl) OWN13.out ⟨g, o + 0 * 2, none⟩ L.length c ((((L.drop 0).take L.length).map Pt.cells).flatten) (by rfl) (by rw [pts_len]; simp) (pts_src (HLW.out.below G13.out) 0 L.length (by omega)) (pts_one _) (by unfold maxLen; omega) (by omega) G13.out.size ?_; intro v11 W11 hown hgr; have G11 : Hid (Below wr.heap.size wr W11) := G13.out.grown hgr G13.out.size (fun k hk => (OWN13.out.lt k hk).1); have OPN11 : Hid (W11.heap[pp]? = some (.cells #[.int .u64 0, .int .i64 0, .int .u32 0, .slice none 0 0] 49 (0, 0))) := (hgr.block pp (lt_of_block OPN13.out) (fun e => own_type OWN13.out OPN13.out (by decide) e)).trans OPN13.out; obtain ⟨a11, c11, hv11⟩ := jown_form hown; subst hv11; have OWN11 : Hid (W11.ownsRow wr.heap.size 41 2 (.slice a11 (0 + L.length) c11) L.length (L.map Pt.cells).flatten) := (by have h := hown; rw [List.nil_append, List.drop_zero, List.take_length] at h; show World.ownsRow _ _ _ _ _ _ _; simpa using h); clear hown hgr h40' h2'; simp only [Nat.zero_add] at OWN11 ⊢)
          refine hK.out _ _ ?_ (fun hHeld => ?_)
          · (try dsimp only)
            exact KX.out _ G11.out
          clear hK K
          (try simp only [Act.put, List.setIfInBounds_toArray, List.set_cons_zero, List.set_cons_succ])
          refine PlanZ.start (plan := [12]) (fuel := 1) (by decide +kernel) (by assumption) ?_
          refine PlanZ.free (i := 12) (ds := some 66) (v := ?_) rfl rfl rfl ?_ (fun _ _ _ h => h) ?_
          rotate_left
          · (intro w hSw; (try dsimp only at hSw); go_simp; first | done | with_reducible rfl)
          (try simp only [Act.put, List.setIfInBounds_toArray, List.set_cons_zero, List.set_cons_succ])
          refine PlanZ.stop (fun hHeld => ?_)
          refine UpTo.ready (rs := [14]) (by decide +kernel) (by simp) ?_
          refine AllZ.last (o := _) rfl ?_
          intro K hK
          rw [if_pos (wanted_none (by rfl))]
          (have hf0 : W11.frozen? ⟨pp, 0, none⟩ = false := free_of_row OPN11.out; have hf1 : W11.frozen? ⟨pp, 1, none⟩ = false := free_of_row OPN11.out; have hf2 : W11.frozen? ⟨pp, 2, none⟩ = false := free_of_row OPN11.out; have hf3 : W11.frozen? ⟨pp, 3, none⟩ = false := free_of_row OPN11.out; have hc0 : W11.cell? ⟨pp, 0, none⟩ = some (.int .u64 0) := (by rw [cell_of_row OPN11.out]; rfl); have hc1 : W11.cell? ⟨pp, 1, none⟩ = some (.int .i64 0) := (by rw [cell_of_row OPN11.out]; rfl); have hc2 : W11.cell? ⟨pp, 2, none⟩ = some (.int .u32 0) := (by rw [cell_of_row OPN11.out]; rfl); have hc3 : W11.cell? ⟨pp, 3, none⟩ = some (.slice none 0 0) := (by rw [cell_of_row OPN11.out]; rfl); go_simp)
          refine hK.out _ _ ?_
          clear hK K
          (try simp only [Act.put, List.setIfInBounds_toArray, List.set_cons_zero, List.set_cons_succ])
          refine UpTo.done (by decide +kernel) ?_ _
          rw [wr_ui (by omega)]
          clear hf0 hf1 hf2 hf3 hc0 hc1 hc2 hc3
          obtain ⟨WF, hWF⟩ : ∃ W, W = ((((W11.setCell ⟨pp, 0, none⟩ (.int .u64 ((RL.length : Int) + 1))).setCell ⟨pp, 1, none⟩ (.int .i64 t)).setCell ⟨pp, 2, none⟩ (.int .u32 ten)).setCell ⟨pp, 3, none⟩ (.slice a11 L.length c11)) := ⟨_, rfl⟩
          have BF : Hid (Below wr.heap.size wr WF) := by rw [hWF]; exact ((((G11.out.setCell HPP.out _).setCell HPP.out _).setCell HPP.out _).setCell HPP.out _)
          have PF : Hid (WF.heap[pp]? = some (.cells #[.int .u64 ((RL.length : Int) + 1), .int .i64 t, .int .u32 ten, .slice a11 L.length c11] 49 (0, 0))) := by rw [hWF]; exact box4_set OPN11.out
          have OWF : Hid (OwnP WF B (.slice a11 L.length c11) L) := by
            rw [hWF]
            have hne : (Value.slice a11 L.length c11).ownBlock ≠ some pp := fun e => own_type OWN11.out OPN11.out (by decide) e.symm
            exact own_base SZ.out (ownsRow_setCell_other (ownsRow_setCell_other (ownsRow_setCell_other (ownsRow_setCell_other OWN11.out hne _) hne _) hne _) hne _)
          have JRF := Lib.hid (JRr.out.below BF.out)
          have JF := Lib.hid (stays_block BF.out J0.out)
          have KF := Lib.hid (fun (W : World) (hb : Below WF.heap.size WF W) => po_facts (stays_block hb JF.out) (stays_block hb PF.out))
          have PJ : Hid (pp ≠ jp) := by have := HPP.out; have := lt_of_block J0.out; show _ ≠ _; omega
          have PNE : Hid ((Value.slice ra RL.length rc).ownBlock ≠ some pp) := fun e => by have := (JRr.out.list.lt _ e).2; have := HPP.out; omega
          go_upto_region 12 with fail
          rw [← hWF]
          clear hWF
          refine UpTo.start (z := 10) (C := (fun W => W.cell? ⟨jp, 0, none⟩ = some (.slice ra RL.length rc) ∧ W.cell? ⟨pp, 0, none⟩ = some (.int .u64 ((RL.length : Int) + 1)) ∧ W.cell? ⟨pp, 1, none⟩ = some (.int .i64 t) ∧ W.cell? ⟨pp, 2, none⟩ = some (.int .u32 ten) ∧ W.cell? ⟨pp, 3, none⟩ = some (.slice a11 L.length c11))) (by kernel_rfl) ?_ (fun hHeld => ?_)
          · (try dsimp only)
            exact KF.out _ ((Below.refl _ _).drew)
          refine PlanZ.start (plan := [0, 1, 2, 3, 4, 5]) (fuel := 5) (by decide +kernel) (by assumption) ?_
          refine PlanZ.free (i := 0) (ds := some 67) (v := ?_) rfl rfl rfl ?_ (fun _ _ _ h => h) ?_
          rotate_left
          · (intro w hSw; (try dsimp only at hSw); go_simp; first | done | with_reducible rfl)
          (try simp only [Act.put, List.setIfInBounds_toArray, List.set_cons_zero, List.set_cons_succ])
          refine PlanZ.free (i := 1) (ds := some 68) (v := ?_) rfl rfl rfl ?_ (fun _ _ _ h => h) ?_
          rotate_left
          · (intro w hSw; (try dsimp only at hSw); go_simp; first | done | with_reducible rfl)
          (try simp only [Act.put, List.setIfInBounds_toArray, List.set_cons_zero, List.set_cons_succ])
          refine PlanZ.free (i := 2) (ds := some 69) (v := ?_) rfl rfl rfl ?_ (fun _ _ _ h => h) ?_
          rotate_left
          · (intro w hSw; (try dsimp only at hSw); go_simp; first | done | with_reducible rfl)
          (try simp only [Act.put, List.setIfInBounds_toArray, List.set_cons_zero, List.set_cons_succ])
          refine PlanZ.free (i := 3) (ds := some 70) (v := ?_) rfl rfl rfl ?_ (fun _ _ _ h => h) ?_
          rotate_left
          · (intro w hSw; (try dsimp only at hSw); go_simp; first | done | with_reducible rfl)
          (try simp only [Act.put, List.setIfInBounds_toArray, List.set_cons_zero, List.set_cons_succ])
          refine PlanZ.free (i := 4) (ds := some 71) (v := ?_) rfl rfl rfl ?_ (fun _ _ _ h => h) ?_
          rotate_left
          · (intro w hSw; (try dsimp only at hSw); go_simp; first | done | with_reducible rfl)
          (try simp only [Act.put, List.setIfInBounds_toArray, List.set_cons_zero, List.set_cons_succ])
          refine PlanZ.free (i := 5) (ds := some 72) (v := ?_) rfl rfl rfl ?_ (fun _ _ _ h => h) ?_
          rotate_left
          · (intro w hSw; (try dsimp only at hSw); go_simp; first | done | with_reducible rfl)
          (try simp only [Act.put, List.setIfInBounds_toArray, List.set_cons_zero, List.set_cons_succ])
          refine PlanZ.stop (fun hHeld => ?_)
          refine UpTo.ready (rs := [6]) (by decide +kernel) (by simp) ?_
          refine AllZ.cons (o := _) rfl ?_ AllZ.nil
          intro K hK
          rw [if_pos (wanted_none (by rfl))]
          (go_simp; obtain ⟨W6, h6⟩ : ∃ W, W = (WF.alloc (.cells #[.int .u64 ((RL.length : Int) + 1), .int .i64 t, .int .u32 ten, .slice a11 L.length c11] 49)).drew := ⟨_, rfl⟩; (try rw [← h6]); have bb : Below WF.heap.size WF W6 := (by rw [h6]; exact (below_alloc _ _).drew); have SRC : Hid (∀ (j : Nat) (u : Value), [.int .u64 ((RL.length : Int) + 1), .int .i64 t, .int .u32 ten, .slice a11 L.length c11][j]? = some u → W6.cell? (Addr.add ⟨WF.heap.size, 0, none⟩ j) = some u) := (by rw [h6]; exact new_cells WF _ _); have BF6 := Lib.hid bb; have JR6 := Lib.hid (JRF.out.below bb); have OW6 := Lib.hid (ownsRow_below OWF.out bb); clear h6 bb)
          refine hK.out _ _ ?_ (fun hHeld => ?_)
          · (try dsimp only)
            exact KF.out _ BF6.out
          clear hK K
          (try simp only [Act.put, List.setIfInBounds_toArray, List.set_cons_zero, List.set_cons_succ])
          refine UpTo.ready (rs := [7]) (by decide +kernel) (by simp) ?_
          refine AllZ.cons (o := _) rfl ?_ AllZ.nil
          intro K hK
          rw [if_pos (wanted_none (by rfl))]
          (refine wp_appendJ _ _ _ 28 (by rfl) B 49 i1 _ 4 48 Tryz.underlying28 hi' hz0' hz1' hz2' rfl (by decide) _ _ _ (by rfl) JR6.out.list ⟨WF.heap.size, 0, none⟩ 1 1 [.int .u64 ((RL.length : Int) + 1), .int .i64 t, .int .u32 ten, .slice a11 L.length c11] (by rfl) rfl SRC.out (onePo _ _ _ _ _ _) (by unfold maxLen; omega) (by omega) (Nat.le_trans SZ.out (Nat.le_trans BF.out.size BF6.out.size)) ?_; intro v7 W7 hown hgr; obtain ⟨a7, c7, hv7⟩ := jown_form hown; subst hv7; have JG := Lib.hid (jr_grow JR6.out OW6.out rfl hown hgr); have K7 := Lib.hid (grow_keeps hgr JR6.out (stays_block BF6.out PF.out) PNE.out); clear hown hgr)
          refine hK.out _ _ ?_ (fun hHeld => ?_)
          · (try dsimp only)
            exact po_facts K7.out.1 K7.out.2
          clear hK K
          (try simp only [Act.put, List.setIfInBounds_toArray, List.set_cons_zero, List.set_cons_succ])
          refine UpTo.ready (rs := [8]) (by decide +kernel) (by simp) ?_
          refine AllZ.cons (o := _) rfl ?_ AllZ.nil
          intro K hK
          rw [if_pos (wanted_none (by rfl))]
          (go_simp)
          refine hK.out _ _ ?_ (fun hHeld => ?_)
          · (try dsimp only)
            exact po_facts K7.out.1 K7.out.2
          clear hK K
          (try simp only [Act.put, List.setIfInBounds_toArray, List.set_cons_zero, List.set_cons_succ])
          refine UpTo.ready (rs := [9]) (by decide +kernel) (by simp) ?_
          refine AllZ.cons (o := _) rfl ?_ AllZ.nil
          intro K hK
          rw [if_pos (wanted_none (by rfl))]
          (go_simp)
          refine hK.out _ _ ?_ (fun hHeld => ?_)
          · (try dsimp only)
            exact po_facts K7.out.1 K7.out.2
          clear hK K
          (try simp only [Act.put, List.setIfInBounds_toArray, List.set_cons_zero, List.set_cons_succ])
          refine UpTo.ready (rs := [10]) (by decide +kernel) (by simp) ?_
          refine AllZ.last (o := _) rfl ?_
          intro K hK
          rw [if_pos (wanted_none (by rfl))]
          (have hf : W7.frozen? ⟨jp, 0, none⟩ = false := free_of_row K7.out.1; obtain ⟨z0, -⟩ := po_facts K7.out.1 K7.out.2; go_simp)
          refine hK.out _ _ ?_
          clear hK K
          (try simp only [Act.put, List.setIfInBounds_toArray, List.set_cons_zero, List.set_cons_succ])
          refine UpTo.done (by decide +kernel) ?_ _
          clear hf z0
          have y0 : (W7.setCell ⟨jp, 0, none⟩ (.slice a7 (RL.length + 1) c7)).cell? ⟨pp, 0, none⟩ = some (.int .u64 ((RL.length : Int) + 1)) := by rw [cell_of_row ((Below.heap_setCell _ _ _ _ PJ.out).trans K7.out.2)]; rfl
          have FIN : Hid (RPost B jp RL 0 t ten L w (.returned (.tuple #[.int .u64 ((RL.length : Int) + 1), .int .i64 0])) (W7.setCell ⟨jp, 0, none⟩ (.slice a7 (RL.length + 1) c7))) := RPost.yes rfl JG.out.1 ((((Beside.of_below BR.out).trans (.of_below BF.out)).trans (.of_below BF6.out)).trans JG.out.2)
          clear JG K7 SRC JR6 OW6
          go_wp2_with fail
          go_ret2
          exact FIN.out
          
        exact AllZ.nil
      refine AllZ.cons (o := _) rfl ?_ ?_
      · intro K hK
        rw [if_pos (wanted_none (by rfl))]
        (go_simp; obtain ⟨W13, h9⟩ : ∃ W, W = (wr.alloc (.cells #[.int .u64 0, .int .i64 0, .int .u32 0, .slice none 0 0] 49)).drew := ⟨_, rfl⟩; (try rw [← h9]); have bb : Below wr.heap.size wr W13 := (by rw [h9]; exact (below_alloc _ _).drew); have G13 : Hid (Below wr.heap.size wr W13) := bb; obtain ⟨pp, hpp⟩ : ∃ g, g = wr.heap.size := ⟨_, rfl⟩; rw [← hpp]; have HPP : Hid (wr.heap.size ≤ pp) := (by rw [hpp]; exact Nat.le_refl _); have OPN13 : Hid (W13.heap[pp]? = some (.cells #[.int .u64 0, .int .i64 0, .int .u32 0, .slice none 0 0] 49 (0, 0))) := (by rw [hpp, h9]; exact alloc_block _ _ _ _); clear hpp; clear h9 bb)
        refine hK.out _ _ ?_ (fun hHeld => ?_)
        · (try dsimp only)
          exact KX.out _ G13.out
        clear hK K
        (try simp only [Act.put, List.setIfInBounds_toArray, List.set_cons_zero, List.set_cons_succ])
        refine UpTo.ready (rs := [9]) (by decide +kernel) (by simp) ?_
        refine AllZ.cons (o := _) rfl ?_ AllZ.nil
        intro K hK
        rw [if_pos (wanted_none (by rfl))]
        (go_simp; obtain ⟨W9, h9⟩ : ∃ W, W = W13.alloc (.cells #[] 41) := ⟨_, rfl⟩; (try rw [← h9]); have bb : Below W13.heap.size W13 W9 := (by rw [h9]; exact below_alloc _ _); have G9 : Hid (Below wr.heap.size wr W9) := onward bb G13.out; obtain ⟨eb, heb⟩ : ∃ g, g = W13.heap.size := ⟨_, rfl⟩; rw [← heb]; have HEB : Hid (wr.heap.size ≤ eb) := (by rw [heb]; exact G13.out.size); have OWN9 : Hid (W9.ownsRow wr.heap.size 41 2 (.slice (some ⟨eb, 0, none⟩) 0 0) 0 []) := (by rw [heb, h9]; exact own_base (G13.out.size) (own_emptyP _)); have OPN9 : Hid (W9.heap[pp]? = some (.cells #[.int .u64 0, .int .i64 0, .int .u32 0, .slice none 0 0] 49 (0, 0))) := stays_block bb OPN13.out; clear heb; clear h9 bb)
        refine hK.out _ _ ?_ (fun hHeld => ?_)
        · (try dsimp only)
          exact KX.out _ G9.out
        clear hK K
        (try simp only [Act.put, List.setIfInBounds_toArray, List.set_cons_zero, List.set_cons_succ])
        refine UpTo.ready (rs := [11]) (by decide +kernel) (by simp) ?_
        refine AllZ.cons (o := _) rfl ?_ AllZ.nil
        intro K hK
        rw [if_pos (wanted_none (by rfl))]
        (have h40' := h40; have h2' := H2.out; refine wp_appendJ _ _ _ 36 (by rfl) wr.heap.size 41 i0 _ 2 24 Tryz.underlying36 hi hz0 hz1 hz2 rfl (by decide) _ _ _ (by rfl) OWN9.out ⟨g, o + 0 * 2, none⟩ L.length c ((((L.drop 0).take L.length).map Pt.cells).flatten) (by rfl) (by rw [pts_len]; simp) (pts_src (HLW.out.below G9.out) 0 L.length (by omega)) (pts_one _) (by unfold maxLen; omega) (by omega) G9.out.size ?_; intro v11 W11 hown hgr; have G11 : Hid (Below wr.heap.size wr W11) := G9.out.grown hgr G9.out.size (fun k hk => (OWN9.out.lt k hk).1); have OPN11 : Hid (W11.heap[pp]? = some (.cells #[.int .u64 0, .int .i64 0, .int .u32 0, .slice none 0 0] 49 (0, 0))) := (hgr.block pp (lt_of_block OPN9.out) (fun e => own_type OWN9.out OPN9.out (by decide) e)).trans OPN9.out; obtain ⟨a11, c11, hv11⟩ := jown_form hown; subst hv11; have OWN11 : Hid (W11.ownsRow wr.heap.size 41 2 (.slice a11 (0 + L.length) c11) L.length (L.map Pt.cells).flatten) := (by have h := hown; rw [List.nil_append, List.drop_zero, List.take_length] at h; show World.ownsRow _ _ _ _ _ _ _; simpa using h); clear hown hgr h40' h2'; simp only [Nat.zero_add] at OWN11 ⊢)
        refine hK.out _ _ ?_ (fun hHeld => ?_)
        · (try dsimp only)
          exact KX.out _ G11.out
        clear hK K
        (try simp only [Act.put, List.setIfInBounds_toArray, List.set_cons_zero, List.set_cons_succ])
        refine PlanZ.start (plan := [12]) (fuel := 1) (by decide +kernel) (by assumption) ?_
        refine PlanZ.free (i := 12) (ds := some 66) (v := ?_) rfl rfl rfl ?_ (fun _ _ _ h => h) ?_
        rotate_left
        · (intro w hSw; (try dsimp only at hSw); go_simp; first | done | with_reducible rfl)
        (try simp only [Act.put, List.setIfInBounds_toArray, List.set_cons_zero, List.set_cons_succ])
        refine PlanZ.stop (fun hHeld => ?_)
        refine UpTo.ready (rs := [14]) (by decide +kernel) (by simp) ?_
        refine AllZ.last (o := _) rfl ?_
        intro K hK
        rw [if_pos (wanted_none (by rfl))]
        (have hf0 : W11.frozen? ⟨pp, 0, none⟩ = false := free_of_row OPN11.out; have hf1 : W11.frozen? ⟨pp, 1, none⟩ = false := free_of_row OPN11.out; have hf2 : W11.frozen? ⟨pp, 2, none⟩ = false := free_of_row OPN11.out; have hf3 : W11.frozen? ⟨pp, 3, none⟩ = false := free_of_row OPN11.out; have hc0 : W11.cell? ⟨pp, 0, none⟩ = some (.int .u64 0) := (by rw [cell_of_row OPN11.out]; rfl); have hc1 : W11.cell? ⟨pp, 1, none⟩ = some (.int .i64 0) := (by rw [cell_of_row OPN11.out]; rfl); have hc2 : W11.cell? ⟨pp, 2, none⟩ = some (.int .u32 0) := (by rw [cell_of_row OPN11.out]; rfl); have hc3 : W11.cell? ⟨pp, 3, none⟩ = some (.slice none 0 0) := (by rw [cell_of_row OPN11.out]; rfl); go_simp)
        refine hK.out _ _ ?_
        clear hK K
        (try simp only [Act.put, List.setIfInBounds_toArray, List.set_cons_zero, List.set_cons_succ])
        refine UpTo.done (by decide +kernel) ?_ _
        rw [wr_ui (by omega)]
        clear hf0 hf1 hf2 hf3 hc0 hc1 hc2 hc3
        obtain ⟨WF, hWF⟩ : ∃ W, W = ((((W11.setCell ⟨pp, 0, none⟩ (.int .u64 ((RL.length : Int) + 1))).setCell ⟨pp, 1, none⟩ (.int .i64 t)).setCell ⟨pp, 2, none⟩ (.int .u32 ten)).setCell ⟨pp, 3, none⟩ (.slice a11 L.length c11)) := ⟨_, rfl⟩
        have BF : Hid (Below wr.heap.size wr WF) := by rw [hWF]; exact ((((G11.out.setCell HPP.out _).setCell HPP.out _).setCell HPP.out _).setCell HPP.out _)
        have PF : Hid (WF.heap[pp]? = some (.cells #[.int .u64 ((RL.length : Int) + 1), .int .i64 t, .int .u32 ten, .slice a11 L.length c11] 49 (0, 0))) := by rw [hWF]; exact box4_set OPN11.out
        have OWF : Hid (OwnP WF B (.slice a11 L.length c11) L) := by
          rw [hWF]
          have hne : (Value.slice a11 L.length c11).ownBlock ≠ some pp := fun e => own_type OWN11.out OPN11.out (by decide) e.symm
          exact own_base SZ.out (ownsRow_setCell_other (ownsRow_setCell_other (ownsRow_setCell_other (ownsRow_setCell_other OWN11.out hne _) hne _) hne _) hne _)
        have JRF := Lib.hid (JRr.out.below BF.out)
        have JF := Lib.hid (stays_block BF.out J0.out)
        have KF := Lib.hid (fun (W : World) (hb : Below WF.heap.size WF W) => po_facts (stays_block hb JF.out) (stays_block hb PF.out))
        have PJ : Hid (pp ≠ jp) := by have := HPP.out; have := lt_of_block J0.out; show _ ≠ _; omega
        have PNE : Hid ((Value.slice ra RL.length rc).ownBlock ≠ some pp) := fun e => by have := (JRr.out.list.lt _ e).2; have := HPP.out; omega
        go_upto_region 12 with fail
        rw [← hWF]
        clear hWF
        refine UpTo.start (z := 10) (C := (fun W => W.cell? ⟨jp, 0, none⟩ = some (.slice ra RL.length rc) ∧ W.cell? ⟨pp, 0, none⟩ = some (.int .u64 ((RL.length : Int) + 1)) ∧ W.cell? ⟨pp, 1, none⟩ = some (.int .i64 t) ∧ W.cell? ⟨pp, 2, none⟩ = some (.int .u32 ten) ∧ W.cell? ⟨pp, 3, none⟩ = some (.slice a11 L.length c11))) (by kernel_rfl) ?_ (fun hHeld => ?_)
        · (try dsimp only)
          exact KF.out _ ((Below.refl _ _).drew)
        refine PlanZ.start (plan := [0, 1, 2, 3, 4, 5]) (fuel := 5) (by decide +kernel) (by assumption) ?_
        refine PlanZ.free (i := 0) (ds := some 67) (v := ?_) rfl rfl rfl ?_ (fun _ _ _ h => h) ?_
        rotate_left
        · (intro w hSw; (try dsimp only at hSw); go_simp; first | done | with_reducible rfl)
        (try simp only [Act.put, List.setIfInBounds_toArray, List.set_cons_zero, List.set_cons_succ])
        refine PlanZ.free (i := 1) (ds := some 68) (v := ?_) rfl rfl rfl ?_ (fun _ _ _ h => h) ?_
        rotate_left
        · (intro w hSw; (try dsimp only at hSw); go_simp; first | done | with_reducible rfl)
        (try simp only [Act.put, List.setIfInBounds_toArray, List.set_cons_zero, List.set_cons_succ])
        refine PlanZ.free (i := 2) (ds := some 69) (v := ?_) rfl rfl rfl ?_ (fun _ _ _ h => h) ?_
        rotate_left
        · (intro w hSw; (try dsimp only at hSw); go_simp; first | done | with_reducible rfl)
        (try simp only [Act.put, List.setIfInBounds_toArray, List.set_cons_zero, List.set_cons_succ])
        refine PlanZ.free (i := 3) (ds := some 70) (v := ?_) rfl rfl rfl ?_ (fun _ _ _ h => h) ?_
        rotate_left
        · (intro w hSw; (try dsimp only at hSw); go_simp; first | done | with_reducible rfl)
        (try simp only [Act.put, List.setIfInBounds_toArray, List.set_cons_zero, List.set_cons_succ])
        refine PlanZ.free (i := 4) (ds := some 71) (v := ?_) rfl rfl rfl ?_ (fun _ _ _ h => h) ?_
        rotate_left
        · (intro w hSw; (try dsimp only at hSw); go_simp; first | done | with_reducible rfl)
        (try simp only [Act.put, List.setIfInBounds_toArray, List.set_cons_zero, List.set_cons_succ])
        refine PlanZ.free (i := 5) (ds := some 72) (v := ?_) rfl rfl rfl ?_ (fun _ _ _ h => h) ?_
        rotate_left
        · (intro w hSw; (try dsimp only at hSw); go_simp; first | done | with_reducible rfl)
        (try simp only [Act.put, List.setIfInBounds_toArray, List.set_cons_zero, List.set_cons_succ])
        refine PlanZ.stop (fun hHeld => ?_)
        refine UpTo.ready (rs := [6]) (by decide +kernel) (by simp) ?_
        refine AllZ.cons (o := _) rfl ?_ AllZ.nil
        intro K hK
        rw [if_pos (wanted_none (by rfl))]
        (go_simp; obtain ⟨W6, h6⟩ : ∃ W, W = (WF.alloc (.cells #[.int .u64 ((RL.length : Int) + 1), .int .i64 t, .int .u32 ten, .slice a11 L.length c11] 49)).drew := ⟨_, rfl⟩; (try rw [← h6]); have bb : Below WF.heap.size WF W6 := (by rw [h6]; exact (below_alloc _ _).drew); have SRC : Hid (∀ (j : Nat) (u : Value), [.int .u64 ((RL.length : Int) + 1), .int .i64 t, .int .u32 ten, .slice a11 L.length c11][j]? = some u → W6.cell? (Addr.add ⟨WF.heap.size, 0, none⟩ j) = some u) := (by rw [h6]; exact new_cells WF _ _); have BF6 := Lib.hid bb; have JR6 := Lib.hid (JRF.out.below bb); have OW6 := Lib.hid (ownsRow_below OWF.out bb); clear h6 bb)
        refine hK.out _ _ ?_ (fun hHeld => ?_)
        · (try dsimp only)
          exact KF.out _ BF6.out
        clear hK K
        (try simp only [Act.put, List.setIfInBounds_toArray, List.set_cons_zero, List.set_cons_succ])
        refine UpTo.ready (rs := [7]) (by decide +kernel) (by simp) ?_
        refine AllZ.cons (o := _) rfl ?_ AllZ.nil
        intro K hK
        rw [if_pos (wanted_none (by rfl))]
        (refine wp_appendJ _ _ _ 28 (by rfl) B 49 i1 _ 4 48 Tryz.underlying28 hi' hz0' hz1' hz2' rfl (by decide) _ _ _ (by rfl) JR6.out.list ⟨WF.heap.size, 0, none⟩ 1 1 [.int .u64 ((RL.length : Int) + 1), .int .i64 t, .int .u32 ten, .slice a11 L.length c11] (by rfl) rfl SRC.out (onePo _ _ _ _ _ _) (by unfold maxLen; omega) (by omega) (Nat.le_trans SZ.out (Nat.le_trans BF.out.size BF6.out.size)) ?_; intro v7 W7 hown hgr; obtain ⟨a7, c7, hv7⟩ := jown_form hown; subst hv7; have JG := Lib.hid (jr_grow JR6.out OW6.out rfl hown hgr); have K7 := Lib.hid (grow_keeps hgr JR6.out (stays_block BF6.out PF.out) PNE.out); clear hown hgr)
        refine hK.out _ _ ?_ (fun hHeld => ?_)
        · (try dsimp only)
          exact po_facts K7.out.1 K7.out.2
        clear hK K
        (try simp only [Act.put, List.setIfInBounds_toArray, List.set_cons_zero, List.set_cons_succ])
        refine UpTo.ready (rs := [8]) (by decide +kernel) (by simp) ?_
        refine AllZ.cons (o := _) rfl ?_ AllZ.nil
        intro K hK
        rw [if_pos (wanted_none (by rfl))]
        (go_simp)
        refine hK.out _ _ ?_ (fun hHeld => ?_)
        · (try dsimp only)
          exact po_facts K7.out.1 K7.out.2
        clear hK K
        (try simp only [Act.put, List.setIfInBounds_toArray, List.set_cons_zero, List.set_cons_succ])
        refine UpTo.ready (rs := [9]) (by decide +kernel) (by simp) ?_
        refine AllZ.cons (o := _) rfl ?_ AllZ.nil
        intro K hK
        rw [if_pos (wanted_none (by rfl))]
        (go_simp)
        refine hK.out _ _ ?_ (fun hHeld => ?_)
        · (try dsimp only)
          exact po_facts K7.out.1 K7.out.2
        clear hK K
        (try simp only [Act.put, List.setIfInBounds_toArray, List.set_cons_zero, List.set_cons_succ])
        refine UpTo.ready (rs := [10]) (by decide +kernel) (by simp) ?_
        refine AllZ.last (o := _) rfl ?_
        intro K hK
        rw [if_pos (wanted_none (by rfl))]
        (have hf : W7.frozen? ⟨jp, 0, none⟩ = false := free_of_row K7.out.1; obtain ⟨z0, -⟩ := po_facts K7.out.1 K7.out.2; go_simp)
        refine hK.out _ _ ?_
        clear hK K
        (try simp only [Act.put, List.setIfInBounds_toArray, List.set_cons_zero, List.set_cons_succ])
        refine UpTo.done (by decide +kernel) ?_ _
        clear hf z0
        have y0 : (W7.setCell ⟨jp, 0, none⟩ (.slice a7 (RL.length + 1) c7)).cell? ⟨pp, 0, none⟩ = some (.int .u64 ((RL.length : Int) + 1)) := by rw [cell_of_row ((Below.heap_setCell _ _ _ _ PJ.out).trans K7.out.2)]; rfl
        have FIN : Hid (RPost B jp RL 0 t ten L w (.returned (.tuple #[.int .u64 ((RL.length : Int) + 1), .int .i64 0])) (W7.setCell ⟨jp, 0, none⟩ (.slice a7 (RL.length + 1) c7))) := RPost.yes rfl JG.out.1 ((((Beside.of_below BR.out).trans (.of_below BF.out)).trans (.of_below BF6.out)).trans JG.out.2)
        clear JG K7 SRC JR6 OW6
        go_wp2_with fail
        go_ret2
        exact FIN.out
        
      exact AllZ.nil
end Go.Proofs.YtecbnhmnhcpcmaaGreatDoor
