/- The store and the reference's list, side by side: plain. The walk of the reference's SamePosting, of like ones. Rows of strings beside the store and the reference's list. -/
import Derived.Test.YtecbnhmnhcpcmaaGreatDoorPkJournalPlays42
import Derived.Test.YtecbnhmnhcpcmaaGreatDoorPkJournalPlays26
import Derived.Test.YtecbnhmnhcpcmaaGreatDoorPkJournalPlays23
import Derived.Test.YtecbnhmnhcpcmaaGreatDoorPkJournalPlays24
/-! The store and the reference's list, side by side: plain. -/
namespace Go.Proofs.YtecbnhmnhcpcmaaGreatDoor
open Go.RowKit Go.WideMaps Go.Maps
set_option linter.unusedVariables false
theorem big8_inj {x y : Nat} (hx : x < 18446744073709551616) (hy : y < 18446744073709551616) (h : big8 x = big8 y) : x = y := by
  rw [← unbig_big x hx, ← unbig_big y hy, h]
theorem gt_post_new {D : DM} (hM : IsMap D) {t : Int} {ten : Nat} {L : List Pt} : gt (postD D t ten L) (106 :: big8 (lastN D + 1)) = some (postL (lastN D + 1) t ten L) := by
  unfold postD
  rw [gt_kept_ne (fun e => by have := congrArg List.head? e; simp at this), gt_keptAll_ne _ _ _ (fun kx hkx => by
    obtain ⟨q, -, rfl⟩ := List.mem_map.1 hkx
    exact fun e => by have := congrArg List.head? e; simp [balK] at this), gt_pt hM]
theorem gt_postj {D : DM} {t : Int} {ten : Nat} {L : List Pt} {x : Nat} (h : big8 x ≠ big8 (lastN D + 1)) : gt (postD D t ten L) (106 :: big8 x) = gt D (106 :: big8 x) := by
  unfold postD
  rw [gt_kept_ne (fun e => by have := congrArg List.head? e; simp at this), gt_keptAll_ne _ _ _ (fun kx hkx => by
    obtain ⟨q, -, rfl⟩ := List.mem_map.1 hkx
    exact fun e => by have := congrArg List.head? e; simp [balK] at this), gt_pt_ne (fun e => h (by injection e))]
theorem posts_seq {t : Int} {L : List Pt} (n : Nat) (h : postsB 1 t L = true) : postsB (n + 1) t L = true := by
  unfold postsB at h ⊢
  rw [Bool.and_eq_true, decide_eq_true_eq] at h
  rw [Bool.and_eq_true, decide_eq_true_eq]
  exact ⟨⟨by omega, h.1.2⟩, h.2⟩
structure Kept1 (D : DM) (i : Nat) (p : Po) : Prop where
  seq : p.s = i + 1
  got : gt D (106 :: big8 (i + 1)) = some (postL (i + 1) p.t p.ten p.ps)
  may : postsB (i + 1) p.t p.ps = true
  time : Acct.inInt p.t
  ten : p.ten < 4294967296
structure Tied (D : DM) (RL : List Po) : Prop where
  jn : Jn D RL.length
  bnd : Bnd D
  bals : ∀ s, bal D s = ram RL s
  rows : ∀ (i : Nat) (p : Po), RL[i]? = some p → Kept1 D i p
  none : ∀ x : Nat, RL.length < x → x < 18446744073709551616 → gt D (106 :: big8 x) = none
theorem tied_empty : Tied (.map []) [] := ⟨jn_empty, bnd_empty, fun s => by rw [bal_zero]; rfl, fun i p h => by simp at h, fun x _ _ => rfl⟩
theorem wrap_bal {D : DM} {RL : List Po} (h : Tied D RL) (s : ByteArray) : wrap64 (ram RL s) = ram RL s := by
  have h1 := h.bnd s
  rw [h.bals s] at h1
  unfold wrap64
  omega
theorem over_same {D : DM} {RL : List Po} (h : Tied D RL) (q : Pt) : roverB RL q = overB D q := by
  unfold roverB overB nbV
  have : (balV D q.a).1 = wrap64 (ram RL q.a) := by rw [wrap_bal h]; exact h.bals q.a
  rw [this]
theorem tied_post {D : DM} {RL : List Po} (h : Tied D RL) (hn : RL.length < 1000) (t : Int) (ten : Nat) (L : List Pt) (ht : Acct.inInt t) (hten : ten < 4294967296) (hi : ∀ q ∈ L, Acct.inInt q.n) :
    (rpE RL t L ≠ 0 ∧ postO D t ten L = (0, rpE RL t L, D)) ∨ (rpE RL t L = 0 ∧ postO D t ten L = ((RL.length : Int) + 1, 0, postD D t ten L) ∧ ∀ lv, Tied (postD D t ten L) (RL ++ [⟨RL.length + 1, t, ten, L, lv⟩])) := by
  have hl := h.jn.last
  have hov : L.any (roverB RL) = L.any (overB D) := by
    congr 1
    exact funext fun q => over_same h q
  by_cases h1 : postsB 1 t L = true ∧ mayJ L = true
  · have m1 : mayR17 t L = true := by unfold mayR17; rw [h1.1, h1.2]; rfl
    by_cases h2 : evenB allP L = true ∧ evenB unitP L = true
    · have m2 : (evenB allP L && evenB unitP L) = true := by rw [h2.1, h2.2]; rfl
      cases h3 : L.any (overB D)
      · have hE : rpE RL t L = 0 := by unfold rpE; rw [if_neg (by rw [m1]; decide), if_neg (by rw [m2]; decide), hov, h3]; rfl
        refine .inr ⟨hE, ?_, fun lv => ?_⟩
        · unfold postO
          rw [if_neg (fun k => k h1), if_neg (fun k => k h2), if_neg (by rw [h3]; decide), hl]
          rfl
        · rcases postO_cases h.jn (by omega) t ten L with ⟨er, he, hp⟩ | ⟨-, hj, -⟩
          · unfold postO at hp
            rw [if_neg (fun k => k h1), if_neg (fun k => k h2), if_neg (by rw [h3]; decide)] at hp
            injection hp with _ hp
            injection hp with hp _
            omega
          refine ⟨by rw [List.length_append]; exact hj, bnd_postD h.jn h.bnd h1.2 h3 hi, fun s => by rw [bal_postD h.jn h1.2 h3, ram_snoc, h.bals s], ?_, ?_⟩
          · intro i p hp
            rcases Nat.lt_trichotomy i RL.length with g | g | g
            · rw [List.getElem?_append_left g] at hp
              obtain ⟨k1, k2, k3, k4, k5⟩ := h.rows i p hp
              exact ⟨k1, by rw [gt_postj (fun e => by have := big8_inj (by omega) (by omega) e; omega)]; exact k2, k3, k4, k5⟩
            · rw [g, List.getElem?_append_right (Nat.le_refl _)] at hp
              simp at hp
              subst hp g
              have := gt_post_new h.jn.isM (t := t) (ten := ten) (L := L)
              rw [hl] at this
              exact ⟨rfl, this, posts_seq _ h1.1, ht, hten⟩
            · rw [List.getElem?_eq_none (by simp; omega)] at hp
              cases hp
          · intro x hx hx2
            rw [List.length_append] at hx
            have hx' : RL.length + 1 < x := hx
            rw [gt_postj (fun e => by have := big8_inj hx2 (by omega) e; omega)]
            exact h.none x (by omega) hx2
      · have hE : rpE RL t L = 30 := by unfold rpE; rw [if_neg (by rw [m1]; decide), if_neg (by rw [m2]; decide), hov, h3]; rfl
        refine .inl ⟨by rw [hE]; decide, ?_⟩
        rw [hE]
        unfold postO
        rw [if_neg (fun k => k h1), if_neg (fun k => k h2), if_pos h3]
    · have m2 : (evenB allP L && evenB unitP L) = false := by
        cases e1 : evenB allP L <;> cases e2 : evenB unitP L <;> simp_all
      have hE : rpE RL t L = 32 := rpE_32 m1 m2
      refine .inl ⟨by rw [hE]; decide, ?_⟩
      rw [hE]
      unfold postO
      rw [if_neg (fun k => k h1), if_pos h2]
  · have m1 : mayR17 t L = false := by
      unfold mayR17
      cases e1 : postsB 1 t L <;> cases e2 : mayJ L <;> simp_all
    have hE : rpE RL t L = 1 := rpE_1 m1
    refine .inl ⟨by rw [hE]; decide, ?_⟩
    rw [hE]
    unfold postO
    rw [if_pos h1]
end Go.Proofs.YtecbnhmnhcpcmaaGreatDoor
/-! The walk of the reference's SamePosting, of like ones. -/
namespace Go.Proofs.YtecbnhmnhcpcmaaGreatDoor
open Go.RowKit Go.WideMaps Go.Maps
set_option linter.unusedVariables false
set_option linter.unusedSimpArgs false
set_option maxRecDepth 100000
set_option maxHeartbeats 2000000 in
theorem samep_any {s ten : Nat} {t : Int} (v1 v2 : Value) (L : List Pt) (w : World) (h1 : RowsIn w v1 2 (L.map Pt.cells)) (h2 : RowsIn w v2 2 (L.map Pt.cells)) (hn : L.length ≤ 40) : Calls Tryz.prog 16 #[postV s t ten v1, postV s t ten v2] w fun e w' => e = .returned (.bool true) ∧ Below w.heap.size w w' := by
  have H1 := Lib.hid h1
  have H2 := Lib.hid h2
  obtain ⟨a1, c1, rfl⟩ := pt_form h1
  obtain ⟨a2, c2, rfl⟩ := pt_form h2
  clear h1 h2
  unfold postV
  go_enter Tryz.func16, Tryz.ntmps16
  go_upto_region 1 with fail
  obtain ⟨w2, hw2⟩ : ∃ W, W = ((w.alloc (.cells #[.int .u64 s, .int .i64 t, .int .u32 ten, .slice a1 L.length c1] 49)).alloc (.cells #[.int .u64 s, .int .i64 t, .int .u32 ten, .slice a2 L.length c2] 49)) := ⟨_, rfl⟩
  rw [← hw2]
  obtain ⟨hb, q1, q2, -⟩ := two_blocks w #[.int .u64 s, .int .i64 t, .int .u32 ten, .slice a1 L.length c1] #[.int .u64 s, .int .i64 t, .int .u32 ten, .slice a2 L.length c2] 49 49
  rw [← hw2] at hb q1 q2
  have KX : Hid (∀ W, Below w2.heap.size w2 W → (W.cell? ⟨w.heap.size, 0, none⟩ = some (.int .u64 s) ∧ W.cell? ⟨w.heap.size, 1, none⟩ = some (.int .i64 t) ∧ W.cell? ⟨w.heap.size, 2, none⟩ = some (.int .u32 ten) ∧ W.cell? ⟨w.heap.size, 3, none⟩ = some (.slice a1 L.length c1)) ∧ (W.cell? ⟨w.heap.size + 1, 0, none⟩ = some (.int .u64 s) ∧ W.cell? ⟨w.heap.size + 1, 1, none⟩ = some (.int .i64 t) ∧ W.cell? ⟨w.heap.size + 1, 2, none⟩ = some (.int .u32 ten) ∧ W.cell? ⟨w.heap.size + 1, 3, none⟩ = some (.slice a2 L.length c2))) := fun W hb => ⟨post_cells (stays_block hb q1), post_cells (stays_block hb q2)⟩
  have B2 := Lib.hid hb
  clear hb q1 q2 hw2
  obtain ⟨⟨x0, x1, x2, x3⟩, y0, y1, y2, y3⟩ := KX.out w2 (Below.refl _ _)
  go_wp2_with fail
  clear x0 x1 x2 x3 y0 y1 y2 y3
  go_loopw [5] (fun iv wr => ∃ i : Nat, i ≤ L.length ∧ iv = .int .i64 i ∧ Hid (Below w2.heap.size w2 wr)) (fun iv _ => L.length - (intOf iv).toNat)
  case atStart => exact ⟨0, by omega, rfl, Below.refl _ _⟩
  case round =>
    obtain ⟨i, hi, rfl, BR⟩ := hrel
    obtain ⟨⟨-, -, -, x3⟩, -, -, -, y3⟩ := KX.out _ BR.out
    by_cases hlt : i < L.length
    · have hz : (i : Int) < (L.length : Int) := by omega
      obtain ⟨g, o, rfl, z0, z1⟩ := pt_cells (H1.out.below (onward BR.out B2.out)) i hlt
      obtain ⟨g', o', rfl, z0', z1'⟩ := pt_cells (H2.out.below (onward BR.out B2.out)) i hlt
      generalize L[i] = q at *
      obtain ⟨nm, am⟩ := q
      dsimp only at z0 z1 z0' z1'
      go_upto_region 6 with fail
      go_quiet (fail)
      have BQ := Lib.hid (World.below_drewN (Below.refl wr.heap.size wr) nq)
      go_wp2_with fail
      go_roundw
      case rel => exact ⟨i + 1, by omega, by go_num, onward BQ.out BR.out⟩
      case measure => simp [intOf]; omega
    · obtain rfl : i = L.length := by omega
      have di : decide ((L.length : Int) < (L.length : Int)) = false := decide_eq_false (by omega)
      go_wp2_with fail
      go_ret
      exact ⟨rfl, onward BR.out B2.out⟩
end Go.Proofs.YtecbnhmnhcpcmaaGreatDoor
/-! Rows of strings beside the store and the reference's list. -/
namespace Go.Proofs.YtecbnhmnhcpcmaaGreatDoor
open Go.RowKit Go.WideMaps Go.Maps
set_option linter.unusedVariables false
theorem str_block {w : World} {base : Nat} {v : Value} {n k : Nat} {xs : List Value} (h : w.ownsRow base 9 1 v n xs) (hk : v.ownBlock = some k) : base ≤ k ∧ ∃ cs, w.heap[k]? = some (.cells cs 9 (0, 0)) := by
  obtain ⟨_, ⟨rfl, _⟩ | ⟨g, cap, cur, rfl, h2, h3, _⟩⟩ := h
  · cases hk
  · injection hk with hk
    subst hk
    exact ⟨h2, cur, h3⟩
section
variable {w w' : World} {base m : Nat} {v : Value} {xs : List Value} (hg : w.grownBy w' v.ownBlock) (ho : w.ownsRow base 9 1 v m xs)
include hg ho
theorem strg_cells {k T : Nat} {cs : Array Value} {fr : Nat × Nat} (h : w.heap[k]? = some (.cells cs T fr)) (hT : T ≠ 9) : w'.heap[k]? = some (.cells cs T fr) :=
  (hg.block k (lt_of_block h) fun e => by
    obtain ⟨_, c, h2⟩ := str_block ho e.symm
    rw [h] at h2; injection h2 with h2; injection h2 with _ h2 _; exact hT h2).trans h
theorem strg_map {k c : Nat} {es : Array MapEntry} (h : w.heap[k]? = some (.map es c)) : w'.heap[k]? = some (.map es c) :=
  (hg.block k (lt_of_block h) fun e => by
    obtain ⟨_, c, h2⟩ := str_block ho e.symm
    rw [h] at h2; cases h2).trans h
theorem strg_mem {p b1 b2 n : Nat} {room : Int} {D D2 : DM} (h : MemS w p b1 b2 room n D D2) : MemS w' p b1 b2 room n D D2 := by
  refine ⟨strg_cells hg ho h.box (by decide), ?_, ?_, h.ne⟩
  · obtain ⟨es, c, h1, h2⟩ := h.now
    exact ⟨es, c, strg_map hg ho h1, h2⟩
  · obtain ⟨es, c, h1, h2⟩ := h.was
    exact ⟨es, c, strg_map hg ho h1, h2⟩
theorem strg_own {b2 size n e : Nat} {v2 : Value} {ys : List Value} (he : e ≠ 9) (h : w.ownsRow b2 e size v2 n ys) : w'.ownsRow b2 e size v2 n ys := by
  obtain ⟨hl, ⟨rfl, h0⟩ | ⟨g, cap, cur, rfl, h3, h4, h5⟩⟩ := h
  · exact ⟨hl, .inl ⟨rfl, h0⟩⟩
  · exact ⟨hl, .inr ⟨g, cap, cur, rfl, h3, strg_cells hg ho h4 he, h5⟩⟩
theorem strg_jr {B jp : Nat} {rv : Value} {RL : List Po} (h : JR B w jp rv RL) : JR B w' jp rv RL :=
  ⟨strg_cells hg ho h.box (by decide), strg_own hg ho (by decide) h.list, fun p hp => strg_own hg ho (by decide) (h.parts p hp), h.lt, h.seqs⟩
end
theorem one_str (s : ByteArray) : ∀ u : Value, u ∈ [Value.string s] → u.oneCell' = true := fun u hu => by simp at hu; subst hu; rfl
/-- names in a row -/
theorem str_cell {w : World} {B : Nat} {a : Option Addr} {n c : Nat} {N : List ByteArray} (h : w.ownsRow B 9 1 (.slice a n c) N.length (N.map Value.string)) (i : Nat) (hi : i < N.length) : ∃ b, n = N.length ∧ a = some ⟨b, 0, none⟩ ∧ ∀ W, Below w.heap.size w W → W.cell? ⟨b, i, none⟩ = some (.string N[i]) := by
  obtain ⟨h1, ⟨_, h2⟩ | ⟨g, cap, cur, h2, h3, h4, h5, h6, h7, h8⟩⟩ := h
  · omega
  · injection h2 with h2 h9 h10
    refine ⟨g, h9, h2, fun W hb => ?_⟩
    rw [cell_of_row (stays_block hb h4)]
    have h11 : cur.toList[i]? = some (.string N[i]) := by
      have := congrArg (fun l => l[i]?) h8
      simp only [List.getElem?_take, List.getElem?_map] at this
      rw [if_pos (by omega)] at this
      rw [this, List.getElem?_eq_getElem hi]
      rfl
    rw [← Array.getElem?_toList]
    exact h11
theorem ac_at {w : World} {g o n c : Nat} {L : List Ac} (h : RowsIn w (.slice (some ⟨g, o, none⟩) n c) 3 (L.map Ac.cells)) {i : Nat} {x : Ac} (hx : L[i]? = some x) : w.cell? ⟨g, o + i * 3, none⟩ = some (.int .i64 x.t) ∧ w.cell? ⟨g, o + i * 3 + 1, none⟩ = some (.int .u32 x.ten) ∧ w.cell? ⟨g, o + i * 3 + 2, none⟩ = some x.pv := by
  obtain ⟨hi, rfl⟩ := List.getElem?_eq_some_iff.1 hx
  obtain ⟨b, o', e, h1⟩ := ac_cells h i hi
  injection e with e
  injection e with e1 e2 _
  subst e1 e2
  exact h1
theorem beside_both {B p b1 b2 n m base : Nat} {room : Int} {D D2 : DM} {w w' : World} {v : Value} {xs : List Value} (h : Beside B w w') (hM : MemS w p b1 b2 room n D D2) (ho : w.ownsRow base 9 1 v m xs) : MemS w' p b1 b2 room n D D2 ∧ w'.ownsRow base 9 1 v m xs :=
  ⟨h.mem hM, h.own (by decide) (by decide) ho⟩
end Go.Proofs.YtecbnhmnhcpcmaaGreatDoor
