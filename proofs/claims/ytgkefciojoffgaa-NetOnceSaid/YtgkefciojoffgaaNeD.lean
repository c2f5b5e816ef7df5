/- The walks of the net's gate and Send. -/
import Derived.Test.YtgkefciojoffgaaNeC
import Derived.Deep.AppendLies
import Derived.Deep.DrawnRows
namespace Go.Proofs.Ytgkefciojoffgaa
open Go.RowKit
set_option linter.unusedVariables false
set_option linter.unusedSimpArgs false
attribute [local go_sem ↓] Go.wp_at_zero Go.wp_at_succ
def gateI (f t : Int) : Int := wrap64 (f + t)
def gateB (G f t : Int) : Bool := ((f == 0) != (t == 0)) && decide (1 ≤ gateI f t) && decide (gateI f t ≤ G)
def i64 (n : Int) : Prop := -9223372036854775808 ≤ n ∧ n ≤ 9223372036854775807
set_option maxHeartbeats 1000000 in
theorem gate_any (pn : Nat) (G f t : Int) (bv : Value) (w : World) (hG : w.cell? ⟨pn, 0, none⟩ = some (.int .i64 G)) (hf : i64 f) (ht : i64 t) :
    Calls Try.prog 24 #[.pointer (some ⟨pn, 0, none⟩), .agg #[.int .i64 f, .int .i64 t, bv]] w fun e w' => e = .returned (.tuple #[.int .i64 (gateI f t), .bool (gateB G f t)]) ∧ Below w.heap.size w w' := by
  have hG2 : (w.alloc (.cells #[.int .i64 f, .int .i64 t, bv] 30)).cell? ⟨pn, 0, none⟩ = some (.int .i64 G) := stays (below_alloc _ _) hG
  have BW := Lib.hid (below_alloc w (.cells #[.int .i64 f, .int .i64 t, bv] 30))
  have HG : Hid (gateI f t = wrap64 (f + t)) := rfl
  obtain ⟨g, hg⟩ : ∃ g, wrap64 (f + t) = g := ⟨_, rfl⟩
  rw [hg] at HG
  cases h0 : (f == 0) <;> cases h1 : (t == 0) <;> by_cases h2 : 1 ≤ g
  all_goals
    have HB : Hid (gateB G f t = (((f == 0) != (t == 0)) && decide (1 ≤ g) && decide (g ≤ G))) := by
      show _ = _
      unfold gateB
      rw [HG.out]
    rw [h0, h1] at HB
    have e2 : decide (1 ≤ g) = true ∨ decide (1 ≤ g) = false := by cases decide (1 ≤ g) <;> simp
    have e3 : (decide (1 ≤ g) = true ↔ 1 ≤ g) := decide_eq_true_iff
    rcases e2 with e2 | e2
    all_goals first | (exfalso; rw [e2] at e3; simp at e3; omega) | skip
    all_goals
      clear e3
      rw [e2] at HB
      go_enter Try.func24, Try.ntmps24
      go_wp2_with fail
      go_quiet (fail)
      go_wp2
      go_ret2
      exact ⟨by rw [HG.out, HB.out]; subst hg; first | rfl | (simp; rfl) | (congr 3; simp), World.below_drewN BW.out _⟩
/-- the net in block pn: its gates, its letters behind v, its cuts -/
def NetV (w : World) (pn : Nat) (G : Int) (v : Value) (L : List Lt) (c0 c1 c2 c3 : Bool) : Prop :=
  w.heap[pn]? = some (.cells #[.int .i64 G, v, .bool c0, .bool c1, .bool c2, .bool c3] 56 (0, 0)) ∧ w.ownsRow (pn + 1) 30 3 v L.length (L.flatMap Lt.cells)
def LtsAt (B : Nat) (w : World) (L : List Lt) : Prop := ∀ l ∈ L, BytesAt B w l.bv l.bs
theorem LtsAt.step {B : Nat} {w w' : World} {L : List Lt} (h : LtsAt B w L) (hs : Stp B w w') : LtsAt B w' L := fun l hl => (h l hl).step hs
/-- what an act on the net may turn: its block, its row -/
def Mine (pn : Nat) (v : Value) (k : Nat) : Prop := k = pn ∨ v.ownBlock = some k
theorem own_typed {w : World} {base : Nat} {e : TypeId} {size n : Nat} {v : Value} {xs : List Value} (h : w.ownsRow base e size v n xs) {k : Nat} (hk : v.ownBlock = some k) : base ≤ k ∧ ∃ cs, w.heap[k]? = some (.cells cs e (0, 0)) := by
  obtain ⟨_, ⟨rfl, _⟩ | ⟨g, cap, cur, rfl, h2, h3, _⟩⟩ := h
  · cases hk
  · injection hk with hk
    subst hk
    exact ⟨h2, cur, h3⟩
theorem NetV.stp {B : Nat} {w w' : World} {pn : Nat} {G : Int} {v : Value} {L : List Lt} {c0 c1 c2 c3 : Bool} (h : NetV w pn G v L c0 c1 c2 c3) (hB : B ≤ pn) (hk : Kept (Mine pn v) w w') : Stp B w w' :=
  .of_kept hk fun k hm => by
    rcases hm with rfl | hm
    · exact ⟨hB, _, _, _, h.1, by decide⟩
    · obtain ⟨h1, cs, h2⟩ := own_typed h.2 hm
      exact ⟨by omega, _, _, _, h2, by decide⟩
theorem NetV.below {w w' : World} {pn : Nat} {G : Int} {v : Value} {L : List Lt} {c0 c1 c2 c3 : Bool} (h : NetV w pn G v L c0 c1 c2 c3) (hb : Below w.heap.size w w') : NetV w' pn G v L c0 c1 c2 c3 := ⟨stays_block hb h.1, ownsRow_below h.2 hb⟩
theorem net_cells {w : World} {pn : Nat} {T : Nat} {x0 x1 x2 x3 x4 x5 : Value} (h : w.heap[pn]? = some (.cells #[x0, x1, x2, x3, x4, x5] T (0, 0))) : pn < w.heap.size ∧ w.cell? ⟨pn, 0, none⟩ = some x0 ∧ w.cell? ⟨pn, 1, none⟩ = some x1 ∧ w.cell? ⟨pn, 2, none⟩ = some x2 ∧ w.cell? ⟨pn, 3, none⟩ = some x3 ∧ w.cell? ⟨pn, 4, none⟩ = some x4 ∧ w.cell? ⟨pn, 5, none⟩ = some x5 := by
  refine ⟨lt_of_block h, ?_, ?_, ?_, ?_, ?_, ?_⟩ <;> simp [World.cell?, h]
theorem net_form {w : World} {base : Nat} {e : TypeId} {size : Nat} {v : Value} {n : Nat} {xs : List Value} (h : w.ownsRow base e size v n xs) : ∃ a c, v = .slice a n c := by
  obtain ⟨_, ⟨rfl, rfl⟩ | ⟨g, cap, cur, rfl, _⟩⟩ := h
  · exact ⟨_, _, rfl⟩
  · exact ⟨_, _, rfl⟩
/-- a letter sent: what is answered -/
def sendI (G f t : Int) (len n : Nat) : Int := if gateB G f t = false then 1 else if 4096 < len then 2 else if 4096 ≤ n then 3 else 0
/-- behind an act: the net, and what has not turned -/
def NetEnd (B pn : Nat) (G : Int) (v : Value) (L' : List Lt) (c0 c1 c2 c3 : Bool) (w w' : World) : Prop :=
  ∃ v', NetV w' pn G v' L' c0 c1 c2 c3 ∧ LtsAt B w' L' ∧ Kept (Mine pn v) w w' ∧ (v'.ownBlock = v.ownBlock ∨ ∀ k, v'.ownBlock = some k → w.heap.size ≤ k)
theorem NetEnd.same {B pn : Nat} {G : Int} {v : Value} {L : List Lt} {c0 c1 c2 c3 : Bool} {w w' : World} (h : NetV w pn G v L c0 c1 c2 c3) (hl : LtsAt B w L) (hb : Below w.heap.size w w') : NetEnd B pn G v L c0 c1 c2 c3 w w' :=
  ⟨v, h.below hb, hl.step (.of_below hb), Kept.of_below hb _, .inl rfl⟩
set_option maxHeartbeats 1000000 in
theorem send_nil (f t : Int) (bv : Value) (w : World) : Calls Try.prog 9 #[.pointer none, .agg #[.int .i64 f, .int .i64 t, bv]] w fun e w' => e = .returned (.int .i64 8) ∧ Below w.heap.size w w' := by
  have BW := Lib.hid (below_alloc w (.cells #[.int .i64 f, .int .i64 t, bv] 30))
  go_enter Try.func9, Try.ntmps9
  go_wp2_with fail
  go_ret
  exact ⟨rfl, BW.out⟩
set_option maxHeartbeats 1000000 in
set_option maxRecDepth 1000000 in
theorem send_no (B pn : Nat) (G : Int) (v : Value) (L : List Lt) (c0 c1 c2 c3 : Bool) (f t : Int) (bv : Value) (bs : List UInt8) (w : World) (hN : NetV w pn G v L c0 c1 c2 c3) (hB : BytesAt B w bv bs) (hf : i64 f) (ht : i64 t) (hs : sendI G f t bs.length L.length ≠ 0) (hll : L.length ≤ 4096) (hbl : bs.length ≤ 9223372036854775807) :
    Calls Try.prog 9 #[.pointer (some ⟨pn, 0, none⟩), .agg #[.int .i64 f, .int .i64 t, bv]] w fun e w' => e = .returned (.int .i64 (sendI G f t bs.length L.length)) ∧ Below w.heap.size w w' := by
  obtain ⟨z0, n0, n1, -⟩ := net_cells hN.1
  obtain ⟨a, c, rfl⟩ := net_form hN.2
  obtain ⟨a2, c2, rfl⟩ := hB.form
  obtain ⟨s, hs0⟩ : ∃ s, sendI G f t bs.length L.length = s := ⟨_, rfl⟩
  rw [hs0] at hs ⊢
  have HS0 := Lib.hid hs0
  have BW := Lib.hid (below_alloc w (.cells #[.int .i64 f, .int .i64 t, .slice a2 bs.length c2] 30))
  have G0 := heap_alloc_new w (.cells #[.int .i64 f, .int .i64 t, .slice a2 bs.length c2] 30)
  obtain ⟨z1, k0, k1, k2⟩ := three_cells G0
  have n0a := stays (below_alloc w (.cells #[.int .i64 f, .int .i64 t, .slice a2 bs.length c2] 30)) n0
  have n1a := stays (below_alloc w (.cells #[.int .i64 f, .int .i64 t, .slice a2 bs.length c2] 30)) n1
  clear hs0 hN hB n0 n1
  have hsz : w.heap.size + 1 = (w.alloc (.cells #[.int .i64 f, .int .i64 t, .slice a2 bs.length c2] 30)).heap.size := by simp
  go_enter Try.func9, Try.ntmps9
  go_wp2_with fail
  generalize w.alloc (.cells #[.int .i64 f, .int .i64 t, .slice a2 bs.length c2] 30) = W at *
  have HSZ := Lib.hid hsz
  clear hsz
  refine (gate_any pn G f t _ _ n0a hf ht).mono ?_
  rintro e w1 ⟨rfl, hb⟩
  have B1 := Lib.hid (onward hb BW.out)
  have G1 := stays_block hb G0
  obtain ⟨z2, k0', k1', k2'⟩ := three_cells G1
  have n1' := stays hb n1a
  clear hb n0a n1a k0 k1 k2 G0 G1 z1
  cases hg : gateB G f t
  · have hs1 : s = 1 := by have := HS0.out; unfold sendI at this; rw [if_pos hg] at this; exact this.symm
    subst hs1
    clear hg
    go_wp2_with fail
    go_ret
    exact ⟨rfl, B1.out⟩
  · by_cases h1 : 4096 < bs.length
    · have hs1 : s = 2 := by have := HS0.out; unfold sendI at this; rw [if_neg (by rw [hg]; simp), if_pos h1] at this; exact this.symm
      subst hs1
      clear hg
      go_wp2_with fail
      go_ret
      exact ⟨rfl, B1.out⟩
    · by_cases h2 : 4096 ≤ L.length
      · have hs1 : s = 3 := by have := HS0.out; unfold sendI at this; rw [if_neg (by rw [hg]; simp), if_neg h1, if_pos h2] at this; exact this.symm
        subst hs1
        clear hg
        go_wp2_with fail
        go_ret
        exact ⟨rfl, B1.out⟩
      · have := HS0.out
        unfold sendI at this
        rw [if_neg (by rw [hg]; simp), if_neg h1, if_neg h2] at this
        exact absurd this.symm hs
theorem one_lt (f t : Int) (a : Option Addr) (n c : Nat) : ∀ u : Value, u ∈ [Value.int .i64 f, .int .i64 t, .slice a n c] → u.oneCell' = true := by
  intro u hu
  simp only [List.mem_cons, List.not_mem_nil, or_false] at hu
  rcases hu with rfl | rfl | rfl <;> rfl
theorem slice_mine {w : World} {base : Nat} {e : TypeId} {size n : Nat} {v : Value} {xs : List Value} (h : w.ownsRow base e size v n xs) : ∀ k, v.ownBlock = some k → base ≤ k := fun k hk => (own_typed h hk).1
theorem Kept.of_grown {w w' : World} {v : Value} {S : Nat → Prop} (h : w.grownBy w' v.ownBlock) (hs : ∀ k, v.ownBlock = some k → S k) : Kept S w w' :=
  ⟨h.os, h.tape, h.output, h.size, fun k hk hn => h.block k hk fun e => hn (hs k e.symm)⟩
theorem send_close {B pn : Nat} {G : Int} {v : Value} {L : List Lt} {c0 c1 c2 c3 : Bool} {f t : Int} {bv : Value} {bs : List UInt8} {w w2 w3 : World} {g cap : Nat} (hBp : B ≤ pn) (HN : NetV w pn G v L c0 c1 c2 c3) (HL : LtsAt B w L) (B2 : Below w.heap.size w w2) (h2 : BytesAt B w2 bv bs)
    (hown : w3.ownsRow (pn + 1) 30 3 (.slice (some ⟨g, 0, none⟩) (L.length + 1) cap) (L.length + 1) (L.flatMap Lt.cells ++ [.int .i64 f, .int .i64 t, bv])) (hg : (w2.alloc (.cells #[.int .i64 f, .int .i64 t, bv] 30)).grownBy w3 v.ownBlock)
    (hat : v.ownBlock = some g ∨ g = (w2.alloc (.cells #[.int .i64 f, .int .i64 t, bv] 30)).heap.size) (HV3 : w3.heap[pn]? = some (.cells #[.int .i64 G, v, .bool c0, .bool c1, .bool c2, .bool c3] 56 (0, 0))) :
    NetEnd B pn G v (L ++ [⟨f, t, bv, bs⟩]) c0 c1 c2 c3 w (w3.setCell ⟨pn, 1, none⟩ (.slice (some ⟨g, 0, none⟩) (L.length + 1) cap)) := by
  have hk2 : Kept (Mine pn v) w2 (w3.setCell ⟨pn, 1, none⟩ (.slice (some ⟨g, 0, none⟩) (L.length + 1) cap)) := ((Kept.alloc _ w2 _).trans (Kept.of_grown hg fun k hk => .inr hk)).trans (Kept.setCell _ _ _ (.inl rfl))
  have hk : Kept (Mine pn v) w (w3.setCell ⟨pn, 1, none⟩ (.slice (some ⟨g, 0, none⟩) (L.length + 1) cap)) := (Kept.of_below B2 _).trans hk2
  refine ⟨.slice (some ⟨g, 0, none⟩) (L.length + 1) cap, ⟨set_block HV3, ?_⟩, ?_, hk, ?_⟩
  · have h1 := ownsRow_setCell_other (a := ⟨pn, 1, none⟩) hown (fun e => by have := (hown.lt _ e).1; exact absurd this (by show ¬ pn + 1 ≤ pn; omega)) (.slice (some ⟨g, 0, none⟩) (L.length + 1) cap)
    rw [List.flatMap_append, List.length_append]
    exact h1
  · intro l hl
    rcases List.mem_append.1 hl with h | h
    · exact (HL l h).step (HN.stp hBp hk)
    · simp at h; subst h
      exact h2.step ((HN.below B2).stp hBp hk2)
  · rcases hat with h | h
    · exact .inl (by rw [h]; rfl)
    · refine .inr fun k hk => ?_
      have e : g = k := by simpa [Value.ownBlock] using hk
      have := B2.size
      simp at h
      omega
set_option maxHeartbeats 4000000 in
set_option maxRecDepth 10000000 in
theorem send_yes (B pn : Nat) (G : Int) (v : Value) (L : List Lt) (c0 c1 c2 c3 : Bool) (f t : Int) (bv : Value) (bs : List UInt8) (w : World) (hBp : B ≤ pn) (hN : NetV w pn G v L c0 c1 c2 c3) (hL : LtsAt B w L) (hB : BytesAt B w bv bs) (hf : i64 f) (ht : i64 t) (hs : sendI G f t bs.length L.length = 0) :
    Calls Try.prog 9 #[.pointer (some ⟨pn, 0, none⟩), .agg #[.int .i64 f, .int .i64 t, bv]] w fun e w' => e = .returned (.int .i64 0) ∧ ∃ bv', New w.heap.size bv' ∧ NetEnd B pn G v (L ++ [⟨f, t, bv', bs⟩]) c0 c1 c2 c3 w w' := by
  have hs3 : gateB G f t = true ∧ bs.length ≤ 4096 ∧ L.length < 4096 := by
    unfold sendI at hs
    split at hs
    · omega
    · rename_i hg
      split at hs
      · omega
      · split at hs
        · omega
        · exact ⟨by simpa using hg, by omega, by omega⟩
  obtain ⟨hg, hbl, hll⟩ := hs3
  obtain ⟨z0, n0, n1, -⟩ := net_cells hN.1
  obtain ⟨a, c, rfl⟩ := net_form hN.2
  obtain ⟨a2, c2, rfl⟩ := hB.form
  have BW := Lib.hid (below_alloc w (.cells #[.int .i64 f, .int .i64 t, .slice a2 bs.length c2] 30))
  have G0 := heap_alloc_new w (.cells #[.int .i64 f, .int .i64 t, .slice a2 bs.length c2] 30)
  obtain ⟨z1, k0, k1, k2⟩ := three_cells G0
  have n0a := stays (below_alloc w (.cells #[.int .i64 f, .int .i64 t, .slice a2 bs.length c2] 30)) n0
  have n1a := stays (below_alloc w (.cells #[.int .i64 f, .int .i64 t, .slice a2 bs.length c2] 30)) n1
  have HN := Lib.hid hN
  have HB := Lib.hid hB
  have HL := Lib.hid hL
  clear hs hN hB hL n0 n1
  have hsz : w.heap.size + 1 = (w.alloc (.cells #[.int .i64 f, .int .i64 t, .slice a2 bs.length c2] 30)).heap.size := by simp
  go_enter Try.func9, Try.ntmps9
  go_wp2_with fail
  generalize w.alloc (.cells #[.int .i64 f, .int .i64 t, .slice a2 bs.length c2] 30) = W at *
  have HSZ := Lib.hid hsz
  clear hsz
  refine (gate_any pn G f t _ _ n0a hf ht).mono ?_
  rintro e w1 ⟨rfl, hb⟩
  rw [hg]
  have B1 := Lib.hid (onward hb BW.out)
  have G1 := stays_block hb G0
  obtain ⟨z2, k0', k1', k2'⟩ := three_cells G1
  have n1' := stays hb n1a
  clear hb n0a n1a k0 k1 k2 G0 z1 hg
  obtain ⟨i0, hi, hz0, hz1, hz2⟩ := info_parts infoL
  go_wp2_with fail
  have B1d := Lib.hid (show Below w1.heap.size w1 w1.drew from (Below.refl _ _).drew)
  have hBd : Hid (BytesAt B w1.drew (.slice a2 bs.length c2) bs) := (HB.out.below B1.out).below B1d.out
  have hwd : B ≤ w1.drew.heap.size := by have := B1.out.size; show B ≤ w1.heap.size; omega
  have HV1 := Lib.hid (stays_block B1.out HN.out.1)
  have HO1 := Lib.hid (ownsRow_below HN.out.2 B1.out)
  go_region_law (first | (go_simp; go_at_call 25; ((with_reducible refine (whole_any B f t _ bs _ hwd hBd.out (by omega)).mono ?_); rintro e w2 ⟨v2, rfl, hb2, hb, hnw⟩; have NW := Lib.hid hnw.new; clear hnw; obtain ⟨a3, c4, rfl⟩ := hb2.form; have H2 := Lib.hid hb2; have B2 := Lib.hid ((Below.refl _ _).drew.trans hb); clear hb hb2; have m1 := stays B2.out n1'; have m2 : (w2.alloc (.cells #[.int .i64 f, .int .i64 t, .slice a3 bs.length c4] 30)).cell? ⟨pn, 1, none⟩ = some (.slice a L.length c) := stays (below_alloc _ _) m1; have q0 := stays B2.out k0'; have q1 := stays B2.out k1'; have q2 := stays B2.out k2')) | ((refine step_append_lies _ (by rfl) _ _ _ (by rfl) (pn + 1) 30 i0 _ 3 40 Try.underlying34 hi hz0 hz1 hz2 rfl (by decide) (.slice a L.length c) L.length (L.flatMap Lt.cells) (by rfl) ((ownsRow_below HO1.out B2.out).alloc _) ⟨w2.heap.size, 0, none⟩ 1 1 [.int .i64 f, .int .i64 t, .slice a3 bs.length c4] (by rfl) rfl (new_cells _ _ _) (one_lt _ _ _ _ _) (by decide) (by unfold maxLen; omega) (by omega) (base_ok HV1.out B2.out) _ rfl ?_; intro g cap w3 hown3 hgrow3 hat3 hlt3; have HV3 := Lib.hid (grown_keeps ((ownsRow_below HO1.out B2.out).alloc _) hgrow3 (stays_block (below_alloc _ _) (stays_block B2.out HV1.out))); have hc3 := (net_cells HV3.out).2.2.1; have hf3 : w3.frozen? ⟨pn, 1, none⟩ = false := free_of_row HV3.out)))
  all_goals
    have HZ := Lib.hid (send_close hBp HN.out HL.out (onward B2.out B1.out) H2.out hown3 hgrow3 hat3 HV3.out)
    clear hown3 hgrow3 hat3 HV3 hc3 hf3 m1 m2 q0 q1 q2
    go_wp2
    go_ret
    exact ⟨rfl, _, NW.out.le B1.out.size, HZ.out⟩
end Go.Proofs.Ytgkefciojoffgaa
