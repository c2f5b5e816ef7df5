/- The walk of slices.Delete at letters, of one element. Letters in memory; the net in memory; the walks of slices.Clone at bytes, net.whole, gate. A drawn region's operations that only read are taken first, by a plan that is checked once. No program. -/
import Derived.Test.YtecbnhmnhcpcmaaGreatDoorPkJournalPlays0
import Derived.Deep.RegionHeld3
import Derived.Deep.DrawnRows
/-! The walk of slices.Delete at letters, of one element. -/
namespace Go.Proofs.YtecbnhmnhcpcmaaGreatDoor
open Go.RowKit
set_option linter.unusedVariables false
set_option linter.unusedSimpArgs false
theorem del_list (l : List Value) (n k : Nat) (hk : k < n) (hn : n * 3 ≤ l.length) : ((l.take (k * 3) ++ ((l.take (n * 3)).drop ((k + 1) * 3) ++ l.drop (k * 3 + ((l.take (n * 3)).drop ((k + 1) * 3)).length)))).take ((n - 1) * 3) = l.take (k * 3) ++ (l.take (n * 3)).drop ((k + 1) * 3) := by
  rw [← List.append_assoc, List.take_left' (by simp; omega)]
end Go.Proofs.YtecbnhmnhcpcmaaGreatDoor
/-! Letters in memory; the net in memory; the walks of slices.Clone at bytes, net.whole, gate. -/
namespace Go.Proofs.YtecbnhmnhcpcmaaGreatDoor
open Go.RowKit
set_option linter.unusedVariables false
set_option linter.unusedSimpArgs false
/-- a letter: from, to, the value of its bytes, its bytes -/
structure Lt where
  (f t : Int) (bv : Value) (bs : List UInt8)
/-- what a letter says -/
abbrev Lt.says (l : Lt) : Int × Int × List UInt8 := (l.f, l.t, l.bs)
def Lt.val (l : Lt) : Value := .agg #[.int .i64 l.f, .int .i64 l.t, l.bv]
def Lt.cells (l : Lt) : List Value := [.int .i64 l.f, .int .i64 l.t, l.bv]
/-- bytes lie in memory: in a block below B, or in one of bytes -/
def BytesAt (B : Nat) (w : World) (v : Value) (bs : List UInt8) : Prop :=
  ∃ a c, v = .slice a bs.length c ∧ (a = none → c = 0) ∧ ∀ i, i < bs.length → ∃ b o, a = some ⟨b, o, none⟩ ∧ w.cell? ⟨b, o + i, none⟩ = some (.int .u8 (bs.getD i 0).toNat) ∧ (b < B ∨ ∃ cs fr, w.heap[b]? = some (.cells cs 5 fr))
/-- what leaves blocks below B, and those of bytes, as they were -/
def Stp (B : Nat) (w w' : World) : Prop := ∀ k, k < w.heap.size → (k < B ∨ ∃ cs fr, w.heap[k]? = some (.cells cs 5 fr)) → w'.heap[k]? = w.heap[k]?
theorem Stp.of_kept {B : Nat} {S : Nat → Prop} {w w' : World} (h : Kept S w w') (hs : ∀ k, S k → B ≤ k ∧ ∃ cs T fr, w.heap[k]? = some (.cells cs T fr) ∧ T ≠ 5) : Stp B w w' := fun k hk hq => h.block k hk fun hS => by
  obtain ⟨h1, cs, T, fr, h2, h3⟩ := hs k hS
  rcases hq with hq | ⟨cs', fr', hq⟩
  · omega
  · rw [h2] at hq; injection hq with hq; injection hq with _ hq _; exact h3 hq
theorem Stp.of_below {B : Nat} {w w' : World} (h : Below w.heap.size w w') : Stp B w w' := fun k hk _ => h.block k hk
theorem BytesAt.step {B : Nat} {w w' : World} {v : Value} {bs : List UInt8} (h : BytesAt B w v bs) (hs : Stp B w w') : BytesAt B w' v bs := by
  obtain ⟨a, c, rfl, h0, h⟩ := h
  refine ⟨a, c, rfl, h0, fun i hi => ?_⟩
  obtain ⟨b, o, rfl, h1, h2⟩ := h i hi
  have hb := World.block_lt_of_cell? _ _ h1
  have he := hs b hb h2
  refine ⟨b, o, rfl, ?_, ?_⟩
  · rw [World.cell?_of_block (w := w) he]; exact h1
  · rw [he]; exact h2
theorem BytesAt.below {B : Nat} {w w' : World} {v : Value} {bs : List UInt8} (h : BytesAt B w v bs) (hb : Below w.heap.size w w') : BytesAt B w' v bs := h.step (.of_below hb)
theorem BytesAt.form {B : Nat} {w : World} {v : Value} {bs : List UInt8} (h : BytesAt B w v bs) : ∃ a c, v = .slice a bs.length c := by
  obtain ⟨a, c, rfl, _⟩ := h
  exact ⟨a, c, rfl⟩
def bytesV (l : List UInt8) : List Value := l.map fun c => .int .u8 c.toNat
theorem bytesV_len (l : List UInt8) : (bytesV l).length = l.length := by simp [bytesV]
theorem BytesAt.of_own {B : Nat} {w : World} {base : Nat} {v : Value} {bs : List UInt8} (h : w.ownsRow base 5 1 v bs.length (bytesV bs)) : BytesAt B w v bs := by
  have h0 := h
  obtain ⟨hl, ⟨rfl, h1⟩ | ⟨g, cap, cur, rfl, h2, h3, h4⟩⟩ := h
  · exact ⟨none, 0, by rw [h1], fun _ => rfl, fun i hi => by omega⟩
  · refine ⟨_, cap, rfl, (fun e => by cases e), fun i hi => ⟨g, 0, rfl, ?_, .inr ⟨cur, _, h3⟩⟩⟩
    have := h0.cellAt i (by omega)
    rw [Nat.zero_add, this, bytesV, List.getElem?_map, List.getElem?_eq_getElem hi, getD_at _ _ _ hi]
    rfl
theorem bytes_src {B : Nat} {w : World} {ad : Addr} {c : Nat} {bs : List UInt8} (h : BytesAt B w (.slice (some ad) bs.length c) bs) : ∀ (j : Nat) (u : Value), (bytesV bs)[j]? = some u → w.cell? (ad.add j) = some u := by
  intro j u hu
  obtain ⟨a', c', h1, _, h2⟩ := h
  injection h1 with h1 _ _
  subst h1
  unfold bytesV at hu
  rw [List.getElem?_map] at hu
  have hj : j < bs.length := by
    rcases Nat.lt_or_ge j bs.length with h | h
    · exact h
    · rw [List.getElem?_eq_none h] at hu; cases hu
  obtain ⟨b, o, h3, h4, _⟩ := h2 j hj
  injection h3 with h3
  subst h3
  rw [List.getElem?_eq_getElem hj] at hu
  injection hu with hu
  subst hu
  rw [getD_at _ _ _ hj] at h4
  have e1 : Addr.add ⟨b, o, none⟩ j = ⟨b, o + j, none⟩ := by unfold Addr.add; split <;> simp_all
  rw [e1]; exact h4
theorem bytes_one (bs : List UInt8) : ∀ u ∈ bytesV bs, u.oneCell' = true := by
  intro u hu
  obtain ⟨x, _, rfl⟩ := List.mem_map.1 hu
  rfl
theorem infoB : (Tryz.prog.info? 5).map (fun i => (i.zero, i.size, i.bytes)) = some (some (.int .u8 0), 1, 1) := by kernel_rfl
theorem own_emptyB (w : World) : (w.alloc (.cells #[] 5)).ownsRow w.heap.size 5 1 (.slice (some ⟨w.heap.size, 0, none⟩) 0 0) 0 [] :=
  ⟨rfl, .inr ⟨w.heap.size, 0, #[], rfl, Nat.le_refl _, heap_alloc_new _ _, Nat.le_refl _, Nat.zero_le _, rfl, rfl⟩⟩
/-- in a block of its own, not below C -/
def New (C : Nat) (v : Value) : Prop := ∀ k, v.ownBlock = some k → C ≤ k
theorem New.le {C D : Nat} {v : Value} (h : New D v) (hc : C ≤ D) : New C v := fun k hk => Nat.le_trans hc (h k hk)
/-- bytes in a block of their own, not below C, that may be written -/
def OwnB (C : Nat) (w : World) (v : Value) : Prop := ∀ k, v.ownBlock = some k → C ≤ k ∧ ∃ cs, w.heap[k]? = some (.cells cs 5 (0, 0))
theorem OwnB.new {C : Nat} {w : World} {v : Value} (h : OwnB C w v) : New C v := fun k hk => (h k hk).1
theorem OwnB.le {C D : Nat} {w : World} {v : Value} (h : OwnB D w v) (hc : C ≤ D) : OwnB C w v := fun k hk => ⟨Nat.le_trans hc (h k hk).1, (h k hk).2⟩
theorem OwnB.step {B C : Nat} {w w' : World} {v : Value} (h : OwnB C w v) (hs : Stp B w w') : OwnB C w' v := fun k hk => by
  obtain ⟨h1, cs, h2⟩ := h k hk
  exact ⟨h1, cs, by rw [hs k (lt_of_block h2) (.inr ⟨cs, _, h2⟩)]; exact h2⟩
theorem OwnB.of_own {C : Nat} {w : World} {base : Nat} {v : Value} {n : Nat} {xs : List Value} (h : w.ownsRow base 5 1 v n xs) : OwnB base w v := by
  intro k hk
  obtain ⟨_, ⟨rfl, _⟩ | ⟨g, cap, cur, rfl, h2, h3, _⟩⟩ := h
  · cases hk
  · injection hk with hk
    subst hk
    exact ⟨h2, cur, h3⟩
set_option maxHeartbeats 1000000 in
theorem clone_any (B : Nat) (v : Value) (bs : List UInt8) (w : World) (hB : BytesAt B w v bs) (hl : bs.length ≤ 1000000) : Calls Tryz.prog 82 #[v] w fun e w' => ∃ v', e = .returned v' ∧ BytesAt B w' v' bs ∧ Below w.heap.size w w' ∧ OwnB w.heap.size w' v' := by
  have HB := Lib.hid hB
  obtain ⟨a, c, rfl, hn, hx⟩ := hB
  have hnil := fun (W : World) (a : Option Addr) (n c n' c' : Nat) => Lib.run_eql_slice_nil (P := Tryz.prog) W 61 5 a n c n' c' Tryz.underlying61
  cases a with
  | none =>
    obtain rfl := hn rfl
    obtain rfl : bs = [] := by
      cases bs with
      | nil => rfl
      | cons x r => obtain ⟨b, o, h3, _⟩ := hx 0 (by simp); cases h3
    clear hx hn
    go_enter Tryz.func82, Tryz.ntmps82
    go_wp2_with fail
    go_ret
    exact ⟨_, rfl, HB.out, Below.refl _ _, fun k hk => by cases hk⟩
  | some ad =>
    clear hx hn
    obtain ⟨i0, hi, hz0, hz1, hz2⟩ := info_parts infoB
    have O0 := Lib.hid (own_emptyB w)
    have B0 := Lib.hid (below_alloc w (.cells #[] 5))
    have H0 := Lib.hid (HB.out.below (below_alloc w (.cells #[] 5)))
    clear HB
    go_enter Tryz.func82, Tryz.ntmps82
    go_wp2_with (at_builtin; refine wpList_append_own _ rfl (.tmp 5) (.tmp 6) 61 rfl w.heap.size 5 i0 _ 1 1 Tryz.underlying61 hi hz0 hz1 hz2 rfl (by decide) _ _ _ rfl O0.out ad bs.length c (bytesV bs) rfl (by rw [bytesV_len, Nat.mul_one]) (bytes_src H0.out) (bytes_one bs) (by unfold maxLen; omega) (by omega) (by simp) ?_)
    intro v2 w2 hown2 hgrow2 _
    try simp only [Nat.zero_add, List.nil_append] at hown2
    have B2 := Lib.hid (owned_below O0.out B0.out hgrow2)
    have H2 : Hid (BytesAt B w2 v2 bs) := BytesAt.of_own hown2
    have N2 : Hid (OwnB w.heap.size w2 v2) := OwnB.of_own (C := 0) hown2
    clear hown2 hgrow2 O0 B0 H0
    go_wp2
    go_ret
    exact ⟨_, rfl, H2.out, B2.out, N2.out⟩
theorem three_cells {w : World} {b : Nat} {T : Nat} {x0 x1 x2 : Value} (h : w.heap[b]? = some (.cells #[x0, x1, x2] T (0, 0))) : b < w.heap.size ∧ w.cell? ⟨b, 0, none⟩ = some x0 ∧ w.cell? ⟨b, 1, none⟩ = some x1 ∧ w.cell? ⟨b, 2, none⟩ = some x2 := by
  refine ⟨lt_of_block h, ?_, ?_, ?_⟩ <;> simp [World.cell?, h]
end Go.Proofs.YtecbnhmnhcpcmaaGreatDoor
/-! A drawn region's operations that only read are taken first, by a plan that is checked once. No program. -/
namespace Go.Proofs.YtecbnhmnhcpcmaaGreatDoor
open Go.RowKit
set_option linter.unusedVariables false
section
variable {P : Program} {ops : Array Oper} {Q : Exit → Act → World → Prop} {md : Region.Mode} {S : World → Prop}
def planOk (md : Region.Mode) (ops : Array Oper) : List Nat → Array Bool → Bool
  | [], _ => true
  | i :: r, listed => Region.free md ops listed i && (Region.ready md ops listed).contains i && planOk md ops r (listed.setIfInBounds i true)
/-- the operations of the plan are taken, one behind another -/
def Plan (P : Program) (md : Region.Mode) (ops : Array Oper) (Q : Exit → Act → World → Prop) (S : World → Prop) (plan : List Nat) (fuel : Nat) (listed : Array Bool) (a : Act) (w : World) : Prop :=
  Region.noSelect ops = true → planOk md ops plan listed = true → S w → wpAnyH P md ops Q S (fuel + plan.length) listed a w
theorem Plan.start {plan : List Nat} {fuel n : Nat} {listed : Array Bool} {a : Act} {w : World} (hok : (Region.noSelect ops && planOk md ops plan listed && decide (n = fuel + plan.length)) = true) (hS : S w) (h : Plan P md ops Q S plan fuel listed a w) : wpAnyH P md ops Q S n listed a w := by
  rw [Bool.and_eq_true, Bool.and_eq_true, decide_eq_true_eq] at hok
  rw [hok.2]
  exact h hok.1.1 hok.1.2 hS
theorem Plan.stop {fuel : Nat} {listed : Array Bool} {a : Act} {w : World} (h : S w → wpAnyH P md ops Q S fuel listed a w) : Plan P md ops Q S [] fuel listed a w := fun _ _ hS => h hS
theorem Plan.yields {i : Nat} {oi : Oper} {v : Value} {plan : List Nat} {fuel : Nat} {listed : Array Bool} {a : Act} {w : World} (hi : ops[i]? = some oi) (hy : YieldsIf P ops S oi v a) (hQ : ∀ c a w, Q (.panic c) (a.put oi.dst v) w → Q (.panic c) a w)
    (h : Plan P md ops Q S plan fuel (listed.setIfInBounds i true) (a.put oi.dst v) w) : Plan P md ops Q S (i :: plan) fuel listed a w := by
  intro hs hp hS
  rw [planOk, Bool.and_eq_true, Bool.and_eq_true] at hp
  exact wpAnyH_take hi hs hp.1.1 hp.1.2 hQ hy hS (h hs hp.2 hS)
theorem wanted_none {o : Oper} {y : Nat → Option Bool} (h : o.guard = none) : Region.wanted o y = true := by unfold Region.wanted; rw [h]
theorem wanted_some {o oj : Oper} {tmps : Array Value} {j d : Nat} {want b : Bool} (h : o.guard = some (j, want)) (hj : ops[j]? = some oj) (hd : oj.dst = some d) (ht : tmps[d]? = some (.bool b)) : Region.wanted o (yielded ops tmps) = (b == want) := by
  unfold Region.wanted yielded
  rw [h]
  simp only [hj, Option.bind_some, hd, ht]
  cases b <;> cases want <;> rfl
/-- an operation that is not guarded -/
theorem Plan.free {i : Nat} {oi : Oper} {ds : Option Tmp} {v : Value} {plan : List Nat} {fuel : Nat} {listed : Array Bool} {a : Act} {w : World} (hi : ops[i]? = some oi) (hds : oi.dst = ds) (hg : oi.guard = none) (hy : ∀ w, S w → (execOp a.eval oi).run P w = .ok (.value v) w) (hQ : ∀ c a w, Q (.panic c) (a.put ds v) w → Q (.panic c) a w)
    (h : Plan P md ops Q S plan fuel (listed.setIfInBounds i true) (a.put ds v) w) : Plan P md ops Q S (i :: plan) fuel listed a w := by
  subst hds
  exact Plan.yields hi (.inl ⟨wanted_none hg, hy⟩) hQ h
/-- an operation whose guard lets it run -/
theorem Plan.on {i j d : Nat} {oi oj : Oper} {ds : Option Tmp} {v : Value} {b : Bool} {plan : List Nat} {fuel : Nat} {listed : Array Bool} {a : Act} {w : World} (hi : ops[i]? = some oi) (hds : oi.dst = ds) (hg : oi.guard = some (j, b)) (hj : ops[j]? = some oj) (hd : oj.dst = some d) (ht : a.tmps[d]? = some (.bool b)) (hy : ∀ w, S w → (execOp a.eval oi).run P w = .ok (.value v) w) (hQ : ∀ c a w, Q (.panic c) (a.put ds v) w → Q (.panic c) a w)
    (h : Plan P md ops Q S plan fuel (listed.setIfInBounds i true) (a.put ds v) w) : Plan P md ops Q S (i :: plan) fuel listed a w := by
  subst hds
  exact Plan.yields hi (.inl ⟨by rw [wanted_some hg hj hd ht]; simp, hy⟩) hQ h
/-- an operation whose guard does not -/
theorem Plan.off {i j d : Nat} {oi oj : Oper} {ds : Option Tmp} {want b : Bool} {plan : List Nat} {fuel : Nat} {listed : Array Bool} {a : Act} {w : World} (hi : ops[i]? = some oi) (hds : oi.dst = ds) (hg : oi.guard = some (j, want)) (hj : ops[j]? = some oj) (hd : oj.dst = some d) (ht : a.tmps[d]? = some (.bool b)) (hb : (b == want) = false) (hQ : ∀ c a w, Q (.panic c) (a.put ds undef) w → Q (.panic c) a w)
    (h : Plan P md ops Q S plan fuel (listed.setIfInBounds i true) (a.put ds undef) w) : Plan P md ops Q S (i :: plan) fuel listed a w := by
  subst hds
  exact Plan.yields hi (.inr ⟨by rw [wanted_some hg hj hd ht]; exact hb, rfl⟩) hQ h
theorem wanted_on {o oj : Oper} {tmps : Array Value} {j d : Nat} {b : Bool} (h : o.guard = some (j, b)) (hj : ops[j]? = some oj) (hd : oj.dst = some d) (ht : tmps[d]? = some (.bool b)) : Region.wanted o (yielded ops tmps) = true := by
  rw [wanted_some h hj hd ht]; simp
theorem if_on {o : Oper} {p q : Prop} {j d : Nat} {oj : Oper} {tmps : Array Value} {b : Bool} (h : o.guard = some (j, b)) (hj : ops[j]? = some oj) (hd : oj.dst = some d) (ht : tmps[d]? = some (.bool b)) (hp : p) : if Region.wanted o (yielded ops tmps) = true then p else q := by
  rw [if_pos (by rw [wanted_some h hj hd ht]; simp)]; exact hp
theorem if_free {o : Oper} {y : Nat → Option Bool} {p q : Prop} (h : o.guard = none) (hp : p) : if Region.wanted o y = true then p else q := by
  rw [if_pos (wanted_none h)]; exact hp
end
end Go.Proofs.YtecbnhmnhcpcmaaGreatDoor
