/- What render.Parse's deferred closure does; the parts of Parse. -/
import Derived.Test.YtmppkhjjlgngkaaGreatDoorRnG
import Derived.Test.YtmppkhjjlgngkaaGreatDoorRegZ
import Derived.Defers
import Derived.Recover
import Derived.Laws.Pointers
namespace Go.Proofs.YtmppkhjjlgngkaaGreatDoor
open Go.RowKit Civ Ren Go.Shelf
set_option linter.unusedVariables false
set_option linter.unusedSimpArgs false
abbrev zeroI : Array Value := #[.int .u32 0, .int .u32 0, .int .i64 0, .slice none 0 0, .int .i64 0, .int .i64 0]
theorem ta_err (v : Value) (w : World) : (Instr.typeAssert (.iface 26 v) 20 26 true).run Tryz.prog w = .ok (.tuple #[v, .bool true]) w := by kernel_rfl
theorem ta_nil (w : World) : (Instr.typeAssert .nilIface 20 26 true).run Tryz.prog w = .ok (.tuple #[.int .i64 0, .bool false]) w := by kernel_rfl
theorem Kept.set {S : Nat → Prop} {w w' : World} (h : Kept S w w') (a : Addr) (u : Value) (hS : S a.block) : Kept S w (w'.setCell a u) := h.trans (Kept.setCell w' a u hS)
theorem kept_six (S : Nat → Prop) (w : World) (p : Nat) (hS : S p) (u0 u1 u2 u3 u4 u5 : Value) : Kept S w ((((((w.setCell ⟨p, 0, none⟩ u0).setCell ⟨p, 1, none⟩ u1).setCell ⟨p, 2, none⟩ u2).setCell ⟨p, 3, none⟩ u3).setCell ⟨p, 4, none⟩ u4).setCell ⟨p, 5, none⟩ u5) :=
  ((((((Kept.refl S w).set ⟨p, 0, none⟩ u0 hS).set ⟨p, 1, none⟩ u1 hS).set ⟨p, 2, none⟩ u2 hS).set ⟨p, 3, none⟩ u3 hS).set ⟨p, 4, none⟩ u4 hS).set ⟨p, 5, none⟩ u5 hS
set_option maxHeartbeats 2000000 in
theorem catch_panic (p0 p1 : Nat) (x0 x1 x2 x3 x4 x5 y : Value) (w : World) (h0 : w.heap[p0]? = some (.cells #[x0, x1, x2, x3, x4, x5] 25 (0, 0))) (h1 : w.heap[p1]? = some (.cells #[y] 26 (0, 0))) (hne : p0 ≠ p1) :
    CallsD Tryz.prog 28 #[.pointer (some ⟨p0, 0, none⟩), .pointer (some ⟨p1, 0, none⟩)] (.panicking thrown) w fun e u' w' => e = .returned (.tuple #[]) ∧ u' = .panicking [{ v := .iface 26 (.int .i64 21), recovered := true }] ∧
      w'.heap[p0]? = some (.cells zeroI 25 (0, 0)) ∧ w'.heap[p1]? = some (.cells #[.int .i64 21] 26 (0, 0)) ∧ Kept (fun k => k = p0 ∨ k = p1) w w' := by
  have t1 := ta_err
  obtain ⟨-, c0, c1, c2, c3, c4, c5⟩ := cells6 h0
  have f0 : w.frozen? ⟨p0, 0, none⟩ = false := free_of_row h0
  have f1 : w.frozen? ⟨p0, 1, none⟩ = false := free_of_row h0
  have f2 : w.frozen? ⟨p0, 2, none⟩ = false := free_of_row h0
  have f3 : w.frozen? ⟨p0, 3, none⟩ = false := free_of_row h0
  have f4 : w.frozen? ⟨p0, 4, none⟩ = false := free_of_row h0
  have f5 : w.frozen? ⟨p0, 5, none⟩ = false := free_of_row h0
  have d0 := cell_of_row (i := 0) h1
  have g0 : w.frozen? ⟨p1, 0, none⟩ = false := free_of_row h1
  simp only [List.getElem?_toArray, List.getElem?_cons_zero] at d0
  refine callsD_of_wpS Tryz.func28 rfl fun c₀ cs hu => ?_
  apply wpS_seq
  apply wpS_region
  simp [wpOpsS, go_sem, recoverD, hu, Tryz.ntmps28, Exit.thenS, t1]
  apply wpS_seq
  apply wpS_region
  simp [wpOpsS, go_sem, Exit.thenS]
  refine wpS_cond (t := true) (by simp [Act.eval, Array.replicate]) ?_
  simp only [if_true]
  apply wpS_region
  simp [wpOpsS, go_sem, c0, c1, c2, c3, c4, c5, f0, f1, f2, f3, f4, f5, d0, g0, hne, Ne.symm hne, bodyPostS, results, Tryz.results28]
  have k6 := kept_six (fun k => k = p0 ∨ k = p1) w p0 (.inl rfl) (.int .u32 0) (.int .u32 0) (.int .i64 0) (.slice none 0 0) (.int .i64 0) (.int .i64 0)
  have b6 : ((((((w.setCell ⟨p0, 0, none⟩ (.int .u32 0)).setCell ⟨p0, 1, none⟩ (.int .u32 0)).setCell ⟨p0, 2, none⟩ (.int .i64 0)).setCell ⟨p0, 3, none⟩ (.slice none 0 0)).setCell ⟨p0, 4, none⟩ (.int .i64 0)).setCell ⟨p0, 5, none⟩ (.int .i64 0)).heap[p0]? = some (.cells zeroI 25 (0, 0)) :=
    set_block (set_block (set_block (set_block (set_block (set_block h0)))))
  have e6 : ((((((w.setCell ⟨p0, 0, none⟩ (.int .u32 0)).setCell ⟨p0, 1, none⟩ (.int .u32 0)).setCell ⟨p0, 2, none⟩ (.int .i64 0)).setCell ⟨p0, 3, none⟩ (.slice none 0 0)).setCell ⟨p0, 4, none⟩ (.int .i64 0)).setCell ⟨p0, 5, none⟩ (.int .i64 0)).heap[p1]? = some (.cells #[y] 26 (0, 0)) := by
    have k := kept_six (fun k => k = p0) w p0 rfl (.int .u32 0) (.int .u32 0) (.int .i64 0) (.slice none 0 0) (.int .i64 0) (.int .i64 0)
    exact (k.block p1 (lt_of_block h1) (Ne.symm hne)).trans h1
  exact ⟨(((Kept.refl (fun k => k = p1) _).set ⟨p1, 0, none⟩ (.int .i64 21) rfl).block p0 (lt_of_block b6) hne).trans b6, set_block e6, k6.set _ _ (.inr rfl)⟩
set_option maxHeartbeats 2000000 in
theorem catch_idle (p0 p1 : Nat) (w : World) :
    CallsD Tryz.prog 28 #[.pointer (some ⟨p0, 0, none⟩), .pointer (some ⟨p1, 0, none⟩)] .returning w fun e u' w' => e = .returned (.tuple #[]) ∧ u' = .returning ∧ w' = w := by
  have t1 := ta_nil
  refine callsD_of_wpS Tryz.func28 rfl fun c₀ cs hu => ?_
  apply wpS_seq
  apply wpS_region
  simp [wpOpsS, go_sem, recoverD, hu, Tryz.ntmps28, Exit.thenS, t1]
  apply wpS_seq
  apply wpS_region
  simp [wpOpsS, go_sem, Exit.thenS]
  refine wpS_cond (t := false) (by simp [Act.eval, Array.replicate]) ?_
  simp only [Bool.false_eq_true, if_false]
  refine wpS_of_wp (wp_skip ?_)
  cases c₀
  simp_all [bodyPostS, results, Tryz.results28]
/-- an invoice's value, as it lies in memory behind Parse -/
def parseR (s : List UInt8) : Option Ren.Inv := match parseS s with
  | none => none
  | some v => if textL v = s then some v else none
def ParseI (s : List UInt8) (w : World) (e : Ending) (w' : World) : Prop := Below w.heap.size w w' ∧ match parseR s with
  | none => e = .returned (.tuple #[.agg zeroI, .int .i64 21])
  | some v => ∃ lv, RowsIn w' lv 5 (v.ls.map Ren.Ln.cells) ∧ e = .returned (.tuple #[v.val lv, .int .i64 0])
theorem StrsAt.other {w : World} {B r r' : Nat} {v : Value} {ls : List (List UInt8)} (h : StrsAt w B r v ls) (hr : w.heap.size ≤ r') : StrsAt w B r' v ls := by
  obtain ⟨a, c, h1, h2, h3⟩ := h
  refine ⟨a, c, h1, h2, fun i hi => ?_⟩
  obtain ⟨g, o, h4, h5, h6, h7⟩ := h3 i hi
  have := World.block_lt_of_cell? _ _ h7
  exact ⟨g, o, h4, h5, by intro e; simp at this; omega, h7⟩
theorem split_small (c : UInt8) (s : List UInt8) (h : s.length ≤ 1000000) : Small (Lib.split s [c]) := fun x hx => by
  have := splitK_le c s.length _ s (Nat.le_refl _) x hx
  omega
abbrev doorP (p0 p1 : Nat) : List Deferred := [{ target := Target.fn (Fn.func 28) #[.pointer (some ⟨p0, 0, none⟩), .pointer (some ⟨p1, 0, none⟩)], args := #[] }]
set_option maxHeartbeats 2000000 in
theorem door_panic (w wc : World) (tmps : Array Value) (t2 : tmps[2]? = some (.pointer (some ⟨w.heap.size, 0, none⟩))) (t3 : tmps[3]? = some (.pointer (some ⟨w.heap.size + 1, 0, none⟩))) {x0 x1 x2 x3 x4 x5 y : Value} (h0 : wc.heap[w.heap.size]? = some (.cells #[x0, x1, x2, x3, x4, x5] 25 (0, 0))) (h1 : wc.heap[w.heap.size + 1]? = some (.cells #[y] 26 (0, 0)))
    (hB : Below w.heap.size w wc) (R : Ending → World → Prop) (hR : ∀ w', Below w.heap.size w w' → R (.returned (.tuple #[.agg zeroI, .int .i64 21])) w') :
    bodyPostD Tryz.prog Tryz.f14 R (Exit.panic thrown) { tmps := tmps, defers := doorP w.heap.size (w.heap.size + 1) } wc := by
  refine leaves_cons (f := 28) (args := #[.pointer (some ⟨w.heap.size, 0, none⟩), .pointer (some ⟨w.heap.size + 1, 0, none⟩)]) (by simp) (by simp [go_sem]) ?_
  refine (catch_panic w.heap.size (w.heap.size + 1) x0 x1 x2 x3 x4 x5 y wc h0 h1 (by omega)).mono ?_
  rintro e u' w'' ⟨rfl, rfl, k0, k1, hk⟩
  obtain ⟨-, c0, c1, c2, c3, c4, c5⟩ := cells6 k0
  have d0 := cell_of_row (i := 0) k1
  simp only [List.getElem?_toArray, List.getElem?_cons_zero] at d0
  have hB2 : Below w.heap.size w w'' := hB.trans (hk.below hB.size (fun k hk => by rcases hk with rfl | rfl <;> omega))
  have hfin := hR w'' hB2
  simp [Leaves, settle, results, Tryz.results14, go_sem, t2, t3, c0, c1, c2, c3, c4, c5, d0]
  exact hfin
set_option maxHeartbeats 4000000 in
set_option maxRecDepth 1000000 in
theorem parse_try (s : List UInt8) (w : World) (hE : EnvR w) (hs : s.length ≤ 1000000) (h : mustS wInvoice (Lib.split s [10]) = none) : Calls Tryz.prog 14 #[.string ⟨s.toArray⟩] w (ParseI s w) := by
  have hmf : ∀ (fn : Fn) (first cap : Array Value) (w : World), (Instr.makeFunc fn first cap).run Tryz.prog w = .ok (.func fn first cap) w := fun _ _ _ _ => rfl
  have hP : parseR s = none := by unfold parseR parseS; rw [h]; rfl
  unfold ParseI
  rw [hP]
  obtain ⟨b2, h1, h2, h3⟩ := two_blocks w zeroI #[.int .i64 0] 25 26
  have B2 := Lib.hid b2
  have P0 := Lib.hid h1
  have P1 := Lib.hid h2
  have HE := Lib.hid hE
  clear b2 h1 h2 hE hP
  go_enter_defers Tryz.func14, Tryz.ntmps14
  go_wp2_with fail
  refine (split_any 10 s (w.heap.size + 2) w.heap.size _ (HE.out.below B2.out) hs (by omega) (by omega)).mono ?_
  rintro e w2 ⟨v2, rfl, hv, hb⟩
  have hv0 := hv
  obtain ⟨sa, sc, rfl, -, -⟩ := hv0
  have bb := below_alloc w2 (.cells #[.slice sa (Lib.split s [10]).length sc] 63)
  have hR : RdrAt (w2.alloc (.cells #[.slice sa (Lib.split s [10]).length sc] 63)) (w.heap.size + 2) w2.heap.size (Lib.split s [10]) := by
    have hsz := hb.size
    refine ⟨⟨_, heap_alloc_new w2 _, (hv.other (Nat.le_refl _)).below bb, fun k hk => ?_⟩, by omega⟩
    obtain ⟨a, c, ef, hc, hs'⟩ := hv
    injection ef with e1 _ e2
    subst e1 e2
    have hne := split_ne 10 s
    obtain ⟨g, o, rfl, h5, h6, h7⟩ := hs' 0 (by rcases h0 : Lib.split s [10] with _ | ⟨x, y⟩; exact absurd h0 hne; simp)
    have := World.block_lt_of_cell? _ _ h7
    have e : g = k := by injection hk
    have h8 : g < w2.heap.size := this
    omega
  have R3 := Lib.hid hR
  have B3 := Lib.hid (onward bb (onward hb B2.out))
  have P03 := Lib.hid (stays_block bb (stays_block hb P0.out))
  have P13 := Lib.hid (stays_block bb (stays_block hb P1.out))
  have hr2 := hb.size
  rw [h3] at hr2
  clear hv hb bb hR P0 P1 B2
  go_upto_region 3 with fail
  generalize hW3 : w2.alloc (.cells #[.slice sa (Lib.split s [10]).length sc] 63) = W3 at *
  generalize w2.heap.size = r at *
  clear hW3
  have HEK : Hid (∀ W, Below w.heap.size w W → ∀ W', Kept (· = r) W W' → EnvR W') := fun W hb W' hk => HE.out.below (hb.trans ((hk.below hb.size (fun k hk => by omega))))
  go_wp2_with fail
  refine (must_any wInvoice _ (w.heap.size + 2) r W3 (HEK.out W3 B3.out) R3.out (split_small 10 s hs) (by decide)).mono ?_
  rintro e w4 ⟨hk, hm⟩
  rw [h] at hm
  subst hm
  go_wp2_with fail
  exact door_panic w _ _ rfl rfl ((hk.block _ (lt_of_block P03.out) (by omega)).trans P03.out) ((hk.block _ (lt_of_block P13.out) (by omega)).trans P13.out) (B3.out.trans (hk.below B3.out.size (fun k hk => by omega))) _ (fun w' hb => ⟨hb, rfl⟩)
end Go.Proofs.YtmppkhjjlgngkaaGreatDoor
