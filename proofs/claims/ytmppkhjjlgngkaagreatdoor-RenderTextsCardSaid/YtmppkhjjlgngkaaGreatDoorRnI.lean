/- The parts of render.Parse: what its steps leave; plain laws of what is read. -/
import Derived.Test.YtmppkhjjlgngkaaGreatDoorRnH
namespace Go.Proofs.YtmppkhjjlgngkaaGreatDoor
open Go.RowKit Civ Ren Go.Shelf
set_option linter.unusedVariables false
set_option linter.unusedSimpArgs false
namespace Ren
theorem num_int {l : List Bs} {i : Nat} {n : Int} (h : numS l i = some n) : Acct.inInt n := by
  unfold numS at h
  split at h
  · cases h
  · split at h
    · rename_i hp
      injection h with h
      subst h
      exact Acct.parseI_bd hp
    · cases h
theorem small_is {n m : Int} (h : smallS n = some m) : m = n ∧ u32 m := by
  unfold smallS at h
  split at h
  · cases h
  · injection h with h
    subst h
    exact ⟨rfl, by unfold u32; omega⟩
theorem base_is {ws : List Bs} {x : Ln} (h : baseS ws = some x) : ∃ p d a, numS ws 2 = some p ∧ smallS p = some p ∧ numS ws 4 = some d ∧ numS ws 6 = some a ∧ x = ⟨1, p, d, 0, a⟩ := by
  unfold baseS at h
  obtain ⟨p, h1, h⟩ := Option.bind_eq_some_iff.1 h
  obtain ⟨q, h2, h⟩ := Option.bind_eq_some_iff.1 h
  obtain ⟨d, h3, h⟩ := Option.bind_eq_some_iff.1 h
  obtain ⟨a, h4, h⟩ := Option.bind_eq_some_iff.1 h
  injection h with he
  obtain ⟨e, -⟩ := small_is h2
  subst e
  exact ⟨_, _, _, h1, h2, h3, h4, he.symm⟩
theorem over_is {ws : List Bs} {x : Ln} (h : overS ws = some x) : ∃ p u a, numS ws 2 = some p ∧ smallS p = some p ∧ numS ws 4 = some u ∧ numS ws 6 = some a ∧ x = ⟨3, p, 0, u, a⟩ := by
  unfold overS at h
  obtain ⟨p, h1, h⟩ := Option.bind_eq_some_iff.1 h
  obtain ⟨q, h2, h⟩ := Option.bind_eq_some_iff.1 h
  obtain ⟨d, h3, h⟩ := Option.bind_eq_some_iff.1 h
  obtain ⟨a, h4, h⟩ := Option.bind_eq_some_iff.1 h
  injection h with he
  obtain ⟨e, -⟩ := small_is h2
  subst e
  exact ⟨_, _, _, h1, h2, h3, h4, he.symm⟩
theorem pack_is {ws : List Bs} {x : Ln} (h : packS ws = some x) : ∃ u, numS ws 2 = some u ∧ x = ⟨2, 0, 0, u, 0⟩ := by
  unfold packS at h
  obtain ⟨u, h1, h⟩ := Option.bind_eq_some_iff.1 h
  injection h with h
  exact ⟨_, h1, h.symm⟩
/-- why a line of the kind is none -/
theorem base_no {ws : List Bs} (h : baseS ws = none) : numS ws 2 = none ∨ ∃ p, numS ws 2 = some p ∧ (smallS p = none ∨ (smallS p = some p ∧ (numS ws 4 = none ∨ ∃ d, numS ws 4 = some d ∧ numS ws 6 = none))) := by
  cases h1 : numS ws 2 with
  | none => exact .inl rfl
  | some p =>
    refine .inr ⟨p, rfl, ?_⟩
    cases h2 : smallS p with
    | none => exact .inl rfl
    | some q =>
      obtain ⟨rfl, -⟩ := small_is h2
      refine .inr ⟨rfl, ?_⟩
      cases h3 : numS ws 4 with
      | none => exact .inl rfl
      | some d =>
        refine .inr ⟨d, rfl, ?_⟩
        cases h4 : numS ws 6 with
        | none => rfl
        | some a =>
          unfold baseS at h
          rw [h1, Option.bind_some, h2, Option.bind_some, h3, Option.bind_some, h4] at h
          cases h
theorem over_no {ws : List Bs} (h : overS ws = none) : numS ws 2 = none ∨ ∃ p, numS ws 2 = some p ∧ (smallS p = none ∨ (smallS p = some p ∧ (numS ws 4 = none ∨ ∃ d, numS ws 4 = some d ∧ numS ws 6 = none))) := by
  cases h1 : numS ws 2 with
  | none => exact .inl rfl
  | some p =>
    refine .inr ⟨p, rfl, ?_⟩
    cases h2 : smallS p with
    | none => exact .inl rfl
    | some q =>
      obtain ⟨rfl, -⟩ := small_is h2
      refine .inr ⟨rfl, ?_⟩
      cases h3 : numS ws 4 with
      | none => exact .inl rfl
      | some d =>
        refine .inr ⟨d, rfl, ?_⟩
        cases h4 : numS ws 6 with
        | none => rfl
        | some a =>
          unfold overS at h
          rw [h1, Option.bind_some, h2, Option.bind_some, h3, Option.bind_some, h4] at h
          cases h
theorem pack_no {ws : List Bs} (h : packS ws = none) : numS ws 2 = none := by
  cases h1 : numS ws 2 with
  | none => rfl
  | some p =>
    unfold packS at h
    rw [h1] at h
    cases h
theorem next_is {word : Bs} {ls ws r : List Bs} (h : nextS word ls = some (ws, r)) : ∃ l, ls = l :: r ∧ (word ++ [32]).isPrefixOf l = true ∧ ws = Lib.split l [32] := by
  cases ls with
  | nil => cases h
  | cons l ls =>
    unfold nextS at h
    simp only at h
    split at h
    · rename_i hp
      injection h with h
      injection h with h1 h2
      subst h1 h2
      exact ⟨l, rfl, hp, rfl⟩
    · cases h
theorem next_none {word l : Bs} {ls : List Bs} (h : nextS word (l :: ls) = none) : ¬ (word ++ [32]).isPrefixOf l = true := by
  unfold nextS at h
  simp only at h
  split at h
  · cases h
  · assumption
theorem lines_base {rem ws r : List Bs} (h : nextS wBase rem = some (ws, r)) : linesS rem = (baseS ws).bind fun x => (linesS r).map fun y => (x :: y.1, y.2) := by
  obtain ⟨l, rfl, hp, rfl⟩ := next_is h
  rw [linesS, if_pos hp]
theorem lines_pack {rem ws r : List Bs} (h0 : nextS wBase rem = none) (h : nextS wPack rem = some (ws, r)) : linesS rem = (packS ws).bind fun x => (linesS r).map fun y => (x :: y.1, y.2) := by
  obtain ⟨l, rfl, hp, rfl⟩ := next_is h
  rw [linesS, if_neg (next_none h0), if_pos hp]
theorem lines_over {rem ws r : List Bs} (h0 : nextS wBase rem = none) (h1 : nextS wPack rem = none) (h : nextS wOver rem = some (ws, r)) : linesS rem = (overS ws).bind fun x => (linesS r).map fun y => (x :: y.1, y.2) := by
  obtain ⟨l, rfl, hp, rfl⟩ := next_is h
  rw [linesS, if_neg (next_none h0), if_neg (next_none h1), if_pos hp]
theorem lines_end {rem : List Bs} (h0 : nextS wBase rem = none) (h1 : nextS wPack rem = none) (h2 : nextS wOver rem = none) : linesS rem = some ([], rem) := by
  cases rem with
  | nil => rfl
  | cons l r => rw [linesS, if_neg (next_none h0), if_neg (next_none h1), if_neg (next_none h2)]
theorem u32_0 : u32 0 := by unfold u32; omega
theorem int_0 : Acct.inInt 0 := by unfold Acct.inInt; omega
theorem base_ok {ws : List Bs} {x : Ln} (h : baseS ws = some x) : x.ok := by
  obtain ⟨p, d, a, h1, h2, h3, h4, rfl⟩ := base_is h
  exact ⟨⟨by show (0 : Int) ≤ 1; omega, by show (1 : Int) ≤ 255; omega⟩, (small_is h2).2, num_int h3, int_0, num_int h4⟩
theorem over_ok {ws : List Bs} {x : Ln} (h : overS ws = some x) : x.ok := by
  obtain ⟨p, d, a, h1, h2, h3, h4, rfl⟩ := over_is h
  exact ⟨⟨by show (0 : Int) ≤ 3; omega, by show (3 : Int) ≤ 255; omega⟩, (small_is h2).2, int_0, num_int h3, num_int h4⟩
theorem pack_ok {ws : List Bs} {x : Ln} (h : packS ws = some x) : x.ok := by
  obtain ⟨u, h1, rfl⟩ := pack_is h
  exact ⟨⟨by show (0 : Int) ≤ 2; omega, by show (2 : Int) ≤ 255; omega⟩, u32_0, int_0, num_int h1, int_0⟩
theorem lines_ok : ∀ (rem : List Bs) (y : List Ln × List Bs), linesS rem = some y → ∀ x ∈ y.1, x.ok
  | [], y, h => by
    rw [linesS] at h
    injection h with h
    subst h
    intro x hx
    cases hx
  | l :: r, y, h => by
    have step : ∀ {o : Option Ln}, (∀ x, o = some x → x.ok) → (o.bind fun x => (linesS r).map fun y => (x :: y.1, y.2)) = some y → ∀ x ∈ y.1, x.ok := by
      intro o ho h
      obtain ⟨x, h1, h2⟩ := Option.bind_eq_some_iff.1 h
      obtain ⟨z, h3, h4⟩ := Option.map_eq_some_iff.1 h2
      subst h4
      intro u hu
      rcases List.mem_cons.1 hu with rfl | hu
      · exact ho _ h1
      · exact lines_ok r z h3 u hu
    rw [linesS] at h
    split at h
    · exact step (fun x hx => base_ok hx) h
    · split at h
      · exact step (fun x hx => pack_ok hx) h
      · split at h
        · exact step (fun x hx => over_ok hx) h
        · injection h with h
          subst h
          intro x hx
          cases hx
theorem must_int {w : Bs} {ls r : List Bs} {n : Int} (h : mustS w ls = some (n, r)) : Acct.inInt n := by
  unfold mustS at h
  split at h
  · cases h
  · split at h
    · cases h
    · rename_i hn
      injection h with h
      injection h with h1 _
      subst h1
      exact num_int hn
theorem month_int {ls r : List Bs} {n : Int} (h : monthS ls = some (n, r)) : Acct.inInt n := by
  unfold monthS at h
  split at h
  · cases h
  · split at h
    · split at h
      · cases h
      · rename_i y m d hd
        injection h with h
        injection h with h1 _
        subst h1
        unfold dateS at hd
        split at hd
        · rename_i hv
          obtain ⟨-, hv⟩ := hv
          injection hd with hd
          injection hd with e1 hd
          injection hd with e2 _
          rw [e1, e2] at hv
          obtain ⟨a1, a2, a3, a4, -, -⟩ := hv
          unfold Acct.inInt
          omega
        · cases hd
    · cases h
theorem cred_int {ls : List Bs} {n : Int} (h : credS ls = some n) : Acct.inInt n := by
  unfold credS at h
  split at h
  · injection h with h
    subst h
    exact int_0
  · exact num_int h
theorem parse_ok {s : Bs} {v : Inv} (h : parseS s = some v) : v.ok := by
  unfold parseS at h
  obtain ⟨a, h1, h⟩ := Option.bind_eq_some_iff.1 h
  obtain ⟨no, h2, h⟩ := Option.bind_eq_some_iff.1 h
  obtain ⟨b, h3, h⟩ := Option.bind_eq_some_iff.1 h
  obtain ⟨te, h4, h⟩ := Option.bind_eq_some_iff.1 h
  obtain ⟨c, h5, h⟩ := Option.bind_eq_some_iff.1 h
  obtain ⟨d, h6, h⟩ := Option.bind_eq_some_iff.1 h
  obtain ⟨e, h7, h⟩ := Option.bind_eq_some_iff.1 h
  obtain ⟨cr, h8, h⟩ := Option.bind_eq_some_iff.1 h
  injection h with h
  subst h
  exact ⟨(small_is h2).2, (small_is h4).2, month_int (r := c.2) h5, must_int (r := e.2) h7, cred_int h8, fun x hx => lines_ok _ _ h6 x hx⟩
end Ren
theorem flat_get {α : Type} (size : Nat) : ∀ (rows : List (List α)), (∀ r ∈ rows, r.length = size) → ∀ (i j : Nat), i < rows.length → j < size → rows.flatten[i * size + j]? = (rows.getD i [])[j]?
  | [], _, i, j, hi, _ => by simp at hi
  | r :: rows, h, 0, j, _, hj => by
    have := h r (by simp)
    rw [List.flatten_cons, Nat.zero_mul, Nat.zero_add, List.getElem?_append_left (by omega)]
    rfl
  | r :: rows, h, i + 1, j, hi, hj => by
    have h1 := h r (by simp)
    rw [List.flatten_cons, List.getElem?_append_right (by rw [h1, Nat.add_mul]; omega), h1, show (i + 1) * size + j - size = i * size + j by rw [Nat.add_mul]; omega, flat_get size rows (fun x hx => h x (List.mem_cons_of_mem _ hx)) i j (by simpa using hi) hj]
    rfl
/-- a row of one's own reads as rows -/
theorem rows_own {w : World} {base : Nat} {e : TypeId} {size : Nat} {v : Value} {rows : List (List Value)} (hs : ∀ r ∈ rows, r.length = size) (h : w.ownsRow base e size v rows.length rows.flatten) : RowsIn w v size rows := by
  obtain ⟨hl, h0 | ⟨g, cap, cur, h1, h2, h3, h4, h5, h6, h7⟩⟩ := h
  · obtain ⟨rfl, hn⟩ := h0
    exact ⟨none, 0, by rw [hn], by omega, Nat.zero_le _, fun i hi => by omega⟩
  · subst h1
    refine ⟨_, cap, rfl, h4, h5, fun i hi => ⟨g, 0, rfl, lt_of_block h3, fun j hj => ?_⟩⟩
    rw [Nat.zero_add, cell_of_row h3, ← flat_get size rows hs i j hi hj, ← h7]
    rw [List.getElem?_take_of_lt ?_]
    · simp
    · have h8 : (i + 1) * size ≤ rows.length * size := Nat.mul_le_mul_right _ hi
      rw [Nat.add_mul] at h8
      omega
theorem own_kept {w w' : World} {base : Nat} {e : TypeId} {size n : Nat} {v : Value} {xs : List Value} {S : Nat → Prop} (h : w.ownsRow base e size v n xs) (hk : Kept S w w') (hs : ∀ k, base ≤ k → ¬ S k) : w'.ownsRow base e size v n xs := by
  obtain ⟨hl, h⟩ := h
  refine ⟨hl, ?_⟩
  rcases h with h | ⟨g, cap, cur, h1, h2, h3, h4⟩
  · exact .inl h
  · refine .inr ⟨g, cap, cur, h1, h2, ?_, h4⟩
    rw [hk.block g (lt_of_block h3) (hs g h2)]
    exact h3
theorem rown_form {w : World} {base : Nat} {e : TypeId} {size n : Nat} {v : Value} {xs : List Value} (h : w.ownsRow base e size v n xs) : ∃ a c, v = .slice a n c := by
  obtain ⟨_, ⟨h1, h2⟩ | ⟨g, cap, cur, h1, _⟩⟩ := h
  · exact ⟨none, 0, by rw [h1, h2]⟩
  · exact ⟨_, _, h1⟩
theorem kept_grown {w w' : World} {v : Value} (h : w.grownBy w' v.ownBlock) : Kept (fun k => v.ownBlock = some k) w w' :=
  ⟨h.os, h.tape, h.output, h.size, fun k hk hn => h.block k hk fun e => hn e.symm⟩
/-- how far the reader is -/
def leftAt (w : World) (r : Nat) : Nat := match w.cell? ⟨r, 0, none⟩ with
  | some (.slice _ n _) => n
  | _ => 0
theorem RdrAt.left {w : World} {B r : Nat} {ls : List (List UInt8)} (h : RdrAt w B r ls) : leftAt w r = ls.length := by
  obtain ⟨⟨lv, h1, ⟨a, c, rfl, -, -⟩, -⟩, -⟩ := h
  unfold leftAt
  rw [cell_of_row h1]
  rfl
theorem infoLn : (Tryz.prog.info? 39).map (fun i => (i.zero, i.size, i.bytes)) = some (some (.agg #[.int .u8 0, .int .u32 0, .int .i64 0, .int .i64 0, .int .i64 0]), 5, 32) := by kernel_rfl
theorem oneLn (l : Ren.Ln) : ∀ u : Value, u ∈ [Value.int .u8 l.k, .int .u32 l.p, .int .i64 l.d, .int .i64 l.u, .int .i64 l.a] → u.oneCell' = true := by
  intro u hu
  simp only [List.mem_cons, List.not_mem_nil, or_false] at hu
  rcases hu with rfl | rfl | rfl | rfl | rfl <;> rfl
theorem cellsL_len (L : List Ren.Ln) : ∀ r ∈ L.map Ren.Ln.cells, r.length = 5 := by
  intro r hr
  obtain ⟨l, -, rfl⟩ := List.mem_map.1 hr
  rfl
/-- lines in a row of Parse's own -/
def OwnL (w : World) (base : Nat) (v : Value) (L : List Ren.Ln) : Prop := w.ownsRow base 39 5 v L.length (L.map Ren.Ln.cells).flatten
theorem OwnL.rows {w : World} {base : Nat} {v : Value} {L : List Ren.Ln} (h : OwnL w base v L) : RowsIn w v 5 (L.map Ren.Ln.cells) := rows_own (cellsL_len L) (by rw [List.length_map]; exact h)
theorem OwnL.kept {w w' : World} {base : Nat} {v : Value} {L : List Ren.Ln} {S : Nat → Prop} (h : OwnL w base v L) (hk : Kept S w w') (hs : ∀ k, base ≤ k → ¬ S k) : OwnL w' base v L := own_kept h hk hs
theorem OwnL.snoc {w : World} {base : Nat} {v : Value} {L : List Ren.Ln} {l : Ren.Ln} (h : w.ownsRow base 39 5 v (L.length + 1) ((L.map Ren.Ln.cells).flatten ++ [.int .u8 l.k, .int .u32 l.p, .int .i64 l.d, .int .i64 l.u, .int .i64 l.a])) : OwnL w base v (L ++ [l]) := by
  unfold OwnL
  rw [List.map_append, List.flatten_append, List.length_append]
  simpa [Ren.Ln.cells] using h
theorem OwnL.nil (w : World) (base : Nat) : OwnL w base (.slice none 0 0) [] := World.ownsRow_nil _ _ _ _
set_option maxHeartbeats 2000000 in
theorem door_return (w wc : World) (tmps : Array Value) (t2 : tmps[2]? = some (.pointer (some ⟨w.heap.size, 0, none⟩))) (t3 : tmps[3]? = some (.pointer (some ⟨w.heap.size + 1, 0, none⟩))) {x0 x1 x2 x3 x4 x5 y : Value} (h0 : wc.heap[w.heap.size]? = some (.cells #[x0, x1, x2, x3, x4, x5] 25 (0, 0))) (h1 : wc.heap[w.heap.size + 1]? = some (.cells #[y] 26 (0, 0)))
    (R : Ending → World → Prop) (hR : R (.returned (.tuple #[.agg #[x0, x1, x2, x3, x4, x5], y])) wc) :
    bodyPostD Tryz.prog Tryz.f14 R Exit.ret { tmps := tmps, defers := doorP w.heap.size (w.heap.size + 1) } wc := by
  obtain ⟨-, c0, c1, c2, c3, c4, c5⟩ := cells6 h0
  have d0 := cell_of_row (i := 0) h1
  simp only [List.getElem?_toArray, List.getElem?_cons_zero] at d0
  refine leaves_cons (f := 28) (args := #[.pointer (some ⟨w.heap.size, 0, none⟩), .pointer (some ⟨w.heap.size + 1, 0, none⟩)]) (by simp) (by simp [go_sem]) ?_
  refine (catch_idle w.heap.size (w.heap.size + 1) wc).mono ?_
  rintro e u' w'' ⟨rfl, rfl, rfl⟩
  simp [Leaves, settle, results, Tryz.results14, go_sem, t2, t3, c0, c1, c2, c3, c4, c5, d0]
  exact hR
theorem leaves_same {P : Program} {fn : Func} {tm tm' : Array Value} {R : Ending → World → Prop} (h : results fn tm = results fn tm') : ∀ (ds : List Deferred) (u : FrameMode) (w : World), Leaves P fn tm R ds u w → Leaves P fn tm' R ds u w
  | [], .returning, w, hl => by
    unfold Leaves at hl ⊢
    rw [← h]
    exact hl
  | [], .panicking c, w, hl => hl
  | [], .run, w, hl => hl
  | d :: ds, u, w, hl => by
    obtain ⟨h1, fv, cap, f, args, h2, h3, h4⟩ := hl
    refine ⟨h1, fv, cap, f, args, h2, h3, h4.mono ?_⟩
    intro e u' w' he
    cases e with
    | returned v => exact leaves_same h ds _ _ he
    | panicked c => exact leaves_same h ds _ _ he
    | outgrown => exact he
theorem results_put (tm : Array Value) (d : Option Tmp) (v : Value) (h2 : d ≠ some 2) (h3 : d ≠ some 3) (a : Act) : results Tryz.f14 (a.put d v).tmps = results Tryz.f14 a.tmps := by
  cases d with
  | none => rfl
  | some k =>
    have e2 : (a.tmps.setIfInBounds k v)[2]? = a.tmps[2]? := Array.getElem?_setIfInBounds_ne (by intro e; exact h2 (by rw [e]))
    have e3 : (a.tmps.setIfInBounds k v)[3]? = a.tmps[3]? := Array.getElem?_setIfInBounds_ne (by intro e; exact h3 (by rw [e]))
    simp [results, Tryz.results14, go_sem, Act.put, e2, e3]
theorem put_door (R : Ending → World → Prop) (d : Option Tmp) (v : Value) (h2 : d ≠ some 2) (h3 : d ≠ some 3) : ∀ c a w, bodyPostD Tryz.prog Tryz.f14 R (Exit.panic c) (a.put d v) w → bodyPostD Tryz.prog Tryz.f14 R (Exit.panic c) a w := by
  intro c a w h
  have e : (a.put d v).defers = a.defers := by cases d <;> rfl
  have h' : Leaves Tryz.prog Tryz.f14 (a.put d v).tmps R (a.put d v).defers (.panicking c) w := h
  rw [e] at h'
  exact leaves_same (results_put a.tmps d v h2 h3 a) _ _ _ h'
end Go.Proofs.YtmppkhjjlgngkaaGreatDoor
