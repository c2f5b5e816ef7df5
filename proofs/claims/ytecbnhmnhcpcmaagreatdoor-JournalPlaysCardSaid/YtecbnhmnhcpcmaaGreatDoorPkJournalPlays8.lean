/- Opening a law's arguments: flat structs of many fields, slices of numbers. No program. What an argument reads as, of whatever kind: structs, slices, slices of structs. No program. -/
import Derived.Test.YtecbnhmnhcpcmaaGreatDoorPkJournalPlays0
import Derived.ProofKit
import Derived.OpenShut
import Derived.ChangeSlices
import Derived.Lib.SmallJoins
import Derived.Deep.Fields
import Derived.ChangeArms
/-! Opening a law's arguments: flat structs of many fields, slices of numbers. No program. -/
namespace Go.Proofs.YtecbnhmnhcpcmaaGreatDoor
open Go.Deep Go.Joins Go.ChangeShapes Go.WideShapes Go.RowKit
set_option linter.unusedVariables false
section
variable {H : Type} {enc : TypeId × Value → H} {P : Program} {w : World} {base : Nat} {spare : Nat → Bool} {held : Bool}
theorem open_agg5 {r : Reach} {b0 : Nat} {t : TypeId} {f0 f1 f2 f3 f4 : Field} {v : Value} {d : DataW H} {p : List MemPlace} (hs : P.underlying t = some (.struct #[f0, f1, f2, f3, f4])) (hone : oneCellFields P #[f0, f1, f2, f3, f4] = true) (hC : P.cellsOf t = 5)
    (hv : Value.okWide P w r b0 t v) (h : DataW.Trod enc P w base spare held t v d p) :
    ∃ (v0 v1 v2 v3 v4 : Value) (y0 y1 y2 y3 y4 : DataW H × List MemPlace) (n : Nat), v = .agg #[v0, v1, v2, v3, v4] ∧ d = .agg [y0.1, y1.1, y2.1, y3.1, y4.1] ∧ p = y0.2 ++ (y1.2 ++ (y2.2 ++ (y3.2 ++ y4.2))) ∧
      DataW.trod enc P w base spare held n f0.type [v0] = some y0 ∧ DataW.trod enc P w base spare held n f1.type [v1] = some y1 ∧ DataW.trod enc P w base spare held n f2.type [v2] = some y2 ∧ DataW.trod enc P w base spare held n f3.type [v3] = some y3 ∧ DataW.trod enc P w base spare held n f4.type [v4] = some y4 := by
  obtain ⟨cs, rfl, hsz⟩ := okWide_struct hs hv
  obtain ⟨l⟩ := cs
  match l, hsz.trans hC with
  | [c0, c1, c2, c3, c4], _ =>
    obtain ⟨fuel, hf⟩ := h
    obtain ⟨xs, n, _, hx, _, hlen, hg⟩ := DataW.trod_struct hs hf
    obtain ⟨o0, k0⟩ := hone_of hone 0 f0 rfl
    obtain ⟨o1, k1⟩ := hone_of hone 1 f1 rfl
    obtain ⟨o2, k2⟩ := hone_of hone 2 f2 rfl
    obtain ⟨o3, k3⟩ := hone_of hone 3 f3 rfl
    obtain ⟨o4, k4⟩ := hone_of hone 4 f4 rfl
    match xs, hlen with
    | [y0, y1, y2, y3, y4], _ =>
      simp only [Prod.mk.injEq] at hx
      exact ⟨c0, c1, c2, c3, c4, y0, y1, y2, y3, y4, n, rfl, by simpa using hx.1, by simpa using hx.2, by simpa [Value.cells, o0, k0] using hg 0 f0 rfl, by simpa [Value.cells, o1, k1] using hg 1 f1 rfl, by simpa [Value.cells, o2, k2] using hg 2 f2 rfl, by simpa [Value.cells, o3, k3] using hg 3 f3 rfl, by simpa [Value.cells, o4, k4] using hg 4 f4 rfl⟩
theorem open_agg10 {r : Reach} {b0 : Nat} {t : TypeId} {f0 f1 f2 f3 f4 f5 f6 f7 f8 f9 : Field} {v : Value} {d : DataW H} {p : List MemPlace} (hs : P.underlying t = some (.struct #[f0, f1, f2, f3, f4, f5, f6, f7, f8, f9])) (hone : oneCellFields P #[f0, f1, f2, f3, f4, f5, f6, f7, f8, f9] = true) (hC : P.cellsOf t = 10)
    (hv : Value.okWide P w r b0 t v) (h : DataW.Trod enc P w base spare held t v d p) :
    ∃ (v0 v1 v2 v3 v4 v5 v6 v7 v8 v9 : Value) (y0 y1 y2 y3 y4 y5 y6 y7 y8 y9 : DataW H × List MemPlace) (n : Nat), v = .agg #[v0, v1, v2, v3, v4, v5, v6, v7, v8, v9] ∧ d = .agg [y0.1, y1.1, y2.1, y3.1, y4.1, y5.1, y6.1, y7.1, y8.1, y9.1] ∧ p = y0.2 ++ (y1.2 ++ (y2.2 ++ (y3.2 ++ (y4.2 ++ (y5.2 ++ (y6.2 ++ (y7.2 ++ (y8.2 ++ y9.2)))))))) ∧
      DataW.trod enc P w base spare held n f0.type [v0] = some y0 ∧ DataW.trod enc P w base spare held n f1.type [v1] = some y1 ∧ DataW.trod enc P w base spare held n f2.type [v2] = some y2 ∧ DataW.trod enc P w base spare held n f3.type [v3] = some y3 ∧ DataW.trod enc P w base spare held n f4.type [v4] = some y4 ∧ DataW.trod enc P w base spare held n f5.type [v5] = some y5 ∧ DataW.trod enc P w base spare held n f6.type [v6] = some y6 ∧ DataW.trod enc P w base spare held n f7.type [v7] = some y7 ∧ DataW.trod enc P w base spare held n f8.type [v8] = some y8 ∧ DataW.trod enc P w base spare held n f9.type [v9] = some y9 := by
  obtain ⟨cs, rfl, hsz⟩ := okWide_struct hs hv
  obtain ⟨l⟩ := cs
  match l, hsz.trans hC with
  | [c0, c1, c2, c3, c4, c5, c6, c7, c8, c9], _ =>
    obtain ⟨fuel, hf⟩ := h
    obtain ⟨xs, n, _, hx, _, hlen, hg⟩ := DataW.trod_struct hs hf
    obtain ⟨o0, k0⟩ := hone_of hone 0 f0 rfl
    obtain ⟨o1, k1⟩ := hone_of hone 1 f1 rfl
    obtain ⟨o2, k2⟩ := hone_of hone 2 f2 rfl
    obtain ⟨o3, k3⟩ := hone_of hone 3 f3 rfl
    obtain ⟨o4, k4⟩ := hone_of hone 4 f4 rfl
    obtain ⟨o5, k5⟩ := hone_of hone 5 f5 rfl
    obtain ⟨o6, k6⟩ := hone_of hone 6 f6 rfl
    obtain ⟨o7, k7⟩ := hone_of hone 7 f7 rfl
    obtain ⟨o8, k8⟩ := hone_of hone 8 f8 rfl
    obtain ⟨o9, k9⟩ := hone_of hone 9 f9 rfl
    match xs, hlen with
    | [y0, y1, y2, y3, y4, y5, y6, y7, y8, y9], _ =>
      simp only [Prod.mk.injEq] at hx
      exact ⟨c0, c1, c2, c3, c4, c5, c6, c7, c8, c9, y0, y1, y2, y3, y4, y5, y6, y7, y8, y9, n, rfl, by simpa using hx.1, by simpa using hx.2, by simpa [Value.cells, o0, k0] using hg 0 f0 rfl, by simpa [Value.cells, o1, k1] using hg 1 f1 rfl, by simpa [Value.cells, o2, k2] using hg 2 f2 rfl, by simpa [Value.cells, o3, k3] using hg 3 f3 rfl, by simpa [Value.cells, o4, k4] using hg 4 f4 rfl, by simpa [Value.cells, o5, k5] using hg 5 f5 rfl, by simpa [Value.cells, o6, k6] using hg 6 f6 rfl, by simpa [Value.cells, o7, k7] using hg 7 f7 rfl, by simpa [Value.cells, o8, k8] using hg 8 f8 rfl, by simpa [Value.cells, o9, k9] using hg 9 f9 rfl⟩
end
/-- a slice of whole numbers lies in memory -/
def NumsAt (k : IntKind) (w : World) (v : Value) (ns : List Int) : Prop := ∃ a c, v = .slice a ns.length c ∧ ∀ i, i < ns.length → ∃ b o, a = some ⟨b, o, none⟩ ∧ w.cell? ⟨b, o + i, none⟩ = some (.int k (ns.getD i 0))
theorem NumsAt.below {k : IntKind} {w w' : World} {v : Value} {ns : List Int} (h : NumsAt k w v ns) (hb : Below w.heap.size w w') : NumsAt k w' v ns := by
  obtain ⟨a, c, rfl, hc⟩ := h
  exact ⟨a, c, rfl, fun i hi => by
    obtain ⟨b, o, rfl, hcell⟩ := hc i hi
    exact ⟨b, o, rfl, stays hb hcell⟩⟩
theorem open_nums {H : Type} {enc : TypeId × Value → H} {P : Program} {w : World} {r : Reach} {base b0 : Nat} {held : Bool} {t e : TypeId} {k : IntKind} {v : Value} {d : DataW H} {p : List MemPlace} (ht : P.underlying t = some (.slice e)) (he : P.underlying e = some (.int k)) (hc : P.cellsOf e = 1)
    (hv : Value.okWide P w r b0 t v) (h : DataW.Trod enc P w base (fun _ => true) held t v d p) : ∃ ns, NumsAt k w v ns ∧ ns.length ≤ maxLen ∧ (∀ n ∈ ns, (Lit.int k n).wf = true) ∧ ∀ l c, v = .slice none l c → c = 0 := by
  obtain ⟨a0, len, cap, rfl⟩ := okWide_slice ht hv
  obtain ⟨fuel, hf⟩ := h
  rcases open_ints ht he hc hf with ⟨hcs, hx⟩ | ⟨a, len', cap', zs, hcs, _, hl, hm, hz, hx, hcell, hwz⟩
  · simp [Value.cells] at hcs
    obtain ⟨rfl, rfl, rfl⟩ := hcs
    exact ⟨[], ⟨none, 0, rfl, fun i hi => by simp at hi⟩, by simp, by simp, fun l c h => by injection h with _ _ h; exact h.symm⟩
  · simp [Value.cells] at hcs
    obtain ⟨rfl, rfl, rfl⟩ := hcs
    simp only [if_true] at hz
    have hlen : (zs.take len).length = len := by rw [List.length_take]; omega
    refine ⟨zs.take len, ⟨some a, cap, by rw [hlen], fun i hi => ?_⟩, by omega, fun n hn => hwz n (List.mem_of_mem_take hn), fun l c h => by injection h with h; cases h⟩
    rw [hlen] at hi
    obtain ⟨b, o, sp⟩ := a
    have hsp : sp = none := by simpa [Addr.add] using World.cell?_spot (hcell 0 (by omega))
    subst hsp
    have h1 := hcell i (by omega)
    have e1 : Addr.add ⟨b, o, none⟩ i = ⟨b, o + i, none⟩ := by unfold Addr.add; split <;> simp_all
    rw [e1] at h1
    have e2 : (zs.take len).getD i 0 = zs.getD i 0 := by simp [List.getD, hi]
    exact ⟨b, o, rfl, by rw [e2]; exact h1⟩
theorem of_i64 {n : Int} (h : (Lit.int .i64 n).wf = true) : -9223372036854775808 ≤ n ∧ n ≤ 9223372036854775807 := by
  simp only [Lit.wf] at h
  rw [show IntKind.i64.min = -9223372036854775808 from by decide, show IntKind.i64.max = 9223372036854775807 from by decide, Bool.and_eq_true, decide_eq_true_eq, decide_eq_true_eq] at h
  exact h
theorem of_u8 {n : Int} (h : (Lit.int .u8 n).wf = true) : 0 ≤ n ∧ n ≤ 255 := by
  simp only [Lit.wf] at h
  rw [show IntKind.u8.min = 0 from by decide, show IntKind.u8.max = 255 from by decide, Bool.and_eq_true, decide_eq_true_eq, decide_eq_true_eq] at h
  exact h
theorem of_u16 {n : Int} (h : (Lit.int .u16 n).wf = true) : 0 ≤ n ∧ n ≤ 65535 := by
  simp only [Lit.wf] at h
  rw [show IntKind.u16.min = 0 from by decide, show IntKind.u16.max = 65535 from by decide, Bool.and_eq_true, decide_eq_true_eq, decide_eq_true_eq] at h
  exact h
theorem of_u32 {n : Int} (h : (Lit.int .u32 n).wf = true) : 0 ≤ n ∧ n ≤ 4294967295 := by
  simp only [Lit.wf] at h
  rw [show IntKind.u32.min = 0 from by decide, show IntKind.u32.max = 4294967295 from by decide, Bool.and_eq_true, decide_eq_true_eq, decide_eq_true_eq] at h
  exact h
theorem of_u64 {n : Int} (h : (Lit.int .u64 n).wf = true) : 0 ≤ n ∧ n ≤ 18446744073709551615 := by
  simp only [Lit.wf] at h
  rw [show IntKind.u64.min = 0 from by decide, show IntKind.u64.max = 18446744073709551615 from by decide, Bool.and_eq_true, decide_eq_true_eq, decide_eq_true_eq] at h
  exact h
theorem of_i32 {n : Int} (h : (Lit.int .i32 n).wf = true) : -2147483648 ≤ n ∧ n ≤ 2147483647 := by
  simp only [Lit.wf] at h
  rw [show IntKind.i32.min = -2147483648 from by decide, show IntKind.i32.max = 2147483647 from by decide, Bool.and_eq_true, decide_eq_true_eq, decide_eq_true_eq] at h
  exact h
end Go.Proofs.YtecbnhmnhcpcmaaGreatDoor
/-! What an argument reads as, of whatever kind: structs, slices, slices of structs. No program. -/
namespace Go.Proofs.YtecbnhmnhcpcmaaGreatDoor
open Go.Deep Go.Joins Go.ChangeShapes Go.WideShapes Go.RowKit
set_option linter.unusedVariables false
def Reads (P : Program) (w : World) : Nat → TypeId → List Value → Prop
  | 0, _, _ => True
  | n + 1, t, cs =>
    match P.underlying t with
    | some .bool => ∃ b, cs = [.bool b]
    | some (.int k) => ∃ m, cs = [.int k m] ∧ (Lit.int k m).wf = true
    | some .string => ∃ s, cs = [.string s] ∧ s.size ≤ maxLen
    | some (.slice e) => cs = [.slice none 0 0] ∨ ∃ (a : Addr) (len cap : Nat), cs = [.slice (some a) len cap] ∧ len ≤ cap ∧ cap ≤ maxLen ∧ ∀ i, i < len → ∃ es : List Value, es.length = P.cellsOf e ∧ (∀ j, j < P.cellsOf e → w.cell? (a.add (i * P.cellsOf e + j)) = es[j]?) ∧ Reads P w n e es
    | some (.struct fs) => cs.length = P.cellsOf t ∧ ∀ (i : Nat) (f : Field), fs[i]? = some f → Reads P w n f.type ((cs.drop f.offset).take (P.cellsOf f.type))
    | _ => True
section
variable {H : Type} {enc : TypeId × Value → H} {P : Program} {w : World} {base : Nat} {spare : Nat → Bool} {held : Bool}
theorem addr_add_add (a : Addr) (i j : Nat) : (a.add i).add j = a.add (i + j) := by
  unfold Addr.add
  by_cases hi : i = 0
  · subst hi; simp
  · by_cases hj : j = 0
    · subst hj; simp [hi]
    · simp [hi, hj]; omega
theorem reads_of_trod : ∀ (n fuel : Nat) (t : TypeId) (cs : List Value) (x : DataW H × List MemPlace), DataW.trod enc P w base spare held fuel t cs = some x → Reads P w n t cs := by
  intro n
  induction n with
  | zero => intro _ _ _ _ _; trivial
  | succ n ih =>
    intro fuel t cs x h
    unfold Reads
    cases ht : P.underlying t with
    | none => trivial
    | some d =>
      cases fuel with
      | zero => simp [DataW.trod] at h
      | succ m =>
        cases d with
        | bool =>
          unfold DataW.trod at h
          rw [ht] at h
          split at h <;> simp_all
        | int k =>
          unfold DataW.trod at h
          rw [ht] at h
          split at h <;> simp_all
        | string =>
          unfold DataW.trod at h
          rw [ht] at h
          split at h <;> simp_all
        | slice e =>
          rcases DataW.trod_slice ht h with h0 | ⟨a, len, cap, elems, rest, n', _, rfl, rfl, hb, hl, hm, hlen, hel, hsp, hns⟩
          · exact .inl h0.1
          · refine .inr ⟨a, len, cap, rfl, hl, hm, fun i hi => ?_⟩
            have hh := hel i hi
            have hsome : ∃ y, elems[i]? = some y := ⟨elems[i], List.getElem?_eq_getElem (by omega)⟩
            obtain ⟨y, hy⟩ := hsome
            rw [hy] at hh
            obtain ⟨es, h1, h2⟩ := Option.bind_eq_some_iff.1 hh
            have h3 := World.cells?_some h1
            exact ⟨es, h3.2.1, fun j hj => by rw [← addr_add_add]; exact h3.2.2 j hj, ih _ _ _ _ h2⟩
        | struct fs =>
          obtain ⟨xs, n', _, hx, hc, hlen, hg⟩ := DataW.trod_struct ht h
          refine ⟨hc, fun i f hf => ?_⟩
          have hi : i < fs.size := by
            rcases Nat.lt_or_ge i fs.size with h | h
            · exact h
            · rw [Array.getElem?_eq_none h] at hf; cases hf
          have := hg i f hf
          rw [List.getElem?_eq_getElem (by omega)] at this
          exact ih _ _ _ _ this
        | _ => trivial
theorem reads_of_Trod {t : TypeId} {v : Value} {d : DataW H} {p : List MemPlace} (n : Nat) (h : DataW.Trod enc P w base spare held t v d p) : Reads P w n t v.cells.toList := by
  obtain ⟨fuel, hf⟩ := h
  exact reads_of_trod n fuel _ _ _ hf
end
/-- rows of cells, one behind another -/
def RowsIn (w : World) (v : Value) (size : Nat) (rows : List (List Value)) : Prop :=
  ∃ a c, v = .slice a rows.length c ∧ rows.length ≤ c ∧ c ≤ maxLen ∧ ∀ i, i < rows.length → ∃ b o, a = some ⟨b, o, none⟩ ∧ b < w.heap.size ∧ ∀ j, j < size → w.cell? ⟨b, o + (i * size + j), none⟩ = (rows.getD i [])[j]?
theorem RowsIn.below {w w' : World} {v : Value} {size : Nat} {rows : List (List Value)} (h : RowsIn w v size rows) (hb : Below w.heap.size w w') : RowsIn w' v size rows := by
  obtain ⟨a, c, h1, h2, h3, h4⟩ := h
  refine ⟨a, c, h1, h2, h3, fun i hi => ?_⟩
  obtain ⟨b, o, h5, h6, h7⟩ := h4 i hi
  exact ⟨b, o, h5, Nat.lt_of_lt_of_le h6 hb.size, fun j hj => by rw [hb.cell (p := ⟨b, o + (i * size + j), none⟩) h6]; exact h7 j hj⟩
theorem RowsIn.below_at {B : Nat} {w w' : World} {v : Value} {size : Nat} {rows : List (List Value)} (h : RowsIn w v size rows) (hB : w.heap.size ≤ B) (hb : Below B w w') : RowsIn w' v size rows := h.below (hb.mono hB)
theorem slice_of_reads {P : Program} {w : World} {n : Nat} {t e : TypeId} {cs : List Value} (ht : P.underlying t = some (.slice e)) (he : 0 < P.cellsOf e) (h : Reads P w (n + 1) t cs) :
    ∃ v rows, cs = [v] ∧ RowsIn w v (P.cellsOf e) rows ∧ ∀ r ∈ rows, r.length = P.cellsOf e ∧ Reads P w n e r := by
  unfold Reads at h
  rw [ht] at h
  rcases h with rfl | ⟨a, len, cap, rfl, h1, h2, h3⟩
  · exact ⟨_, [], rfl, ⟨none, 0, rfl, Nat.le_refl _, Nat.zero_le _, fun i hi => by simp at hi⟩, fun r hr => by cases hr⟩
  · have hc : ∃ f : Nat → List Value, ∀ i, i < len → (f i).length = P.cellsOf e ∧ (∀ j, j < P.cellsOf e → w.cell? (a.add (i * P.cellsOf e + j)) = (f i)[j]?) ∧ Reads P w n e (f i) := by
      refine ⟨fun i => if hi : i < len then Classical.choose (h3 i hi) else [], fun i hi => ?_⟩
      simp only [dif_pos hi]
      exact Classical.choose_spec (h3 i hi)
    obtain ⟨f, hf⟩ := hc
    refine ⟨_, (List.range len).map f, rfl, ⟨some a, cap, by simp, by simpa using h1, h2, fun i hi => ?_⟩, fun r hr => ?_⟩
    · have hi : i < len := by simpa using hi
      obtain ⟨g1, g2, g3⟩ := hf i hi
      have hz := g2 0 he
      have hlt : 0 < (f i).length := by omega
      rw [List.getElem?_eq_getElem hlt] at hz
      obtain ⟨b, o, sp⟩ := a
      have hsp : (Addr.add ⟨b, o, sp⟩ (i * P.cellsOf e + 0)).spot = none := World.cell?_spot hz
      have hb := World.block_lt_of_cell? _ _ hz
      have hbb : (Addr.add ⟨b, o, sp⟩ (i * P.cellsOf e + 0)).block = b := by unfold Addr.add; split <;> rfl
      have hsp0 : sp = none := by
        obtain ⟨y1, y2, -⟩ := hf 0 (by omega)
        have := y2 0 he
        rw [List.getElem?_eq_getElem (by omega)] at this
        simpa [Addr.add] using World.cell?_spot this
      subst hsp0
      refine ⟨b, o, rfl, by rw [hbb] at hb; exact hb, fun j hj => ?_⟩
      have e1 : Addr.add ⟨b, o, none⟩ (i * P.cellsOf e + j) = ⟨b, o + (i * P.cellsOf e + j), none⟩ := by unfold Addr.add; split <;> simp_all
      rw [← e1, g2 j hj]
      simp [List.getD, hi]
    · obtain ⟨i, hi, rfl⟩ := List.mem_map.1 hr
      obtain ⟨g1, g2, g3⟩ := hf i (by simpa using hi)
      exact ⟨g1, g3⟩
theorem choose_on {α β : Type} [Nonempty β] {p : α → β → Prop} {l : List α} (h : ∀ a ∈ l, ∃ b, p a b) : ∃ f : α → β, ∀ a ∈ l, p a (f a) := ⟨fun a => Classical.epsilon (p a), fun a ha => Classical.epsilon_spec (h a ha)⟩
theorem map_back {α β : Type} {f : α → β} {g : β → α} {l : List α} (h : ∀ a ∈ l, a = g (f a)) : (l.map f).map g = l := by
  rw [List.map_map]
  conv => rhs; rw [← List.map_id l]
  exact List.map_congr_left fun r hr => (h r hr).symm
theorem int_of_reads {P : Program} {w : World} {n : Nat} {t : TypeId} {k : IntKind} {cs : List Value} (ht : P.underlying t = some (.int k)) (h : Reads P w (n + 1) t cs) : ∃ m, cs = [.int k m] ∧ (Lit.int k m).wf = true := by
  unfold Reads at h; rw [ht] at h; exact h
theorem bool_of_reads {P : Program} {w : World} {n : Nat} {t : TypeId} {cs : List Value} (ht : P.underlying t = some .bool) (h : Reads P w (n + 1) t cs) : ∃ b, cs = [.bool b] := by
  unfold Reads at h; rw [ht] at h; exact h
theorem string_of_reads {P : Program} {w : World} {n : Nat} {t : TypeId} {cs : List Value} (ht : P.underlying t = some .string) (h : Reads P w (n + 1) t cs) : ∃ s, cs = [.string s] ∧ s.size ≤ maxLen := by
  unfold Reads at h; rw [ht] at h; exact h
theorem struct_of_reads {P : Program} {w : World} {n : Nat} {t : TypeId} {fs : Array Field} {cs : List Value} (ht : P.underlying t = some (.struct fs)) (h : Reads P w (n + 1) t cs) :
    cs.length = P.cellsOf t ∧ ∀ (i : Nat) (f : Field), fs[i]? = some f → Reads P w n f.type ((cs.drop f.offset).take (P.cellsOf f.type)) := by
  unfold Reads at h; rw [ht] at h; exact h
theorem rows_cell {w : World} {a : Option Addr} {n c size : Nat} {rows : List (List Value)} (h : RowsIn w (.slice a n c) size rows) (i : Nat) (hi : i < rows.length) : ∃ b o, a = some ⟨b, o, none⟩ ∧ ∀ j, j < size → w.cell? ⟨b, o + (i * size + j), none⟩ = (rows.getD i [])[j]? := by
  obtain ⟨a', c', h1, h2, h3, h4⟩ := h
  injection h1 with h1 _ _
  subst h1
  obtain ⟨b, o, h5, h6, h7⟩ := h4 i hi
  exact ⟨b, o, h5, h7⟩
theorem rows_form {w : World} {v : Value} {size : Nat} {rows : List (List Value)} (h : RowsIn w v size rows) : ∃ a c, v = .slice a rows.length c ∧ rows.length ≤ c ∧ c ≤ maxLen := by
  obtain ⟨a, c, h1, h2, h3, _⟩ := h
  exact ⟨a, c, h1, h2, h3⟩
end Go.Proofs.YtecbnhmnhcpcmaaGreatDoor
