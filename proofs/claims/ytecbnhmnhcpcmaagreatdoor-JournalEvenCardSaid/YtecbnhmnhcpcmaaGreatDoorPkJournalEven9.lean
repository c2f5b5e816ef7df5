/- What an argument reads as, of whatever kind: structs, slices, slices of structs. No program. -/
import Derived.Test.YtecbnhmnhcpcmaaGreatDoorPkJournalEven8
import Derived.ChangeArms
/-! What an argument reads as, of whatever kind: structs, slices, slices of structs. No program. -/
namespace Go.Proofs.YtecbnhmnhcpcmaaGreatDoor
open Go.Deep Go.Joins Go.ChangeShapes Go.WideShapes Go.RowKit
set_option linter.unusedVariables false
def Reads (P : Program) (w : World) : Nat → TypeId → List Value → Prop
  | 0, _, _ => True
  | n + 1, t, cs =>
    match P.underlying t with
    | some .bool => ∃ b, cs = [.bool b]
    | some (.int k) => ∃ m, cs = [.int k m] ∧ (Lit.int k m).wf = true
    | some .string => ∃ s, cs = [.string s] ∧ s.size ≤ maxLen
    | some (.slice e) => cs = [.slice none 0 0] ∨ ∃ (a : Addr) (len cap : Nat), cs = [.slice (some a) len cap] ∧ len ≤ cap ∧ cap ≤ maxLen ∧ ∀ i, i < len → ∃ es : List Value, es.length = P.cellsOf e ∧ (∀ j, j < P.cellsOf e → w.cell? (a.add (i * P.cellsOf e + j)) = es[j]?) ∧ Reads P w n e es
    | some (.struct fs) => cs.length = P.cellsOf t ∧ ∀ (i : Nat) (f : Field), fs[i]? = some f → Reads P w n f.type ((cs.drop f.offset).take (P.cellsOf f.type))
    | _ => True
section
variable {H : Type} {enc : TypeId × Value → H} {P : Program} {w : World} {base : Nat} {spare : Nat → Bool} {held : Bool}
theorem addr_add_add (a : Addr) (i j : Nat) : (a.add i).add j = a.add (i + j) := by
  unfold Addr.add
  by_cases hi : i = 0
  · subst hi; simp
  · by_cases hj : j = 0
    · subst hj; simp [hi]
    · simp [hi, hj]; omega
theorem reads_of_trod : ∀ (n fuel : Nat) (t : TypeId) (cs : List Value) (x : DataW H × List MemPlace), DataW.trod enc P w base spare held fuel t cs = some x → Reads P w n t cs := by
  intro n
  induction n with
  | zero => intro _ _ _ _ _; trivial
  | succ n ih =>
    intro fuel t cs x h
    unfold Reads
    cases ht : P.underlying t with
    | none => trivial
    | some d =>
      cases fuel with
      | zero => simp [DataW.trod] at h
      | succ m =>
        cases d with
        | bool =>
          unfold DataW.trod at h
          rw [ht] at h
          split at h <;> simp_all
        | int k =>
          unfold DataW.trod at h
          rw [ht] at h
          split at h <;> simp_all
        | string =>
          unfold DataW.trod at h
          rw [ht] at h
          split at h <;> simp_all
        | slice e =>
          rcases DataW.trod_slice ht h with h0 | ⟨a, len, cap, elems, rest, n', _, rfl, rfl, hb, hl, hm, hlen, hel, hsp, hns⟩
          · exact .inl h0.1
          · refine .inr ⟨a, len, cap, rfl, hl, hm, fun i hi => ?_⟩
            have hh := hel i hi
            have hsome : ∃ y, elems[i]? = some y := ⟨elems[i], List.getElem?_eq_getElem (by omega)⟩
            obtain ⟨y, hy⟩ := hsome
            rw [hy] at hh
            obtain ⟨es, h1, h2⟩ := Option.bind_eq_some_iff.1 hh
            have h3 := World.cells?_some h1
            exact ⟨es, h3.2.1, fun j hj => by rw [← addr_add_add]; exact h3.2.2 j hj, ih _ _ _ _ h2⟩
        | struct fs =>
          obtain ⟨xs, n', _, hx, hc, hlen, hg⟩ := DataW.trod_struct ht h
          refine ⟨hc, fun i f hf => ?_⟩
          have hi : i < fs.size := by
            rcases Nat.lt_or_ge i fs.size with h | h
            · exact h
            · rw [Array.getElem?_eq_none h] at hf; cases hf
          have := hg i f hf
          rw [List.getElem?_eq_getElem (by omega)] at this
          exact ih _ _ _ _ this
        | _ => trivial
theorem reads_of_Trod {t : TypeId} {v : Value} {d : DataW H} {p : List MemPlace} (n : Nat) (h : DataW.Trod enc P w base spare held t v d p) : Reads P w n t v.cells.toList := by
  obtain ⟨fuel, hf⟩ := h
  exact reads_of_trod n fuel _ _ _ hf
end
/-- rows of cells, one behind another -/
def RowsIn (w : World) (v : Value) (size : Nat) (rows : List (List Value)) : Prop :=
  ∃ a c, v = .slice a rows.length c ∧ rows.length ≤ c ∧ c ≤ maxLen ∧ ∀ i, i < rows.length → ∃ b o, a = some ⟨b, o, none⟩ ∧ b < w.heap.size ∧ ∀ j, j < size → w.cell? ⟨b, o + (i * size + j), none⟩ = (rows.getD i [])[j]?
theorem RowsIn.below {w w' : World} {v : Value} {size : Nat} {rows : List (List Value)} (h : RowsIn w v size rows) (hb : Below w.heap.size w w') : RowsIn w' v size rows := by
  obtain ⟨a, c, h1, h2, h3, h4⟩ := h
  refine ⟨a, c, h1, h2, h3, fun i hi => ?_⟩
  obtain ⟨b, o, h5, h6, h7⟩ := h4 i hi
  exact ⟨b, o, h5, Nat.lt_of_lt_of_le h6 hb.size, fun j hj => by rw [hb.cell (p := ⟨b, o + (i * size + j), none⟩) h6]; exact h7 j hj⟩
theorem RowsIn.below_at {B : Nat} {w w' : World} {v : Value} {size : Nat} {rows : List (List Value)} (h : RowsIn w v size rows) (hB : w.heap.size ≤ B) (hb : Below B w w') : RowsIn w' v size rows := h.below (hb.mono hB)
theorem slice_of_reads {P : Program} {w : World} {n : Nat} {t e : TypeId} {cs : List Value} (ht : P.underlying t = some (.slice e)) (he : 0 < P.cellsOf e) (h : Reads P w (n + 1) t cs) :
    ∃ v rows, cs = [v] ∧ RowsIn w v (P.cellsOf e) rows ∧ ∀ r ∈ rows, r.length = P.cellsOf e ∧ Reads P w n e r := by
  unfold Reads at h
  rw [ht] at h
  rcases h with rfl | ⟨a, len, cap, rfl, h1, h2, h3⟩
  · exact ⟨_, [], rfl, ⟨none, 0, rfl, Nat.le_refl _, Nat.zero_le _, fun i hi => by simp at hi⟩, fun r hr => by cases hr⟩
  · have hc : ∃ f : Nat → List Value, ∀ i, i < len → (f i).length = P.cellsOf e ∧ (∀ j, j < P.cellsOf e → w.cell? (a.add (i * P.cellsOf e + j)) = (f i)[j]?) ∧ Reads P w n e (f i) := by
      refine ⟨fun i => if hi : i < len then Classical.choose (h3 i hi) else [], fun i hi => ?_⟩
      simp only [dif_pos hi]
      exact Classical.choose_spec (h3 i hi)
    obtain ⟨f, hf⟩ := hc
    refine ⟨_, (List.range len).map f, rfl, ⟨some a, cap, by simp, by simpa using h1, h2, fun i hi => ?_⟩, fun r hr => ?_⟩
    · have hi : i < len := by simpa using hi
      obtain ⟨g1, g2, g3⟩ := hf i hi
      have hz := g2 0 he
      have hlt : 0 < (f i).length := by omega
      rw [List.getElem?_eq_getElem hlt] at hz
      obtain ⟨b, o, sp⟩ := a
      have hsp : (Addr.add ⟨b, o, sp⟩ (i * P.cellsOf e + 0)).spot = none := World.cell?_spot hz
      have hb := World.block_lt_of_cell? _ _ hz
      have hbb : (Addr.add ⟨b, o, sp⟩ (i * P.cellsOf e + 0)).block = b := by unfold Addr.add; split <;> rfl
      have hsp0 : sp = none := by
        obtain ⟨y1, y2, -⟩ := hf 0 (by omega)
        have := y2 0 he
        rw [List.getElem?_eq_getElem (by omega)] at this
        simpa [Addr.add] using World.cell?_spot this
      subst hsp0
      refine ⟨b, o, rfl, by rw [hbb] at hb; exact hb, fun j hj => ?_⟩
      have e1 : Addr.add ⟨b, o, none⟩ (i * P.cellsOf e + j) = ⟨b, o + (i * P.cellsOf e + j), none⟩ := by unfold Addr.add; split <;> simp_all
      rw [← e1, g2 j hj]
      simp [List.getD, hi]
    · obtain ⟨i, hi, rfl⟩ := List.mem_map.1 hr
      obtain ⟨g1, g2, g3⟩ := hf i (by simpa using hi)
      exact ⟨g1, g3⟩
theorem choose_on {α β : Type} [Nonempty β] {p : α → β → Prop} {l : List α} (h : ∀ a ∈ l, ∃ b, p a b) : ∃ f : α → β, ∀ a ∈ l, p a (f a) := ⟨fun a => Classical.epsilon (p a), fun a ha => Classical.epsilon_spec (h a ha)⟩
theorem map_back {α β : Type} {f : α → β} {g : β → α} {l : List α} (h : ∀ a ∈ l, a = g (f a)) : (l.map f).map g = l := by
  rw [List.map_map]
  conv => rhs; rw [← List.map_id l]
  exact List.map_congr_left fun r hr => (h r hr).symm
theorem int_of_reads {P : Program} {w : World} {n : Nat} {t : TypeId} {k : IntKind} {cs : List Value} (ht : P.underlying t = some (.int k)) (h : Reads P w (n + 1) t cs) : ∃ m, cs = [.int k m] ∧ (Lit.int k m).wf = true := by
  unfold Reads at h; rw [ht] at h; exact h
theorem bool_of_reads {P : Program} {w : World} {n : Nat} {t : TypeId} {cs : List Value} (ht : P.underlying t = some .bool) (h : Reads P w (n + 1) t cs) : ∃ b, cs = [.bool b] := by
  unfold Reads at h; rw [ht] at h; exact h
theorem string_of_reads {P : Program} {w : World} {n : Nat} {t : TypeId} {cs : List Value} (ht : P.underlying t = some .string) (h : Reads P w (n + 1) t cs) : ∃ s, cs = [.string s] ∧ s.size ≤ maxLen := by
  unfold Reads at h; rw [ht] at h; exact h
theorem struct_of_reads {P : Program} {w : World} {n : Nat} {t : TypeId} {fs : Array Field} {cs : List Value} (ht : P.underlying t = some (.struct fs)) (h : Reads P w (n + 1) t cs) :
    cs.length = P.cellsOf t ∧ ∀ (i : Nat) (f : Field), fs[i]? = some f → Reads P w n f.type ((cs.drop f.offset).take (P.cellsOf f.type)) := by
  unfold Reads at h; rw [ht] at h; exact h
theorem rows_cell {w : World} {a : Option Addr} {n c size : Nat} {rows : List (List Value)} (h : RowsIn w (.slice a n c) size rows) (i : Nat) (hi : i < rows.length) : ∃ b o, a = some ⟨b, o, none⟩ ∧ ∀ j, j < size → w.cell? ⟨b, o + (i * size + j), none⟩ = (rows.getD i [])[j]? := by
  obtain ⟨a', c', h1, h2, h3, h4⟩ := h
  injection h1 with h1 _ _
  subst h1
  obtain ⟨b, o, h5, h6, h7⟩ := h4 i hi
  exact ⟨b, o, h5, h7⟩
theorem rows_form {w : World} {v : Value} {size : Nat} {rows : List (List Value)} (h : RowsIn w v size rows) : ∃ a c, v = .slice a rows.length c ∧ rows.length ≤ c ∧ c ≤ maxLen := by
  obtain ⟨a, c, h1, h2, h3, _⟩ := h
  exact ⟨a, c, h1, h2, h3⟩
end Go.Proofs.YtecbnhmnhcpcmaaGreatDoor
