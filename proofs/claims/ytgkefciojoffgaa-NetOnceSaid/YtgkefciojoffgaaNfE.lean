/- A count by names in a map of the call's own; what it says of the net's letters. -/
import Derived.Test.YtgkefciojoffgaaNfD
import Derived.Maps.OwnOps
import Derived.Maps.Views
namespace Go.Proofs.Ytgkefciojoffgaa
open Go.RowKit Go.WideMaps Go.Maps
set_option linter.unusedVariables false
set_option linter.unusedSimpArgs false
theorem keyStr : Keyed Try.prog 9 := string_keyed Try.underlying9
theorem zeroInt (w : World) : (zeroValue 3).run Try.prog w = .ok (.int .i64 0) w := by kernel_rfl
def CntM (w : World) (m n : Nat) (F : List UInt8 → Int) : Prop :=
  ∃ D : DataW Nat, w.ownsMap Try.prog 9 (plainElem Try.prog 3) m n D ∧ IsMap D ∧ ∀ s, D.atKey (.string s) (.lit (.int .i64 0)) = .lit (.int .i64 (F s))
def upd (F : List UInt8 → Int) (s : List UInt8) (c : Int) (t : List UInt8) : Int := if t = s then c else F t
theorem key_str (s : List UInt8) (hs : s.length ≤ 1000000) : keyOf Try.prog 9 (.string ⟨s.toArray⟩) = some (.string s) := by
  have := keyOf_string_mk (P := Try.prog) (k := 9) Try.underlying9 (s := ⟨s.toArray⟩) (by unfold maxLen; simp [ByteArray.size]; omega)
  exact this
theorem CntM.made (w : World) : CntM (w.alloc (.map #[] 0)) w.heap.size 0 (fun _ => 0) :=
  ⟨_, World.ownsMap_made _ _ _ _, isMap_empty, fun s => rfl⟩
theorem CntM.lt {w : World} {m n : Nat} {F : List UInt8 → Int} (h : CntM w m n F) : m < w.heap.size := by
  obtain ⟨D, h, -⟩ := h
  exact h.lt
theorem CntM.isMap {w : World} {m n : Nat} {F : List UInt8 → Int} (h : CntM w m n F) : ∃ es c, w.heap[m]? = some (.map es c) := by
  obtain ⟨D, ⟨es, c, h, -⟩, -⟩ := h
  exact ⟨es, c, h⟩
theorem CntM.mono {w : World} {m n n' : Nat} {F : List UInt8 → Int} (h : CntM w m n F) (hn : n ≤ n') : CntM w m n' F := by
  obtain ⟨D, h1, h2⟩ := h
  exact ⟨D, h1.mono hn, h2⟩
theorem CntM.same {w w' : World} {m n : Nat} {F : List UInt8 → Int} (h : CntM w m n F) (hb : w'.heap[m]? = w.heap[m]?) : CntM w' m n F := by
  obtain ⟨D, ⟨es, c, h1, h2⟩, h3⟩ := h
  exact ⟨D, ⟨es, c, hb.trans h1, h2⟩, h3⟩
theorem CntM.below {w w' : World} {m n : Nat} {F : List UInt8 → Int} (h : CntM w m n F) (hb : Below w.heap.size w w') : CntM w' m n F := h.same (hb.block m h.lt)
theorem CntM.look {w : World} {m n : Nat} {F : List UInt8 → Int} (h : CntM w m n F) (s : List UInt8) (hs : s.length ≤ 1000000) :
    (Instr.lookup 51 (.map (some m)) (.string ⟨s.toArray⟩) false).run Try.prog w = .ok (.int .i64 (F s)) w := by
  obtain ⟨D, h1, h2, h3⟩ := h
  obtain ⟨c, hrun, hat, hwc⟩ := h1.lookup_int keyStr Try.underlying51 Try.underlying3 (zeroInt _) (key_str s hs)
  have := h3 s
  rw [hat] at this
  injection this with this
  injection this with _ this
  rw [← this]
  exact hrun
theorem wpList_mapUpdate_cnt (w : World) {ops : Array Oper} {rest : List Oper} {o : Oper} {a : Act} {Q : Exit → Act → World → Prop}
    (hg : o.guard = none) (m x v : Operand) (hop : o.op = Op.mapUpdate 51 m x v) (b n : Nat) (F : List UInt8 → Int) (hm : a.eval m = .map (some b)) (h : CntM w b n F) (hn : n < 1000000) (s : List UInt8) (hs : s.length ≤ 1000000) (c : Int)
    (hx : a.eval x = .string ⟨s.toArray⟩) (hv : a.eval v = .int .i64 c) (hc : i64 c)
    (hK : ∀ w', CntM w' b (n + 1) (upd F s c) → w.grownBy w' (some b) → wpList Try.prog ops Q rest (a.put o.dst undef) w') :
    wpList Try.prog ops Q (o :: rest) a w := by
  obtain ⟨D, h1, h2, h3⟩ := h
  have hcw : (Lit.int .i64 c).wf = true := by
    have h1 : (-9223372036854775808 : Int) ≤ c := hc.1
    have h2 : c ≤ (9223372036854775807 : Int) := hc.2
    simp only [Lit.wf, Bool.and_eq_true, decide_eq_true_eq]
    exact ⟨h1, h2⟩
  refine wpList_mapUpdate_own w hg m x v _ hop _ _ keyStr Try.underlying51 _ b n D hm h1 (by unfold maxLen; omega) _ _ (.string s) hx hv (key_str s hs) (.lit (.int .i64 c)) [] (plainElem_int Try.underlying3 hcw) fun w' g1 g2 => ?_
  refine hK w' ⟨_, g1, h2.put _ _, fun t => ?_⟩ g2
  unfold upd
  by_cases ht : t = s
  · subst ht
    rw [if_pos rfl]
    exact atKey_put_same h2 (by simp [WideAt.IsKeyLit]) _ _
  · rw [if_neg ht, atKey_put_other (by intro e; injection e with e; exact ht e) _ _]
    exact h3 t
/-- the net stays where the map turns -/
theorem NetS.mapped {B pn m : Nat} {X : List Nat} {w w' : World} {G : Int} {R : List Sy} {c1 c2 c3 : Bool} (h : NetS B pn X w G R c1 c2 c3) (hg : w.grownBy w' (some m)) (hm : m ∈ X) (hB : B ≤ m) (ho : ∃ es c, w.heap[m]? = some (.map es c)) : NetS B pn X w' G R c1 c2 c3 ∧ Stp B w w' ∧ Below B w w' := by
  obtain ⟨v, L, h1, h2, h3, h4, h5, h6, h7, h8⟩ := h
  obtain ⟨es, c, ho⟩ := ho
  have hk : Kept (· = m) w w' := ⟨hg.os, hg.tape, hg.output, hg.size, fun k hk hn => hg.block k hk fun e => hn (by injection e)⟩
  have hst : Stp B w w' := fun k hk hq => hg.block k hk fun e => by
    injection e with e
    subst e
    rcases hq with hq | ⟨cs, fr, hq⟩
    · omega
    · rw [ho] at hq; injection hq with hq; cases hq
  refine ⟨⟨v, L, ⟨?_, ?_⟩, h2.step hst, h3, h4, h5, h6, h7, fun k hX => ?_⟩, hst, hk.below (by have := lt_of_block h1.1; omega) fun k hk => by subst hk; exact hB⟩
  · rw [hk.block pn (lt_of_block h1.1) fun hS => (h8 m hm).1 hS.symm]; exact h1.1
  · obtain ⟨hl, hh⟩ := h1.2
    refine ⟨hl, ?_⟩
    rcases hh with hh | ⟨g, cap, cur, e1, e2, e3, e4⟩
    · exact .inl hh
    · refine .inr ⟨g, cap, cur, e1, e2, ?_, e4⟩
      rw [hk.block g (lt_of_block e3) fun hS => (h8 m hm).2.1 (by rw [e1, ← hS]; rfl)]; exact e3
  · obtain ⟨a, b, c, d⟩ := h8 k hX
    exact ⟨a, b, Nat.lt_of_lt_of_le c hk.size, d⟩
/-- The name of a letter, as the law spells it. -/
def nmOf (x : Sy) : List UInt8 := byteOf x.1 :: byteOf x.2.1 :: x.2.2
/-- the count is no less than the letters -/
def CntI (R : List Sy) (F : List UInt8 → Int) (k : Nat) : Prop := ∀ s, ((R.map nmOf).count s : Int) ≤ F s ∧ F s ≤ k
theorem CntI.start : CntI [] (fun _ => 0) 0 := fun s => ⟨by simp, by simp⟩
theorem CntI.le {R R' : List Sy} {F : List UInt8 → Int} {k k' : Nat} (h : CntI R F k) (hR : ∀ s, (R'.map nmOf).count s ≤ (R.map nmOf).count s) (hk : k ≤ k') : CntI R' F k' := fun s => by
  obtain ⟨h1, h2⟩ := h s
  have := hR s
  exact ⟨by omega, by omega⟩
theorem CntI.more {R : List Sy} {F : List UInt8 → Int} {k : Nat} (h : CntI R F k) : CntI R F (k + 1) := h.le (fun s => Nat.le_refl _) (by omega)
theorem CntI.push {R : List Sy} {F : List UInt8 → Int} {k : Nat} (h : CntI R F k) (x : Sy) : CntI (R ++ [x]) (upd F (nmOf x) (F (nmOf x) + 1)) (k + 1) := fun s => by
  obtain ⟨h1, h2⟩ := h s
  unfold upd
  rw [List.map_append, List.count_append]
  by_cases hs : s = nmOf x
  · subst hs
    rw [if_pos rfl]
    simp
    omega
  · rw [if_neg hs]
    have : ([x].map nmOf).count s = 0 := by
      rw [List.count_eq_zero]
      simp
      exact hs
    rw [this]
    exact ⟨by omega, by omega⟩
theorem count_erase (R : List Sy) (j : Nat) (hj : j < R.length) (s : List UInt8) : (R.map nmOf).count s = ((R.eraseIdx j).map nmOf).count s + if nmOf R[j] = s then 1 else 0 := by
  have hp : R.map nmOf = (R.map nmOf).take j ++ nmOf R[j] :: (R.map nmOf).drop (j + 1) := by
    have := List.take_append_drop j (R.map nmOf)
    rw [List.drop_eq_getElem_cons (by simpa using hj)] at this
    rw [List.getElem_map] at this
    exact this.symm
  have he : (R.eraseIdx j).map nmOf = (R.map nmOf).take j ++ (R.map nmOf).drop (j + 1) := by
    rw [← erase_map, List.eraseIdx_eq_take_drop_succ]
  rw [he, hp, List.count_append, List.count_cons, List.count_append]
  rw [← hp]
  by_cases h : nmOf R[j] = s
  · simp [h]; omega
  · simp [h]
theorem CntI.take {R : List Sy} {F : List UInt8 → Int} {k j : Nat} (h : CntI R F k) (hj : j < R.length) : 1 ≤ F (nmOf R[j]) ∧ CntI (R.eraseIdx j) (upd F (nmOf R[j]) (F (nmOf R[j]) - 1)) (k + 1) := by
  refine ⟨?_, fun s => ?_⟩
  · have h1 := (h (nmOf R[j])).1
    have h2 := count_erase R j hj (nmOf R[j])
    rw [if_pos rfl] at h2
    omega
  · obtain ⟨h1, h2⟩ := h s
    have h3 := count_erase R j hj s
    unfold upd
    by_cases hs : s = nmOf R[j]
    · rw [if_pos hs.symm] at h3
      rw [if_pos hs]
      subst hs
      exact ⟨by omega, by omega⟩
    · rw [if_neg (Ne.symm hs)] at h3
      rw [if_neg hs]
      exact ⟨by omega, by omega⟩
theorem CntI.drop {R : List Sy} {F : List UInt8 → Int} {k : Nat} (h : CntI R F k) (j : Int) : CntI (dropR R j) F (k + 1) := by
  unfold dropR
  split
  · rename_i hj
    exact h.le (fun s => by
      have := count_erase R j.toNat (by unfold inR at hj; omega) s
      omega) (by omega)
  · exact h.more
theorem CntI.hold {R : List Sy} {F : List UInt8 → Int} {k : Nat} (h : CntI R F k) (j : Int) : CntI (holdR R j) F (k + 1) := by
  unfold holdR
  split
  · rename_i hj
    have hlt : j.toNat < R.length := by unfold inR at hj; omega
    have ha : at? R j = R[j.toNat] := by
      have := at_nat R j.toNat hlt
      rw [← this]
      congr 1
      unfold inR at hj
      omega
    refine h.le (fun s => ?_) (by omega)
    have := count_erase R j.toNat hlt s
    rw [List.map_append, List.count_append, ha, this, List.map_singleton, List.count_singleton]
    simp [beq_iff_eq]
  · exact h.more
/-- a letter of a row of its own -/
theorem RowAt.letter {B base : Nat} {w : World} {v : Value} {R : List Sy} (h : RowAt B base w v R) (k : Nat) (hk : k < R.length) : ∃ g cap bv, v = .slice (some ⟨g, 0, none⟩) R.length cap ∧ base ≤ g ∧ g < w.heap.size ∧ BytesAt B w bv R[k].2.2 ∧
    ∀ w' : World, w'.heap[g]? = w.heap[g]? → w'.cell? ⟨g, k * 3, none⟩ = some (.int .i64 R[k].1) ∧ w'.cell? ⟨g, k * 3 + 1, none⟩ = some (.int .i64 R[k].2.1) ∧ w'.cell? ⟨g, k * 3 + 2, none⟩ = some bv := by
  obtain ⟨L, h1, h2, rfl, -⟩ := h
  have hk' : k < L.length := by simpa using hk
  obtain ⟨g, cap, cur, hv, hg, h3, h4, h5, h6, h7⟩ := own_open h1 (by omega)
  obtain ⟨hbase, -⟩ := own_typed h1 (k := g) (by rw [hv]; rfl)
  have hgg := lt_of_block h3
  have hb := h2 L[k] (List.getElem_mem hk')
  refine ⟨g, cap, L[k].bv, by rw [hv, List.length_map], hbase, hgg, by rw [List.getElem_map]; exact hb, fun w' hw' => ?_⟩
  obtain ⟨r0, r1, r2⟩ := row_letter (n := 0) (cap := 0) (hw'.trans h3) h7 k hk'
  rw [List.getElem_map]
  refine ⟨?_, ?_, ?_⟩
  · simpa using r0
  · simpa using r1
  · simpa using r2
end Go.Proofs.Ytgkefciojoffgaa
