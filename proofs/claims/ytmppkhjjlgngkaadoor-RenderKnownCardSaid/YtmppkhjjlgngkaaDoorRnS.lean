/- The walk of RenderLines. -/
import Derived.Test.YtmppkhjjlgngkaaDoorRnR
import Derived.Laws.AppendOwnNone
namespace Go.Proofs.YtmppkhjjlgngkaaDoor
open Go.RowKit Civ Ren Go.Shelf
set_option linter.unusedVariables false
set_option linter.unusedSimpArgs false
set_option maxRecDepth 100000
/-! plain facts -/
theorem nl_pos (ws : List Bs) : 1 ≤ (nl ws).length := by unfold nl; simp
theorem body_parts (no te mo : Int) (ls : List Ren.Ln) (tot cr : Int) (l : Ren.Ln) : ∃ A N F, bodyL ⟨no, te, mo, ls, tot, cr⟩ = A ++ F ∧ bodyL ⟨no, te, mo, ls ++ [l], tot, cr⟩ = A ++ (N ++ F) ∧ 1 ≤ N.length := by
  refine ⟨headT ⟨no, te, mo, ls, tot, cr⟩ ++ ls.flatMap (fun l => nl (lineW l)), nl (lineW l), nl [wTotal, Lib.itoa tot] ++ footT ⟨no, te, mo, ls, tot, cr⟩, ?_, ?_, nl_pos _⟩
  · rw [body_rows]; simp [List.append_assoc]
  · rw [body_rows]
    rw [List.flatMap_append]
    simp [List.append_assoc, headT, footT]
structure LFact (u t : ByteArray) (n : Nat) : Prop where
  cnt : u.data.toList.count 10 = n
  lt : u.size < t.size
  le : t.size ≤ 10000
  cut : ∃ p, p ≤ u.size ∧ (∀ k (h : k < u.size) (h' : k < t.size), k < p → u[k] = t[k]) ∧ ∀ k, k ≤ u.size → p ≤ k → t.extract (t.size - (u.size - k)) t.size = u.extract k u.size
theorem ba_extract (l : List UInt8) (k : Nat) : (⟨l.toArray⟩ : ByteArray).extract k (⟨l.toArray⟩ : ByteArray).size = ⟨(l.drop k).toArray⟩ := by
  apply ByteArray.ext
  rw [ByteArray.data_extract]
  apply Array.toList_inj.1
  simp [ByteArray.size]
  rw [List.take_of_length_le (by simp)]
theorem ba_at (l : List UInt8) (k : Nat) (h : k < (⟨l.toArray⟩ : ByteArray).size) (h' : k < l.length) : (⟨l.toArray⟩ : ByteArray)[k] = l[k] := by
  show l.toArray[k] = l[k]
  simp
theorem ba_sz (l : List UInt8) : (⟨l.toArray⟩ : ByteArray).size = l.length := by show l.toArray.size = _; simp
theorem lfact_of (A N F : List UInt8) (n : Nat) (hn : 1 ≤ N.length) (hc : (A ++ F).count 10 = n) (hl : (A ++ (N ++ F)).length ≤ 10000) : LFact ⟨(A ++ F).toArray⟩ ⟨(A ++ (N ++ F)).toArray⟩ n := by
  refine ⟨by simpa using hc, ?_, ?_, A.length, ?_, ?_, ?_⟩
  · rw [ba_sz, ba_sz]; simp only [List.length_append]; omega
  · rw [ba_sz]; exact hl
  · rw [ba_sz]; simp only [List.length_append]; omega
  · intro k h h' hk
    rw [ba_at _ _ h (by simp only [List.length_append]; omega), ba_at _ _ h' (by simp only [List.length_append]; omega), List.getElem_append_left hk, List.getElem_append_left hk]
  · intro k hk hp
    rw [ba_sz] at hk
    rw [ba_extract, ba_extract, ba_sz, ba_sz]
    have e1 : (A ++ F).drop k = F.drop (k - A.length) := by rw [List.drop_append, List.drop_eq_nil_of_le hp, List.nil_append]
    have e2 : (A ++ (N ++ F)).drop ((A ++ (N ++ F)).length - ((A ++ F).length - k)) = F.drop (k - A.length) := by
      simp only [List.length_append] at hk ⊢
      rw [← List.append_assoc, List.drop_append, List.drop_eq_nil_of_le (by simp only [List.length_append]; omega), List.nil_append]
      congr 1
      simp only [List.length_append]
      omega
    rw [e1, e2]
theorem lines_fact (no te mo : Int) (ls : List Ren.Ln) (tot cr : Int) (l : Ren.Ln) (hok : Ren.Inv.ok ⟨no, te, mo, ls ++ [l], tot, cr⟩) (hm : mayB ⟨no, te, mo, ls ++ [l], tot, cr⟩ = true) (h0 : mayB ⟨no, te, mo, ls, tot, cr⟩ = true) :
    LFact ⟨(textL ⟨no, te, mo, ls, tot, cr⟩).toArray⟩ ⟨(textL ⟨no, te, mo, ls ++ [l], tot, cr⟩).toArray⟩ (4 + ls.length + if 0 < cr then 1 else 0) := by
  obtain ⟨A, N, F, e1, e2, e3⟩ := body_parts no te mo ls tot cr l
  have hl := body_len _ hok hm
  have hc := count_body ⟨no, te, mo, ls, tot, cr⟩
  rw [text_may hm, text_may h0, e1, e2]
  rw [e2] at hl
  rw [e1] at hc
  exact lfact_of A N F _ e3 hc hl
theorem may_more (no te mo : Int) (ls : List Ren.Ln) (tot cr u : Int) (h0 : mayB ⟨no, te, mo, ls, tot, cr⟩ = true) (hl : ls.length ≤ 27) (hu : 0 ≤ u) : mayB ⟨no, te, mo, ls ++ [⟨2, 0, 0, u, 0⟩], tot, cr⟩ = true := by
  unfold mayB at h0 ⊢
  rw [Bool.and_eq_true] at h0 ⊢
  obtain ⟨h1, h2⟩ := h0
  have h3 := of_decide_eq_true h2
  dsimp only at h3
  refine ⟨?_, decide_eq_true ?_⟩
  · rw [List.all_append, h1]
    simp [lnB]
    exact hu
  · simp only [List.length_append, List.length_cons, List.length_nil]
    omega
/-! an append of what may be nil -/
theorem wpList_append_opt {P : Program} {w : World} {ops : Array Oper} {rest : List Oper} {o : Oper} {a : Act} {Q : Exit → Act → World → Prop} (hgd : o.guard = none) (s x : Operand) (t : TypeId)
    (ho : o.op = .call { callee := .builtin .append, args := #[s, x], argTypes := #[t, t] })
    (base : Nat) (e : TypeId) (i : TypeInfo) (z : Value) (size bytes : Nat) (ht : P.underlying t = some (.slice e)) (hi : P.info? e = some i) (hz : i.zero = some z)
    (hsize : i.size = size) (hby : i.bytes = bytes) (hzs : z.cells.size = size) (hsz : 0 < size)
    (v : Value) (n : Nat) (xs : List Value) (hs : a.eval s = v) (hown : w.ownsRow base e size v n xs)
    (oa : Option Addr) (m c : Nat) (news : List Value) (hx : a.eval x = .slice oa m c) (hnone : oa = none → m = 0 ∧ c = 0) (hl : news.length = m * size) (hnews : ∀ ad, oa = some ad → ∀ j u, news[j]? = some u → w.cell? (ad.add j) = some u) (h1 : ∀ u ∈ news, u.oneCell' = true)
    (h63 : n + m ≤ maxLen) (hbytes : (n + m) * bytes ≤ 140737488355328) (hbase : base ≤ w.heap.size)
    (h : ∀ v' w', w'.ownsRow base e size v' (n + m) (xs ++ news) → w.grownBy w' v.ownBlock → wpList P ops Q rest (a.put o.dst v') w') : wpList P ops Q (o :: rest) a w := by
  cases oa with
  | some ad => exact wpList_append_own w hgd s x t ho base e i z size bytes ht hi hz hsize hby hzs hsz v n xs hs hown ad m c news hx hl (hnews ad rfl) h1 h63 hbytes hbase (fun v' w' h2 h3 _ => h v' w' h2 h3)
  | none =>
    obtain ⟨rfl, rfl⟩ := hnone rfl
    have hn : news = [] := List.eq_nil_of_length_eq_zero (by rw [hl]; omega)
    subst hn
    exact wpList_append_own_none hgd s x t ho base e i size ht hi v n xs hs hown hx (h v w (by simpa using hown) (World.grownBy.refl _ _))
theorem own_emptyLn (w : World) : (w.alloc (.cells #[] 37)).ownsRow w.heap.size 37 5 (.slice (some ⟨w.heap.size, 0, none⟩) 0 0) 0 [] :=
  ⟨rfl, .inr ⟨w.heap.size, 0, #[], rfl, Nat.le_refl _, heap_alloc_new _ _, Nat.le_refl _, Nat.zero_le _, rfl, rfl⟩⟩
theorem lines_src {w : World} {oa : Option Addr} {n c : Nat} {L : List Ren.Ln} (h : RowsIn w (.slice oa n c) 5 (L.map Ren.Ln.cells)) (ad : Addr) (ha : oa = some ad) : ∀ (j : Nat) (u : Value), (L.map Ren.Ln.cells).flatten[j]? = some u → w.cell? (ad.add j) = some u := by
  intro j u hu
  have hlen : ∀ M : List Ren.Ln, (M.map Ren.Ln.cells).flatten.length = M.length * 5 := fun M => by
    induction M with
    | nil => rfl
    | cons x r ih => rw [List.map_cons, List.flatten_cons, List.length_append, ih]; simp [Ren.Ln.cells]; omega
  have hj : j < (L.map Ren.Ln.cells).flatten.length := by
    rcases Nat.lt_or_ge j (L.map Ren.Ln.cells).flatten.length with h | h
    · exact h
    · rw [List.getElem?_eq_none h] at hu; cases hu
  rw [hlen] at hj
  obtain ⟨b, o, e, hc⟩ := rows_cell h (j / 5) (by rw [List.length_map]; omega)
  have h5 := hc (j % 5) (by omega)
  rw [ha] at e
  injection e with e
  subst e
  rw [show Addr.add ⟨b, o, none⟩ j = ⟨b, o + j, none⟩ from by unfold Addr.add; split <;> simp_all]
  rw [show o + (j / 5 * 5 + j % 5) = o + j from by omega] at h5
  rw [h5, ← flat_get 5 _ (cellsL_len L) (j / 5) (j % 5) (by rw [List.length_map]; omega) (by omega), show j / 5 * 5 + j % 5 = j from by omega]
  exact hu
theorem flat_len (M : List Ren.Ln) : (M.map Ren.Ln.cells).flatten.length = M.length * 5 := by
  induction M with
  | nil => rfl
  | cons x r ih => rw [List.map_cons, List.flatten_cons, List.length_append, ih]; simp [Ren.Ln.cells]; omega
theorem flat_one (M : List Ren.Ln) : ∀ u ∈ (M.map Ren.Ln.cells).flatten, u.oneCell' = true := by
  intro u hu
  obtain ⟨l, hl, hu⟩ := List.mem_flatten.1 hu
  obtain ⟨x, hx, rfl⟩ := List.mem_map.1 hl
  exact oneLn x u hu
def cnt10 (u : ByteArray) (k : Nat) : Nat := (u.data.toList.take k).count 10
end Go.Proofs.YtmppkhjjlgngkaaDoor
