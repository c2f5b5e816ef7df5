/- Lemmas of memory for the laws of postings: rows of parts as the source of an append, a store beside another one. -/
import Derived.Test.YtecbnhmnhcpcmaaGreatDoorPkJournalKnown32
import Derived.Test.YtecbnhmnhcpcmaaGreatDoorPkJournalKnown33
import Derived.Maps.AppendAt
/-! Lemmas of memory for the laws of postings: rows of parts as the source of an append, a store beside another one. -/
namespace Go.Proofs.YtecbnhmnhcpcmaaGreatDoor
open Go.RowKit Go.WideMaps Go.Maps
set_option linter.unusedVariables false
set_option linter.unusedSimpArgs false
set_option maxRecDepth 100000
theorem jflat_get {α : Type} (size : Nat) : ∀ (rows : List (List α)), (∀ r ∈ rows, r.length = size) → ∀ (i j : Nat), i < rows.length → j < size → rows.flatten[i * size + j]? = (rows.getD i [])[j]?
  | [], _, i, j, hi, _ => by simp at hi
  | r :: rows, h, 0, j, _, hj => by
    have := h r (by simp)
    rw [List.flatten_cons, Nat.zero_mul, Nat.zero_add, List.getElem?_append_left (by omega)]
    rfl
  | r :: rows, h, i + 1, j, hi, hj => by
    have h1 := h r (by simp)
    rw [List.flatten_cons, List.getElem?_append_right (by rw [h1, Nat.add_mul]; omega), h1, show (i + 1) * size + j - size = i * size + j by rw [Nat.add_mul]; omega, jflat_get size rows (fun x hx => h x (List.mem_cons_of_mem _ hx)) i j (by simpa using hi) hj]
    rfl
/-- a row of one's own reads as rows -/
theorem jrows_own {w : World} {base : Nat} {e : TypeId} {size : Nat} {v : Value} {rows : List (List Value)} (hs : ∀ r ∈ rows, r.length = size) (h : w.ownsRow base e size v rows.length rows.flatten) : RowsIn w v size rows := by
  obtain ⟨hl, h0 | ⟨g, cap, cur, h1, h2, h3, h4, h5, h6, h7⟩⟩ := h
  · obtain ⟨rfl, hn⟩ := h0
    exact ⟨none, 0, by rw [hn], by omega, Nat.zero_le _, fun i hi => by omega⟩
  · subst h1
    refine ⟨_, cap, rfl, h4, h5, fun i hi => ⟨g, 0, rfl, lt_of_block h3, fun j hj => ?_⟩⟩
    rw [Nat.zero_add, cell_of_row h3, ← jflat_get size rows hs i j hi hj, ← h7]
    rw [List.getElem?_take_of_lt ?_]
    · simp
    · have h8 : (i + 1) * size ≤ rows.length * size := Nat.mul_le_mul_right _ hi
      rw [Nat.add_mul] at h8
      omega
theorem pts_len (M : List Pt) : (M.map Pt.cells).flatten.length = M.length * 2 := by
  induction M with
  | nil => rfl
  | cons x r ih => rw [List.map_cons, List.flatten_cons, List.length_append, ih]; simp [Pt.cells]; omega
theorem pts_one (M : List Pt) : ∀ u ∈ (M.map Pt.cells).flatten, u.oneCell' = true := by
  intro u hu
  obtain ⟨l, hl, hu⟩ := List.mem_flatten.1 hu
  obtain ⟨x, hx, rfl⟩ := List.mem_map.1 hl
  simp [Pt.cells] at hu
  rcases hu with rfl | rfl <;> rfl
/-- a part of a row of parts, where it lies -/
theorem pts_src {w : World} {g o n c : Nat} {L : List Pt} (h : RowsIn w (.slice (some ⟨g, o, none⟩) n c) 2 (L.map Pt.cells)) (lo m : Nat) (hm : lo + m ≤ L.length) : ∀ (j : Nat) (u : Value), ((((L.drop lo).take m).map Pt.cells).flatten)[j]? = some u → w.cell? (Addr.add ⟨g, o + lo * 2, none⟩ j) = some u := by
  intro j u hu
  have hl : ((L.drop lo).take m).length = m := by rw [List.length_take, List.length_drop]; omega
  have hj : j < (((L.drop lo).take m).map Pt.cells).flatten.length := by
    rcases Nat.lt_or_ge j (((L.drop lo).take m).map Pt.cells).flatten.length with h | h
    · exact h
    · rw [List.getElem?_eq_none h] at hu; cases hu
  rw [pts_len, hl] at hj
  obtain ⟨b, o', e, hc⟩ := rows_cell h (lo + j / 2) (by rw [List.length_map]; omega)
  have h5 := hc (j % 2) (by omega)
  injection e with e
  injection e with e1 e2 _
  subst e1; subst e2
  rw [show Addr.add ⟨g, o + lo * 2, none⟩ j = ⟨g, o + lo * 2 + j, none⟩ from by unfold Addr.add; split <;> simp_all]
  rw [show o + ((lo + j / 2) * 2 + j % 2) = o + lo * 2 + j from by omega] at h5
  rw [h5]
  have h6 := jflat_get 2 (((L.drop lo).take m).map Pt.cells) (fun r hr => by obtain ⟨p, -, rfl⟩ := List.mem_map.1 hr; rfl) (j / 2) (j % 2) (by rw [List.length_map, hl]; omega) (by omega)
  rw [show j / 2 * 2 + j % 2 = j from by omega, hu] at h6
  rw [h6]
  congr 1
  have hk : j / 2 < m := by omega
  simp [List.getD, hk, List.getElem?_drop]
theorem wp_appendJ {P : Program} {o : Oper} {a : Act} {K : Act → World → Prop} {Q : Exit → Act → World → Prop} (w : World) (s x : Operand) (t : TypeId)
    (ho : o.op = .call { callee := .builtin .append, args := #[s, x], argTypes := #[t, t] })
    (base : Nat) (e : TypeId) (i : TypeInfo) (z : Value) (size bytes : Nat) (ht : P.underlying t = some (.slice e)) (hi : P.info? e = some i) (hz : i.zero = some z)
    (hsize : i.size = size) (hby : i.bytes = bytes) (hzs : z.cells.size = size) (hsz : 0 < size)
    (v : Value) (n : Nat) (xs : List Value) (hs : a.eval s = v) (hown : w.ownsRow base e size v n xs)
    (ad : Addr) (m c : Nat) (news : List Value) (hx : a.eval x = .slice (some ad) m c) (hl : news.length = m * size) (hnews : ∀ j u, news[j]? = some u → w.cell? (ad.add j) = some u) (h1 : ∀ u ∈ news, u.oneCell' = true)
    (h63 : n + m ≤ maxLen) (hbytes : (n + m) * bytes ≤ 140737488355328) (hbase : base ≤ w.heap.size)
    (h : ∀ v' w', w'.ownsRow base e size v' (n + m) (xs ++ news) → w.grownBy w' v.ownBlock → K (a.put o.dst v') w') : o.wp P a w K Q := by
  obtain ⟨v', w', hr, h2, h3, h4, h5⟩ := run_append_own_at (P := P) w base t o.type e i z size bytes ht hi hz hsize hby hzs hsz v n xs hown ad m c news hl hnews h1 h63 hbytes hbase
  unfold Oper.wp execOp
  simp only [ho, resolve, invoke, builtin, Sem.run_bind, Sem.run_pure, Result.andThen_ok, List.map_toArray, List.map_cons, List.map_nil, hs, hx, hr]
  exact h v' w' h2 h3
theorem own_emptyP (w : World) : (w.alloc (.cells #[] 41)).ownsRow w.heap.size 41 2 (.slice (some ⟨w.heap.size, 0, none⟩) 0 0) 0 [] :=
  ⟨rfl, .inr ⟨w.heap.size, 0, #[], rfl, Nat.le_refl _, heap_alloc_new _ _, Nat.le_refl _, Nat.zero_le _, rfl, rfl⟩⟩
theorem infoPt : (Tryz.prog.info? 41).map (fun i => (i.zero, i.size, i.bytes)) = some (some (.agg #[.string ⟨#[]⟩, .int .i64 0]), 2, 24) := by kernel_rfl
theorem jown_form {w : World} {base : Nat} {e : TypeId} {size n : Nat} {v : Value} {xs : List Value} (h : w.ownsRow base e size v n xs) : ∃ a c, v = .slice a n c := by
  obtain ⟨_, ⟨h1, h2⟩ | ⟨g, cap, cur, h1, _⟩⟩ := h
  · exact ⟨none, 0, by rw [h1, h2]⟩
  · exact ⟨_, _, h1⟩
/-- another store's map turns: this one stays -/
theorem MemS.turned {w w' : World} {b p b1 b2 n : Nat} {room : Int} {D D2 : DM} (h : MemS w p b1 b2 room n D D2) (ht : Turned b w w') (h1 : b1 ≠ b) (h2 : b2 ≠ b) : MemS w' p b1 b2 room n D D2 :=
  ⟨ht.block h.box, ht.other h.now h1, ht.other h.was h2, h.ne⟩
theorem MemS.lt1 {w : World} {p b1 b2 n : Nat} {room : Int} {D D2 : DM} (h : MemS w p b1 b2 room n D D2) : b1 < w.heap.size := h.now.lt
theorem MemS.lt2 {w : World} {p b1 b2 n : Nat} {room : Int} {D D2 : DM} (h : MemS w p b1 b2 room n D D2) : b2 < w.heap.size := h.was.lt
/-- one act in a slice of its own -/
theorem act_row {w : World} {g : Nat} {x : Ac} (h : w.heap[g]? = some (.cells x.cells.toArray 38 (0, 0))) : RowsIn w (.slice (some ⟨g, 0, none⟩) 1 1) 3 ([x].map Ac.cells) :=
  ⟨_, 1, rfl, Nat.le_refl _, by unfold maxLen; omega, fun i hi => ⟨g, 0, rfl, lt_of_block h, fun j hj => by
    have hi0 : i = 0 := by simp at hi; omega
    subst hi0
    rw [cell_of_row h]
    simp⟩⟩
end Go.Proofs.YtecbnhmnhcpcmaaGreatDoor
