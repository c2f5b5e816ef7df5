/- The walks of slices.Clone over parts, and of journal.Neg. The reference's journal: postings in a list. What its acts turn. -/
import Derived.Test.YtecbnhmnhcpcmaaGreatDoorPkJournalPlays27
import Derived.Test.YtecbnhmnhcpcmaaGreatDoorPkJournalPlays37
/-! The walks of slices.Clone over parts, and of journal.Neg. -/
namespace Go.Proofs.YtecbnhmnhcpcmaaGreatDoor
open Go.RowKit Go.WideMaps Go.Maps
set_option linter.unusedVariables false
set_option linter.unusedSimpArgs false
set_option maxRecDepth 100000
/-- parts in a row of one's own -/
abbrev OwnP (w : World) (base : Nat) (v : Value) (L : List Pt) : Prop := w.ownsRow base 41 2 v L.length (L.map Pt.cells).flatten
theorem OwnP.rows {w : World} {base : Nat} {v : Value} {L : List Pt} (h : OwnP w base v L) : RowsIn w v 2 (L.map Pt.cells) := jrows_own (pt_rows _) (by rw [List.length_map]; exact h)
theorem pts_set : ∀ (L : List Pt) (k : Nat) (q : Pt) (x : Int), L[k]? = some q → ((L.map Pt.cells).flatten).set (k * 2 + 1) (.int .i64 x) = ((L.set k ⟨q.a, x⟩).map Pt.cells).flatten
  | [], k, q, x, h => by simp at h
  | p :: r, 0, q, x, h => by
    simp at h
    subst h
    rfl
  | p :: r, k + 1, q, x, h => by
    have ih := pts_set r k q x (by simpa using h)
    rw [List.map_cons, List.flatten_cons, List.set_cons_succ, List.map_cons, List.flatten_cons, ← ih, show (k + 1) * 2 + 1 = (k * 2 + 1) + 2 from by omega]
    rfl
theorem OwnP.set {w : World} {base : Nat} {g n cap : Nat} {L : List Pt} {k : Nat} {q : Pt} {x : Int} (h : OwnP w base (.slice (some ⟨g, 0, none⟩) n cap) L) (hk : L[k]? = some q) : OwnP (w.setCell ⟨g, k * 2 + 1, none⟩ (.int .i64 x)) base (.slice (some ⟨g, 0, none⟩) n cap) (L.set k ⟨q.a, x⟩) := by
  obtain ⟨hl, ⟨h1, -⟩ | ⟨g', cap', cur, h1, h2, h3, h4, h5, h6, h7⟩⟩ := h
  · cases h1
  injection h1 with h1 hn hc
  injection h1 with h1
  injection h1 with h1 _ _
  subst h1 hn hc
  have hkl : k < L.length := by
    rcases Nat.lt_or_ge k L.length with h | h
    · exact h
    · rw [List.getElem?_eq_none h] at hk; cases hk
  refine ⟨by rw [pts_len, List.length_set], .inr ⟨g, cap, cur.setIfInBounds (k * 2 + 1) (.int .i64 x), by rw [List.length_set], h2, ?_, by rw [List.length_set]; exact h4, h5, by simpa using h6, ?_⟩⟩
  · unfold World.setCell
    simp only [Array.getElem?_modify, if_true, h3]
    rfl
  · rw [List.length_set, ← pts_set L k q x hk, ← h7]
    simp [List.take_set]
theorem OwnP.form {w : World} {base : Nat} {v : Value} {L : List Pt} (h : OwnP w base v L) : (v = .slice none 0 0 ∧ L = []) ∨ ∃ g cap, v = .slice (some ⟨g, 0, none⟩) L.length cap ∧ base ≤ g ∧ g < w.heap.size ∧ ∀ j, w.frozen? ⟨g, j, none⟩ = false := by
  obtain ⟨hl, ⟨h1, h0⟩ | ⟨g', cap', cur, h1, h2, h3, -⟩⟩ := h
  · exact .inl ⟨h1, List.eq_nil_of_length_eq_zero h0⟩
  · exact .inr ⟨g', cap', h1, h2, lt_of_block h3, fun j => free_of_row h3⟩
set_option maxHeartbeats 1000000 in
theorem clonep_own (v : Value) (L : List Pt) (w : World) (hl : RowsIn w v 2 (L.map Pt.cells)) (h40 : L.length ≤ 40) : Calls Tryz.prog 51 #[v] w fun e w' => ∃ v', e = .returned v' ∧ OwnP w' w.heap.size v' L ∧ Below w.heap.size w w' := by
  obtain ⟨a, c, rfl⟩ := pt_form hl
  have hnil := fun (W : World) (a : Option Addr) (n c n' c' : Nat) => Lib.run_eql_slice_nil (P := Tryz.prog) W 36 41 a n c n' c' Tryz.underlying36
  cases a with
  | none =>
    obtain rfl : L = [] := by
      cases L with
      | nil => rfl
      | cons x r => obtain ⟨b, o, h3, _⟩ := pt_cells hl 0 (by simp); cases h3
    clear hl
    go_enter Tryz.func51, Tryz.ntmps51
    go_wp2_with fail
    go_ret
    exact ⟨_, rfl, World.ownsRow_nil _ _ _ _, Below.refl _ _⟩
  | some ad =>
    obtain ⟨i0, hi, hz0, hz1, hz2⟩ := info_parts infoPt
    have O0 := Lib.hid (own_emptyP w)
    have B0 := Lib.hid (below_alloc w (.cells #[] 41))
    have SRC : Hid (∀ j u, ((L.map Pt.cells).flatten)[j]? = some u → (w.alloc (.cells #[] 41)).cell? (ad.add j) = some u) := by
      cases L with
      | nil => exact fun j u hu => by simp at hu
      | cons x r =>
        obtain ⟨b, o, h3, _⟩ := pt_cells hl 0 (by simp)
        injection h3 with h3
        subst h3
        have h := pts_src (hl.below B0.out) 0 (x :: r).length (by simp)
        rw [List.drop_zero, List.take_length, Nat.zero_mul, Nat.add_zero] at h
        exact h
    clear hl
    go_enter Tryz.func51, Tryz.ntmps51
    go_wp2_with (at_builtin; refine wpList_append_own _ rfl (.tmp 5) (.tmp 6) 36 rfl w.heap.size 41 i0 _ 2 24 Tryz.underlying36 hi hz0 hz1 hz2 rfl (by decide) _ _ _ rfl O0.out ad L.length c ((L.map Pt.cells).flatten) rfl (pts_len L) SRC.out (pts_one L) (by unfold maxLen; omega) (by omega) (by simp) ?_)
    intro v2 w2 hown2 hgrow2 _
    try simp only [Nat.zero_add, List.nil_append] at hown2
    have B2 := Lib.hid (owned_below O0.out B0.out hgrow2)
    have O2 := Lib.hid hown2
    clear hown2 hgrow2 O0 B0
    go_wp2
    go_ret
    exact ⟨_, rfl, O2.out, B2.out⟩
set_option maxHeartbeats 2000000 in
theorem neg_any (v : Value) (L : List Pt) (w : World) (hl : RowsIn w v 2 (L.map Pt.cells)) (h40 : L.length ≤ 40) : Calls Tryz.prog 29 #[v] w fun e w' => ∃ v', e = .returned v' ∧ OwnP w' w.heap.size v' (L.map negP) ∧ Below w.heap.size w w' := by
  have CX := Lib.hid (clonep_own v L w hl h40)
  have H40 := Lib.hid h40
  clear hl
  go_enter Tryz.func29, Tryz.ntmps29
  go_wp2_with fail
  refine CX.out.mono ?_
  rintro e w1 ⟨v1, rfl, ho, hb⟩
  have O1 := Lib.hid ho
  have B1 := Lib.hid hb
  clear CX
  obtain ⟨va, vc, rfl⟩ := jown_form ho
  clear ho hb
  go_wp2_with fail
  go_loopw [9] (fun iv wr => ∃ k : Nat, k ≤ L.length ∧ iv = .int .i64 k ∧ Hid (OwnP wr w.heap.size (.slice va L.length vc) ((L.take k).map negP ++ L.drop k)) ∧ Hid (Below w.heap.size w wr)) (fun iv _ => L.length - (intOf iv).toNat)
  case atStart => exact ⟨0, by omega, rfl, by rw [List.take_zero, List.map_nil, List.nil_append, List.drop_zero]; exact O1.out, B1.out⟩
  case round =>
    obtain ⟨k, hk, rfl, OR, BR⟩ := hrel
    by_cases hlt : k < L.length
    · have hz : (k : Int) < (L.length : Int) := by omega
      have hat : ((L.take k).map negP ++ L.drop k)[k]? = some L[k] := by
        rw [List.getElem?_append_right (by rw [List.length_map, List.length_take]; omega), List.length_map, List.length_take, List.getElem?_drop, show k + (k - min k L.length) = k from by omega, List.getElem?_eq_getElem hlt]
      have hnew : ((L.take k).map negP ++ L.drop k).set k (negP L[k]) = (L.take (k + 1)).map negP ++ L.drop (k + 1) := by
        rw [List.set_append_right _ _ (by rw [List.length_map, List.length_take]; omega), List.length_map, List.length_take, show k - min k L.length = 0 from by omega, List.drop_eq_getElem_cons hlt, List.set_cons_zero, List.take_succ_eq_append_getElem hlt, List.map_append, List.append_assoc]
        rfl
      generalize L[k] = q at *
      obtain ⟨qa, qn⟩ := q
      rcases OwnP.form OR.out with ⟨h1, h2⟩ | ⟨g, cap, h1, hg, hgs, hfz⟩
      · exfalso
        have := congrArg List.length h2
        simp at this
        omega
      injection h1 with h1 hl0 hc
      clear hl0
      subst h1
      subst hc
      have hf := hfz (k * 2 + 1)
      clear hfz
      have hcell : wr.cell? ⟨g, k * 2 + 1, none⟩ = some (.int .i64 qn) := by
        obtain ⟨b, o, e, h3⟩ := rows_cell (OwnP.rows OR.out) k (by simp; omega)
        have h4 := h3 1 (by omega)
        injection e with e
        injection e with e1 e2 _
        subst e1
        subst e2
        rw [show 0 + (k * 2 + 1) = k * 2 + 1 from by omega] at h4
        rw [h4, List.getD_eq_getElem?_getD, List.getElem?_map, hat]
        rfl
      have ON : Hid (OwnP (wr.setCell ⟨g, k * 2 + 1, none⟩ (.int .i64 (wrap64 (-qn)))) w.heap.size (.slice (some ⟨g, 0, none⟩) L.length vc) ((L.take (k + 1)).map negP ++ L.drop (k + 1))) := by
        rw [← hnew]
        exact OwnP.set OR.out hat
      have BN : Hid (Below w.heap.size w (wr.setCell ⟨g, k * 2 + 1, none⟩ (.int .i64 (wrap64 (-qn))))) := BR.out.setCell hg _
      clear hat hnew
      go_wp2_with fail
      go_roundw
      case rel => exact ⟨k + 1, by omega, by go_num, ON.out, BN.out⟩
      case measure => simp [intOf]; omega
    · have hke : k = L.length := by omega
      have dk : decide ((k : Int) < ((L.length : Nat) : Int)) = false := decide_eq_false (by omega)
      have OF : Hid (OwnP wr w.heap.size (.slice va L.length vc) (L.map negP)) := by
        have h := OR.out
        rw [hke, List.take_length, List.drop_length, List.append_nil] at h
        exact h
      clear hke
      go_wp2_with fail
      go_ret
      exact ⟨_, rfl, OF.out, BR.out⟩
end Go.Proofs.YtecbnhmnhcpcmaaGreatDoor
/-! The reference's journal: postings in a list. What its acts turn. -/
namespace Go.Proofs.YtecbnhmnhcpcmaaGreatDoor
open Go.RowKit Go.WideMaps Go.Maps
set_option linter.unusedVariables false
set_option linter.unusedSimpArgs false
set_option maxRecDepth 100000
structure Po where
  (s : Nat) (t : Int) (ten : Nat) (ps : List Pt) (lv : Value)
def Po.cells (p : Po) : List Value := [.int .u64 p.s, .int .i64 p.t, .int .u32 p.ten, p.lv]
theorem po_rows (L : List Po) : ∀ r ∈ L.map Po.cells, r.length = 4 := fun r hr => by obtain ⟨p, -, rfl⟩ := List.mem_map.1 hr; rfl
theorem po_len (M : List Po) : (M.map Po.cells).flatten.length = M.length * 4 := by
  induction M with
  | nil => rfl
  | cons p r ih => rw [List.map_cons, List.flatten_cons, List.length_append, ih]; simp [Po.cells]; omega
/-- the reference's journal in memory: a pointer to a slice of postings, each with parts of its own -/
structure JR (B : Nat) (w : World) (jp : Nat) (rv : Value) (RL : List Po) : Prop where
  box : w.heap[jp]? = some (.cells #[rv] 30 (0, 0))
  list : w.ownsRow B 49 4 rv RL.length ((RL.map Po.cells).flatten)
  parts : ∀ p ∈ RL, OwnP w B p.lv p.ps
  lt : B ≤ jp
  seqs : ∀ (i : Nat) (p : Po), RL[i]? = some p → p.s = i + 1
theorem JR.rows {B jp : Nat} {w : World} {rv : Value} {RL : List Po} (h : JR B w jp rv RL) : RowsIn w rv 4 (RL.map Po.cells) := jrows_own (po_rows _) (by rw [List.length_map]; exact h.list)
theorem po_cells {w : World} {a : Option Addr} {n c : Nat} {L : List Po} (h : RowsIn w (.slice a n c) 4 (L.map Po.cells)) (i : Nat) (hi : i < L.length) : ∃ b o, a = some ⟨b, o, none⟩ ∧ w.cell? ⟨b, o + i * 4, none⟩ = some (.int .u64 L[i].s) ∧ w.cell? ⟨b, o + i * 4 + 1, none⟩ = some (.int .i64 L[i].t) ∧ w.cell? ⟨b, o + i * 4 + 2, none⟩ = some (.int .u32 L[i].ten) ∧ w.cell? ⟨b, o + i * 4 + 3, none⟩ = some L[i].lv := by
  obtain ⟨b, o, h1, h2⟩ := rows_cell h i (by simpa using hi)
  have e : ((L.map Po.cells).getD i []) = L[i].cells := by simp [List.getD, hi]
  rw [e] at h2
  exact ⟨b, o, h1, h2 0 (by omega), by rw [Nat.add_assoc]; exact h2 1 (by omega), by rw [Nat.add_assoc]; exact h2 2 (by omega), by rw [Nat.add_assoc]; exact h2 3 (by omega)⟩
/-- blocks of other types stay -/
structure Beside (B : Nat) (w w' : World) : Prop where
  os : w'.os = w.os
  tape : w'.tape = w.tape
  output : w'.output = w.output
  size : w.heap.size ≤ w'.heap.size
  block : ∀ k, k < w.heap.size → w'.heap[k]? = w.heap[k]? ∨ (B ≤ k ∧ ((∃ cs, w.heap[k]? = some (.cells cs 30 (0, 0))) ∨ ∃ cs, w.heap[k]? = some (.cells cs 49 (0, 0))))
theorem Beside.of_below {B : Nat} {w w' : World} (h : Below w.heap.size w w') : Beside B w w' := ⟨h.os, h.tape, h.output, h.size, fun k hk => .inl (h.block k hk)⟩
theorem Beside.refl (B : Nat) (w : World) : Beside B w w := .of_below (Below.refl _ _)
theorem Beside.trans {B : Nat} {a b c : World} (h : Beside B a b) (k : Beside B b c) : Beside B a c := ⟨k.os.trans h.os, k.tape.trans h.tape, k.output.trans h.output, Nat.le_trans h.size k.size, fun i hi => by
  rcases h.block i hi with h1 | h1
  · rcases k.block i (Nat.lt_of_lt_of_le hi h.size) with h2 | ⟨hB, h2⟩
    · exact .inl (h2.trans h1)
    · rw [h1] at h2
      exact .inr ⟨hB, h2⟩
  · exact .inr h1⟩
theorem Beside.below {B : Nat} {w w' : World} (h : Beside B w w') (hB : B ≤ w.heap.size) : Below B w w' := ⟨h.os, h.tape, h.output, h.size, fun k hk => by
  rcases h.block k (by omega) with h1 | ⟨h1, -⟩
  · exact h1
  · omega⟩
theorem Beside.set {B : Nat} {w : World} {jp j : Nat} {cs : Array Value} (h : w.heap[jp]? = some (.cells cs 30 (0, 0))) (hB : B ≤ jp) (u : Value) : Beside B w (w.setCell ⟨jp, j, none⟩ u) := ⟨rfl, rfl, rfl, by simp [World.setCell], fun k hk => by
  by_cases e : k = jp
  · subst e
    exact .inr ⟨hB, .inl ⟨cs, h⟩⟩
  · exact .inl (Below.heap_setCell _ _ _ _ e)⟩
theorem post_block {w : World} {base n k : Nat} {v : Value} {xs : List Value} (h : w.ownsRow base 49 4 v n xs) (hk : v.ownBlock = some k) : base ≤ k ∧ ∃ cs, w.heap[k]? = some (.cells cs 49 (0, 0)) := by
  obtain ⟨_, ⟨rfl, _⟩ | ⟨g, cap, cur, rfl, h2, h3, _⟩⟩ := h
  · cases hk
  · injection hk with hk
    subst hk
    exact ⟨h2, cur, h3⟩
theorem Beside.grown {B n : Nat} {w w' : World} {v : Value} {xs : List Value} (hg : w.grownBy w' v.ownBlock) (ho : w.ownsRow B 49 4 v n xs) : Beside B w w' := ⟨hg.os, hg.tape, hg.output, hg.size, fun k hk => by
  by_cases e : v.ownBlock = some k
  · obtain ⟨h1, h2⟩ := post_block ho e
    exact .inr ⟨h1, .inr h2⟩
  · exact .inl (hg.block k hk fun h => e h.symm)⟩
theorem Beside.cells {B : Nat} {w w' : World} (h : Beside B w w') {k T : Nat} {cs : Array Value} {fr : Nat × Nat} (hk : w.heap[k]? = some (.cells cs T fr)) (h1 : T ≠ 30) (h2 : T ≠ 49) : w'.heap[k]? = some (.cells cs T fr) := by
  rcases h.block k (lt_of_block hk) with h3 | ⟨-, ⟨c, h3⟩ | ⟨c, h3⟩⟩
  · rw [h3]; exact hk
  · rw [hk] at h3; injection h3 with h3; injection h3 with _ h3 _; exact absurd h3 h1
  · rw [hk] at h3; injection h3 with h3; injection h3 with _ h3 _; exact absurd h3 h2
theorem Beside.isMap {B : Nat} {w w' : World} (h : Beside B w w') {k c : Nat} {es : Array MapEntry} (hk : w.heap[k]? = some (.map es c)) : w'.heap[k]? = some (.map es c) := by
  rcases h.block k (lt_of_block hk) with h3 | ⟨-, ⟨c, h3⟩ | ⟨c, h3⟩⟩
  · rw [h3]; exact hk
  · rw [hk] at h3; cases h3
  · rw [hk] at h3; cases h3
theorem Beside.own {B base n size e : Nat} {w w' : World} {v : Value} {xs : List Value} (h : Beside B w w') (h1 : e ≠ 30) (h2 : e ≠ 49) (ho : w.ownsRow base e size v n xs) : w'.ownsRow base e size v n xs := by
  obtain ⟨hl, ⟨rfl, h0⟩ | ⟨g, cap, cur, rfl, h3, h4, h5⟩⟩ := ho
  · exact ⟨hl, .inl ⟨rfl, h0⟩⟩
  · exact ⟨hl, .inr ⟨g, cap, cur, rfl, h3, h.cells h4 h1 h2, h5⟩⟩
theorem Beside.mem {B : Nat} {w w' : World} {p b1 b2 n : Nat} {room : Int} {D D2 : DM} (h : Beside B w w') (hM : MemS w p b1 b2 room n D D2) : MemS w' p b1 b2 room n D D2 := by
  refine ⟨h.cells hM.box (by decide) (by decide), ?_, ?_, hM.ne⟩
  · obtain ⟨es, c, h1, h2⟩ := hM.now
    exact ⟨es, c, h.isMap h1, h2⟩
  · obtain ⟨es, c, h1, h2⟩ := hM.was
    exact ⟨es, c, h.isMap h1, h2⟩
theorem JR.below {B jp : Nat} {w w' : World} {rv : Value} {RL : List Po} (h : JR B w jp rv RL) (hb : Below w.heap.size w w') : JR B w' jp rv RL :=
  ⟨(hb.block _ (lt_of_block h.box)).trans h.box, ownsRow_below h.list hb, fun p hp => ownsRow_below (h.parts p hp) hb, h.lt, h.seqs⟩
theorem JR.turned {B jp b : Nat} {w w' : World} {rv : Value} {RL : List Po} (h : JR B w jp rv RL) (ht : Turned b w w') : JR B w' jp rv RL :=
  ⟨ht.block h.box, ht.owns h.list, fun p hp => ht.owns (h.parts p hp), h.lt, h.seqs⟩
/-- all amounts of an account in postings -/
def ram (RL : List Po) (s : ByteArray) : Int := (RL.map fun p => amt p.ps s).sum
theorem ram_snoc (RL : List Po) (p : Po) (s : ByteArray) : ram (RL ++ [p]) s = ram RL s + amt p.ps s := by simp [ram]
theorem amt_snoc (L : List Pt) (q : Pt) (s : ByteArray) : amt (L ++ [q]) s = amt L s + if q.a = s then q.n else 0 := by
  unfold amt
  rw [List.filter_append, List.map_append, List.sum_append]
  by_cases h : q.a = s
  · rw [if_pos h, List.filter_cons_of_pos (by rw [h]; simp)]
    simp
  · rw [if_neg h, List.filter_cons_of_neg (by simpa using fun e => h (ba_data e))]
    simp
theorem amt_take {L : List Pt} {k : Nat} {q : Pt} (h : L[k]? = some q) (s : ByteArray) : amt (L.take (k + 1)) s = amt (L.take k) s + if q.a = s then q.n else 0 := by rw [take_snoc h, amt_snoc]
theorem ram_take {L : List Po} {k : Nat} {p : Po} (h : L[k]? = some p) (s : ByteArray) : ram (L.take (k + 1)) s = ram (L.take k) s + amt p.ps s := by
  rw [List.take_add_one, h]
  exact ram_snoc _ _ _
theorem wrap64_add (a b : Int) : wrap64 (wrap64 a + b) = wrap64 (a + b) := by unfold wrap64; omega
end Go.Proofs.YtecbnhmnhcpcmaaGreatDoor
