/- Laws of memory for the law NetOrder: a row of its own beside the net. -/
import Derived.Test.YtgkefciojoffgaaNfA
import Derived.Maps.AppendAt
namespace Go.Proofs.Ytgkefciojoffgaa
open Go.RowKit
set_option linter.unusedVariables false
set_option linter.unusedSimpArgs false
/-- the law's own row, beside the net -/
def Want (B pn : Nat) (w : World) (wv : Value) (W R : List Sy) : Prop :=
  ∃ L : List Lt, w.ownsRow B 30 3 wv L.length (L.flatMap Lt.cells) ∧ LtsAt B w L ∧ L.map Lt.says = W ∧ NetS B pn wv.ownBlock.toList w 3 R false false false
theorem Want.act {B pn : Nat} {w w' : World} {wv : Value} {W R R' : List Sy} (h : Want B pn w wv W R) (hS : NetS B pn wv.ownBlock.toList w' 3 R' false false false) (hO : Oth B pn wv.ownBlock.toList w w') : Want B pn w' wv W R' := by
  obtain ⟨L, h1, h2, h3, h4⟩ := h
  exact ⟨L, row_same h1 fun k hk => hO.2.2.2 k (Option.mem_toList.2 hk), h2.step hO.2.1, h3, hS⟩
theorem Want.below {B pn : Nat} {w w' : World} {wv : Value} {W R : List Sy} (h : Want B pn w wv W R) (hb : Below w.heap.size w w') : Want B pn w' wv W R := by
  obtain ⟨L, h1, h2, h3, h4⟩ := h
  exact ⟨L, ownsRow_below h1 hb, h2.step (.of_below hb), h3, h4.below hb⟩
theorem NetS.own_step {B pn : Nat} {w w' : World} {wv : Value} {R : List Sy} {base n : Nat} {xs : List Value} {g : Nat} (hB : B ≤ base) (hr : w.ownsRow base 30 3 wv n xs) (h : NetS B pn wv.ownBlock.toList w 3 R false false false) (hg : w.grownBy w' wv.ownBlock) (hat : wv.ownBlock = some g ∨ g = w.heap.size) (hlt : g < w'.heap.size) :
    NetS B pn [g] w' 3 R false false false := by
  have hk : Kept (fun k => wv.ownBlock = some k) w w' := Kept.of_grown hg fun k hk => hk
  have hS := h.kept hk fun k hk' => by
    obtain ⟨h1, cs, h2⟩ := own_typed hr hk'
    exact ⟨Option.mem_toList.2 hk', by omega, _, _, _, h2, by decide⟩
  rcases hat with hat | rfl
  · exact hS.drop fun k hk' => by simp at hk'; subst hk'; exact Option.mem_toList.2 hat
  · obtain ⟨v, L, h1, h2, h3, h4, h5, h6, h7, h8⟩ := h
    have hpl := lt_of_block h1.1
    have hov := own_lt h1
    have hst : Stp B w w' := .of_kept hk fun k hk' => by
      obtain ⟨q1, cs, q2⟩ := own_typed hr hk'
      exact ⟨by omega, _, _, _, q2, by decide⟩
    refine ⟨v, L, ⟨(hk.block pn hpl fun e => (h8 pn (Option.mem_toList.2 e)).1 rfl).trans h1.1, row_same h1.2 fun k hk' => hk.block k (hov k hk') fun e => (h8 k (Option.mem_toList.2 e)).2.1 hk'⟩, h2.step hst, h3, h4, h5, h6, h7, fun k hk' => ?_⟩
    simp at hk'
    subst hk'
    exact ⟨by omega, fun e => by have := hov _ e; omega, hlt, fun l hl hne e => by have := bytes_lt (h2 l hl) hne _ e; omega⟩
/-- a letter is laid behind the row -/
theorem Want.push {B pn : Nat} {w w3 : World} {wv : Value} {R : List Sy} {L : List Lt} {f t : Int} {bv : Value} {bs : List UInt8} {g cap : Nat} (hr : w.ownsRow B 30 3 wv L.length (L.flatMap Lt.cells)) (hL : LtsAt B w L) (hS : NetS B pn wv.ownBlock.toList w 3 R false false false) (hb : BytesAt B w bv bs)
    (hown : w3.ownsRow B 30 3 (.slice (some ⟨g, 0, none⟩) (L.length + 1) cap) (L.length + 1) (L.flatMap Lt.cells ++ [.int .i64 f, .int .i64 t, bv])) (hg : w.grownBy w3 wv.ownBlock) (hat : wv.ownBlock = some g ∨ g = w.heap.size) (hlt : g < w3.heap.size) :
    Want B pn w3 (.slice (some ⟨g, 0, none⟩) (L.length + 1) cap) (L.map Lt.says ++ [(f, t, bs)]) R := by
  have hst : Stp B w w3 := .of_kept (S := fun k => wv.ownBlock = some k) (Kept.of_grown hg fun k hk => hk) fun k hk => by
    obtain ⟨q1, cs, q2⟩ := own_typed hr hk
    exact ⟨q1, _, _, _, q2, by decide⟩
  refine ⟨L ++ [⟨f, t, bv, bs⟩], ?_, fun l hl => ?_, by simp, NetS.own_step (Nat.le_refl _) hr hS hg hat hlt⟩
  · rw [List.flatMap_append, List.length_append]; exact hown
  · rcases List.mem_append.1 hl with h | h
    · exact (hL l h).step hst
    · simp at h; subst h; exact hb.step hst
/-- a row made anew -/
theorem Want.anew {B pn : Nat} {w w' : World} {wv wv' : Value} {W W' R : List Sy} {L' : List Lt} (h : Want B pn w wv W R) (hb : Below w.heap.size w w') (hr : w'.ownsRow w.heap.size 30 3 wv' L'.length (L'.flatMap Lt.cells)) (hB : B ≤ w.heap.size) (hL : LtsAt B w' L') (hW : L'.map Lt.says = W') : Want B pn w' wv' W' R := by
  obtain ⟨L, h1, h2, h3, h4⟩ := h
  refine ⟨L', ownsRow_base hB hr, hL, hW, (h4.more hb wv'.ownBlock.toList fun k hk => ?_).drop fun k hk => List.mem_append.2 (.inl hk)⟩
  have := hr.lt k (Option.mem_toList.1 hk)
  exact this
theorem Want.start {B pn : Nat} {w : World} (h : NetS B pn [] w 3 [] false false false) : Want B pn w (.slice none 0 0) [] [] := ⟨[], World.ownsRow_nil _ _ _ _, (fun l hl => by cases hl), rfl, h⟩
theorem hold_is (R : List Sy) (k : Nat) (h : k < R.length) : holdR R k = R.eraseIdx k ++ [R[k]] := by
  unfold holdR
  rw [if_pos ⟨by omega, by omega⟩, at_nat _ _ h, Int.toNat_natCast]
theorem drop_zero (R : List Sy) (k : Nat) (h : k < R.length) : dropI R k = 0 := by
  unfold dropI
  rw [if_pos ⟨by omega, by omega⟩]
theorem take_first (R : List Sy) (x : Sy) : takeI (x :: R) false false false 0 = 0 ∧ takeL (x :: R) false false false 0 = x ∧ takeR (x :: R) false false false 0 = R := by
  have h : inR 0 (x :: R) := ⟨by omega, by rw [List.length_cons]; omega⟩
  have hc : ∀ g, cutAt false false false g = false := fun g => by unfold cutAt; split <;> (try split) <;> rfl
  have e : takeI (x :: R) false false false 0 = 0 := by unfold takeI; rw [if_pos h, if_neg (by rw [hc]; decide)]
  refine ⟨e, ?_, ?_⟩
  · unfold takeL; rw [if_pos e]; rfl
  · unfold takeR; rw [if_pos e]; rfl
/-- one letter of a row, as a slice -/
theorem sub_in {B base : Nat} {w : World} {g n cap c : Nat} {L : List Lt} (h : w.ownsRow base 30 3 (.slice (some ⟨g, 0, none⟩) n cap) L.length (L.flatMap Lt.cells)) (hL : LtsAt B w L) (i : Nat) (hi : i < L.length) (hc : 1 ≤ c) (hm : c ≤ maxLen) : LtsIn B w (.slice (some ⟨g, i * 3, none⟩) 1 c) [L[i].says] := by
  obtain ⟨g', cap', cur, e, hg, h3, h4, h5, h6, h7⟩ := own_open h (by omega)
  injection e with e1 e2 e3
  injection e1 with e1
  injection e1 with e1
  subst e1
  obtain ⟨a0, a1, a2⟩ := row_letter (n := 0) (cap := 0) h3 h7 i hi
  refine ⟨[L[i]], ⟨_, c, rfl, hc, hm, fun q hq => ⟨g, i * 3, rfl, lt_of_block h3, fun j hj => ?_⟩⟩, fun l hl => by simp at hl; subst hl; exact hL _ (List.getElem_mem hi), rfl⟩
  obtain rfl : q = 0 := by simpa using hq
  have hj3 : j = 0 ∨ j = 1 ∨ j = 2 := by omega
  rcases hj3 with rfl | rfl | rfl
  · exact a0
  · exact a1
  · exact a2
theorem Want.moved {B pn kk n : Nat} {w W5 : World} {wv wv' : Value} {Q : List Sy} {M2 : List Lt} {bv : Value} (hT : Want B pn w wv Q (holdR Q kk)) (hb : Below w.heap.size w W5) (hB : B ≤ w.heap.size) (hk : kk < M2.length) (hn : M2.length = n) (hQ : M2.map Lt.says = Q) (hL : LtsAt B w M2) (hf : M2[kk].bv = bv)
    (hr : W5.ownsRow (w.heap.size + 1) 30 3 wv' (n - 1 + 1) ((M2.eraseIdx kk).flatMap Lt.cells ++ [.int .i64 M2[kk].f, .int .i64 M2[kk].t, bv])) : Want B pn W5 wv' (holdR Q kk) (holdR Q kk) := by
  subst hn hQ hf
  have hl : (M2.eraseIdx kk ++ [M2[kk]]).length = M2.length - 1 + 1 := by rw [List.length_append, List.length_eraseIdx_of_lt hk]; rfl
  refine Want.anew (L' := M2.eraseIdx kk ++ [M2[kk]]) hT hb ?_ hB (fun l hl => ?_) ?_
  · rw [hl, List.flatMap_append]
    exact ownsRow_base (Nat.le_succ _) hr
  · rcases List.mem_append.1 hl with h | h
    · exact (hL l (List.mem_of_mem_eraseIdx h)).below hb
    · simp at h; subst h; exact (hL _ (List.getElem_mem hk)).below hb
  · rw [hold_is _ _ (by rw [List.length_map]; exact hk)]
    simp [erase_map]
theorem hold_len (Q : List Sy) (k : Nat) : (holdR Q k).length = Q.length := by
  unfold holdR
  by_cases h : inR k Q
  · rw [if_pos h, List.length_append, Int.toNat_natCast, List.length_eraseIdx_of_lt (by have := h.2; omega)]
    have := h.2
    simp
    omega
  · rw [if_neg h]
theorem below_src {B : Nat} {U W : World} (h : Below B U W) : Below B U.drew W := ⟨h.os, h.tape, h.output, h.size, h.block⟩
/-- append at an operation, and where the new slice lies -/
theorem wp_append_at {P : Program} {o : Oper} {a : Act} {K : Act → World → Prop} {Q : Exit → Act → World → Prop} (w : World) (s x : Operand) (t : TypeId)
    (ho : o.op = .call { callee := .builtin .append, args := #[s, x], argTypes := #[t, t] })
    (base : Nat) (e : TypeId) (i : TypeInfo) (z : Value) (size bytes : Nat) (ht : P.underlying t = some (.slice e)) (hi : P.info? e = some i) (hz : i.zero = some z)
    (hsize : i.size = size) (hby : i.bytes = bytes) (hzs : z.cells.size = size) (hsz : 0 < size)
    (v : Value) (n : Nat) (xs : List Value) (hs : a.eval s = v) (hown : w.ownsRow base e size v n xs)
    (ad : Addr) (m c : Nat) (news : List Value) (hx : a.eval x = .slice (some ad) m c) (hl : news.length = m * size) (hnews : ∀ j u, news[j]? = some u → w.cell? (ad.add j) = some u) (h1 : ∀ u ∈ news, u.oneCell' = true)
    (h63 : n + m ≤ maxLen) (hbytes : (n + m) * bytes ≤ 140737488355328) (hbase : base ≤ w.heap.size)
    (h : ∀ v' w', w'.ownsRow base e size v' (n + m) (xs ++ news) → w.grownBy w' v.ownBlock → (v'.ownBlock = v.ownBlock ∨ v'.ownBlock = some w.heap.size) → K (a.put o.dst v') w') : o.wp P a w K Q := by
  obtain ⟨v', w', hr, h2, h3, h4, h5⟩ := run_append_own_at (P := P) w base t o.type e i z size bytes ht hi hz hsize hby hzs hsz v n xs hown ad m c news hl hnews h1 h63 hbytes hbase
  unfold Oper.wp execOp
  simp only [ho, resolve, invoke, builtin, Sem.run_bind, Sem.run_pure, Result.andThen_ok, List.map_toArray, List.map_cons, List.map_nil, hs, hx, hr]
  exact h v' w' h2 h3 h5
theorem own_emptyL (w : World) : (w.alloc (.cells #[] 30)).ownsRow w.heap.size 30 3 (.slice (some ⟨w.heap.size, 0, none⟩) 0 0) 0 [] :=
  ⟨rfl, .inr ⟨w.heap.size, 0, #[], rfl, Nat.le_refl _, heap_alloc_new _ _, Nat.le_refl _, Nat.zero_le _, rfl, rfl⟩⟩
theorem moved_empty {L : List Lt} {k : Nat} (hk : k < L.length) (h : L.length = k + 1) : ((L.flatMap Lt.cells).take (k * 3)) ++ [] = (L.eraseIdx k).flatMap Lt.cells := by
  rw [List.append_nil]
  exact moved_cells' hk h
end Go.Proofs.Ytgkefciojoffgaa
