/- The net's acts, by what the net says; no block is named but the net's own. -/
import Derived.Test.YtgkefciojoffgaaNeL
namespace Go.Proofs.Ytgkefciojoffgaa
open Go.RowKit
set_option linter.unusedVariables false
set_option linter.unusedSimpArgs false
abbrev Sy := Int × Int × List UInt8
def good (G : Int) (x : Sy) : Prop := i64 x.1 ∧ i64 x.2.1 ∧ gateB G x.1 x.2.1 = true ∧ x.2.2.length ≤ 4096
def NetS (B pn : Nat) (X : List Nat) (w : World) (G : Int) (R : List Sy) (c1 c2 c3 : Bool) : Prop :=
  ∃ v L, NetV w pn G v L false c1 c2 c3 ∧ LtsAt B w L ∧ L.map Lt.says = R ∧ B ≤ pn ∧ (1 ≤ G ∧ G ≤ 3) ∧ (∀ x ∈ R, good G x) ∧ R.length ≤ 4096 ∧ ∀ k ∈ X, k ≠ pn ∧ v.ownBlock ≠ some k ∧ k < w.heap.size ∧ ∀ l ∈ L, l.bs ≠ [] → l.bv.ownBlock ≠ some k
def Oth (B pn : Nat) (X : List Nat) (w w' : World) : Prop := Below pn w w' ∧ Stp B w w' ∧ w.heap.size ≤ w'.heap.size ∧ ∀ k ∈ X, w'.heap[k]? = w.heap[k]?
theorem NetS.lt {B pn : Nat} {X : List Nat} {w : World} {G : Int} {R : List Sy} {c1 c2 c3 : Bool} (h : NetS B pn X w G R c1 c2 c3) : pn < w.heap.size := by
  obtain ⟨v, L, h1, _⟩ := h
  exact lt_of_block h1.1
theorem bytes_lt {B : Nat} {w : World} {v : Value} {bs : List UInt8} (h : BytesAt B w v bs) (hne : bs ≠ []) : ∀ k, v.ownBlock = some k → k < w.heap.size := by
  intro k hk
  obtain ⟨a, c, rfl, _, hx⟩ := h
  obtain ⟨b, o, rfl, h1, _⟩ := hx 0 (by cases bs with | nil => exact absurd rfl hne | cons => simp)
  injection hk with hk
  subst hk
  exact World.block_lt_of_cell? _ _ h1
theorem NetS.more {B pn : Nat} {X : List Nat} {w w' : World} {G : Int} {R : List Sy} {c1 c2 c3 : Bool} (h : NetS B pn X w G R c1 c2 c3) (hb : Below w.heap.size w w') (Y : List Nat) (hY : ∀ k ∈ Y, w.heap.size ≤ k ∧ k < w'.heap.size) : NetS B pn (Y ++ X) w' G R c1 c2 c3 := by
  obtain ⟨v, L, h1, h2, h3, h4, h5, h6, h7, h8⟩ := h
  have hp := lt_of_block h1.1
  have ho := own_lt h1
  refine ⟨v, L, h1.below hb, h2.step (.of_below hb), h3, h4, h5, h6, h7, fun k hk => ?_⟩
  rcases List.mem_append.1 hk with hk | hk
  · have := hY k hk
    exact ⟨by omega, fun e => by have := ho k e; omega, by omega, fun l hl hne e => by have := bytes_lt (h2 l hl) hne k e; omega⟩
  · obtain ⟨a, b, c, d⟩ := h8 k hk
    exact ⟨a, b, Nat.lt_of_lt_of_le c hb.size, d⟩
theorem NetS.below {B pn : Nat} {X : List Nat} {w w' : World} {G : Int} {R : List Sy} {c1 c2 c3 : Bool} (h : NetS B pn X w G R c1 c2 c3) (hb : Below w.heap.size w w') : NetS B pn X w' G R c1 c2 c3 := h.more hb [] (fun k hk => by cases hk)
theorem NetS.drop {B pn : Nat} {X Y : List Nat} {w : World} {G : Int} {R : List Sy} {c1 c2 c3 : Bool} (h : NetS B pn X w G R c1 c2 c3) (hY : ∀ k ∈ Y, k ∈ X) : NetS B pn Y w G R c1 c2 c3 := by
  obtain ⟨v, L, h1, h2, h3, h4, h5, h6, h7, h8⟩ := h
  exact ⟨v, L, h1, h2, h3, h4, h5, h6, h7, fun k hk => h8 k (hY k hk)⟩
/-- others' blocks may turn -/
theorem NetS.kept {B pn : Nat} {X : List Nat} {w w' : World} {G : Int} {R : List Sy} {c1 c2 c3 : Bool} {S : Nat → Prop} (h : NetS B pn X w G R c1 c2 c3) (hk : Kept S w w') (hs : ∀ k, S k → k ∈ X ∧ B ≤ k ∧ ∃ cs T fr, w.heap[k]? = some (.cells cs T fr) ∧ T ≠ 5) : NetS B pn X w' G R c1 c2 c3 := by
  obtain ⟨v, L, h1, h2, h3, h4, h5, h6, h7, h8⟩ := h
  have hst : Stp B w w' := .of_kept hk fun k hS => (hs k hS).2
  refine ⟨v, L, ⟨?_, ?_⟩, h2.step hst, h3, h4, h5, h6, h7, fun k hX => ?_⟩
  · rw [hk.block pn (lt_of_block h1.1) fun hS => (h8 pn (hs pn hS).1).1 rfl]; exact h1.1
  · obtain ⟨hl, hh⟩ := h1.2
    refine ⟨hl, ?_⟩
    rcases hh with hh | ⟨g, cap, cur, e1, e2, e3, e4⟩
    · exact .inl hh
    · refine .inr ⟨g, cap, cur, e1, e2, ?_, e4⟩
      rw [hk.block g (lt_of_block e3) fun hS => (h8 g (hs g hS).1).2.1 (by rw [e1]; rfl)]; exact e3
  · obtain ⟨a, b, c, d⟩ := h8 k hX
    exact ⟨a, b, Nat.lt_of_lt_of_le c hk.size, d⟩
theorem Oth.of_below {B pn : Nat} {X : List Nat} {w w' : World} (hp : pn ≤ w.heap.size) (hX : ∀ k ∈ X, k < w.heap.size) (h : Below w.heap.size w w') : Oth B pn X w w' :=
  ⟨h.mono hp, .of_below h, h.size, fun k hk => h.block k (hX k hk)⟩
theorem NetS.lts {B pn : Nat} {X : List Nat} {w : World} {G : Int} {R : List Sy} {c1 c2 c3 : Bool} (h : NetS B pn X w G R c1 c2 c3) : ∀ k ∈ X, k < w.heap.size := by
  obtain ⟨v, L, h1, h2, h3, h4, h5, h6, h7, h8⟩ := h
  exact fun k hk => (h8 k hk).2.2.1
theorem NetS.oth {B pn : Nat} {X : List Nat} {w w' : World} {G : Int} {R : List Sy} {c1 c2 c3 : Bool} (h : NetS B pn X w G R c1 c2 c3) (hb : Below w.heap.size w w') : Oth B pn X w w' := .of_below (Nat.le_of_lt h.lt) h.lts hb
/-- a byte of another's is stored -/
theorem NetS.byte {B pn : Nat} {X : List Nat} {w : World} {G : Int} {R : List Sy} {c1 c2 c3 : Bool} (h : NetS B pn X w G R c1 c2 c3) {g : Nat} (hg : g ∈ X) (i : Nat) (u : Value) : NetS B pn X (w.setCell ⟨g, i, none⟩ u) G R c1 c2 c3 := by
  obtain ⟨v, L, h1, h2, h3, h4, h5, h6, h7, h8⟩ := h
  have hk : Kept (· = g) w (w.setCell ⟨g, i, none⟩ u) := Kept.setCell _ _ _ rfl
  obtain ⟨a, b, c, d⟩ := h8 g hg
  refine ⟨v, L, ⟨?_, ?_⟩, fun l hl => ?_, h3, h4, h5, h6, h7, fun k hX => ?_⟩
  · rw [hk.block pn (lt_of_block h1.1) (Ne.symm a)]; exact h1.1
  · exact ownsRow_setCell_other (a := ⟨g, i, none⟩) h1.2 b _
  · obtain ⟨a', c', e1, e2, hx⟩ := h2 l hl
    refine ⟨a', c', e1, e2, fun j hj => ?_⟩
    obtain ⟨b', o, e3, h9, h10⟩ := hx j hj
    have hne : b' ≠ g := fun e => d l hl (by intro e'; rw [e'] at hj; simp at hj) (by rw [e1, e3, ← e]; rfl)
    refine ⟨b', o, e3, hk.cell h9 hne, ?_⟩
    rw [hk.block b' (World.block_lt_of_cell? _ _ h9) hne]
    exact h10
  · obtain ⟨a, b, c, d⟩ := h8 k hX
    exact ⟨a, b, Nat.lt_of_lt_of_le c hk.size, d⟩
/-- behind an act -/
theorem NetS.next {B pn : Nat} {X : List Nat} {G : Int} {v : Value} {L L' : List Lt} {R' : List Sy} {d1 d2 d3 e1 e2 e3 : Bool} {w w' : World} (hN : NetV w pn G v L false e1 e2 e3) (hBp : B ≤ pn) (hG : 1 ≤ G ∧ G ≤ 3) (hX : ∀ k ∈ X, k ≠ pn ∧ v.ownBlock ≠ some k ∧ k < w.heap.size ∧ ∀ l ∈ L, l.bs ≠ [] → l.bv.ownBlock ≠ some k)
    (hLL : ∀ l ∈ L', l ∈ L ∨ New w.heap.size l.bv) (h : NetEnd B pn G v L' false d1 d2 d3 w w') (hR : L'.map Lt.says = R') (hg : ∀ x ∈ R', good G x) (hl : R'.length ≤ 4096) : NetS B pn X w' G R' d1 d2 d3 ∧ Oth B pn X w w' := by
  obtain ⟨v', h1, h2, h3, h4⟩ := h
  refine ⟨⟨v', L', h1, h2, hR, hBp, hG, hg, hl, fun k hk => ?_⟩, h3.below (Nat.le_of_lt (lt_of_block hN.1)) ?_, hN.stp hBp h3, h3.size, fun k hk => ?_⟩
  · obtain ⟨a, b, c, d⟩ := hX k hk
    refine ⟨a, fun e => ?_, Nat.lt_of_lt_of_le c h3.size, fun l hl hne => ?_⟩
    rotate_left
    · rcases hLL l hl with h | h
      · exact d l h hne
      · exact fun e => by have := h k e; omega
    rcases h4 with h4 | h4
    · exact b (h4 ▸ e)
    · have := h4 k e; omega
  · intro k hk
    rcases hk with rfl | hk
    · exact Nat.le_refl _
    · have := (own_typed hN.2 hk).1; omega
  · obtain ⟨a, b, c, -⟩ := hX k hk
    refine h3.block k c fun hm => ?_
    rcases hm with rfl | hm
    · exact a rfl
    · exact b hm
theorem good_gate {G : Int} {x : Sy} (hG : 1 ≤ G ∧ G ≤ 3) (h : good G x) : 1 ≤ gateI x.1 x.2.1 ∧ gateI x.1 x.2.1 ≤ 3 := by
  have := h.2.2.1
  unfold gateB at this
  simp at this
  omega
theorem says_get {L : List Lt} {R : List Sy} (h : L.map Lt.says = R) {k : Nat} (hk : k < R.length) : ∃ hl : k < L.length, R[k] = (L[k].f, L[k].t, L[k].bs) := by
  subst h
  exact ⟨by simpa using hk, by simp⟩
/-- what Send answers and leaves -/
def sendJ (G : Int) (R : List Sy) (x : Sy) : Int := sendI G x.1 x.2.1 x.2.2.length R.length
def sendR (G : Int) (R : List Sy) (x : Sy) : List Sy := if sendJ G R x = 0 then R ++ [x] else R
def inR (k : Int) (R : List Sy) : Prop := 0 ≤ k ∧ k < R.length
instance (k : Int) (R : List Sy) : Decidable (inR k R) := by unfold inR; exact inferInstance
def at? (R : List Sy) (k : Int) : Sy := R.getD k.toNat (0, 0, [])
def takeI (R : List Sy) (c1 c2 c3 : Bool) (k : Int) : Int := if inR k R then (if cutAt c1 c2 c3 (gateI (at? R k).1 (at? R k).2.1) = true then 50 else 0) else 1
def takeL (R : List Sy) (c1 c2 c3 : Bool) (k : Int) : Sy := if takeI R c1 c2 c3 k = 0 then at? R k else (0, 0, [])
def takeR (R : List Sy) (c1 c2 c3 : Bool) (k : Int) : List Sy := if takeI R c1 c2 c3 k = 0 then R.eraseIdx k.toNat else R
def dropI (R : List Sy) (k : Int) : Int := if inR k R then 0 else 1
def dropR (R : List Sy) (k : Int) : List Sy := if inR k R then R.eraseIdx k.toNat else R
def holdR (R : List Sy) (k : Int) : List Sy := if inR k R then R.eraseIdx k.toNat ++ [at? R k] else R
def doubleI (G : Int) (R : List Sy) (k : Int) : Int := if inR k R then sendJ G R (at? R k) else 1
def doubleR (G : Int) (R : List Sy) (k : Int) : List Sy := if inR k R then sendR G R (at? R k) else R
def cutI (G g : Int) : Int := if 1 ≤ g ∧ g ≤ G then 0 else 1
def cutC (G g : Int) (b c : Bool) (i : Int) : Bool := if 1 ≤ g ∧ g ≤ G ∧ g = i then b else c
/-- a letter's value -/
def LetV (B : Nat) (w : World) (v : Value) (x : Sy) : Prop := ∃ bv, v = .agg #[.int .i64 x.1, .int .i64 x.2.1, bv] ∧ BytesAt B w bv x.2.2
theorem LetV.step {B : Nat} {w w' : World} {v : Value} {x : Sy} (h : LetV B w v x) (hs : Stp B w w') : LetV B w' v x := by
  obtain ⟨bv, h1, h2⟩ := h
  exact ⟨bv, h1, h2.step hs⟩
theorem bytes_nil (B : Nat) (w : World) : BytesAt B w (.slice none 0 0) [] := ⟨none, 0, rfl, fun _ => rfl, fun i hi => by simp at hi⟩
theorem sendI_good {G f t : Int} {len n : Nat} (h : sendI G f t len n = 0) : gateB G f t = true ∧ len ≤ 4096 ∧ n < 4096 := by
  unfold sendI at h
  split at h
  · omega
  · rename_i hg
    split at h
    · omega
    · split at h
      · omega
      · exact ⟨by simpa using hg, by omega, by omega⟩
theorem send_s (B pn : Nat) (X : List Nat) (G : Int) (R : List Sy) (c1 c2 c3 : Bool) (f t : Int) (bv : Value) (bs : List UInt8) (w : World) (hS : NetS B pn X w G R c1 c2 c3) (hB : BytesAt B w bv bs) (hf : i64 f) (ht : i64 t) (hbl : bs.length ≤ 9223372036854775807) :
    Calls Try.prog 9 #[.pointer (some ⟨pn, 0, none⟩), .agg #[.int .i64 f, .int .i64 t, bv]] w fun e w' => e = .returned (.int .i64 (sendJ G R (f, t, bs))) ∧ NetS B pn X w' G (sendR G R (f, t, bs)) c1 c2 c3 ∧ Oth B pn X w w' := by
  have hS0 := hS
  obtain ⟨v, L, h1, h2, rfl, h4, h5, h6, h7, h8⟩ := hS
  have hlen : (L.map Lt.says).length = L.length := List.length_map _
  have e0 : sendJ G (L.map Lt.says) (f, t, bs) = sendI G f t bs.length L.length := by unfold sendJ; rw [hlen]
  by_cases hz : sendI G f t bs.length L.length = 0
  · refine (send_yes B pn G v L false c1 c2 c3 f t bv bs w h4 h1 h2 hB hf ht hz).mono ?_
    rintro e w' ⟨rfl, bv', hnw, hE⟩
    have hR : sendR G (L.map Lt.says) (f, t, bs) = L.map Lt.says ++ [(f, t, bs)] := by unfold sendR; rw [e0, if_pos hz]
    obtain ⟨g1, g2, g3⟩ := sendI_good hz
    have := NetS.next h1 h4 h5 h8 (fun l hl => by
      rcases List.mem_append.1 hl with h | h
      · exact .inl h
      · simp at h; subst h; exact .inr hnw) hE (R' := sendR G (L.map Lt.says) (f, t, bs)) (by rw [hR]; simp) (by
      rw [hR]
      intro x hx
      rcases List.mem_append.1 hx with hx | hx
      · exact h6 x hx
      · simp at hx; subst hx; exact ⟨hf, ht, g1, g2⟩) (by rw [hR]; simp; omega)
    exact ⟨by rw [e0, hz], this.1, this.2⟩
  · refine (send_no B pn G v L false c1 c2 c3 f t bv bs w h1 hB hf ht hz (by omega) hbl).mono ?_
    rintro e w' ⟨rfl, hE⟩
    have hR : sendR G (L.map Lt.says) (f, t, bs) = L.map Lt.says := by unfold sendR; rw [e0, if_neg hz]
    rw [e0, hR]
    exact ⟨rfl, hS0.below hE, hS0.oth hE⟩
theorem notIn {k : Int} {R : List Sy} (h : ¬ inR k R) : k < 0 ∨ (R.length : Int) ≤ k := by unfold inR at h; omega
theorem at_nat (R : List Sy) (k : Nat) (h : k < R.length) : at? R k = R[k] := by unfold at?; rw [Int.toNat_natCast, getD_at _ _ _ h]
theorem erase_map {α β : Type} (f : α → β) : ∀ (l : List α) (k : Nat), (l.map f).eraseIdx k = (l.eraseIdx k).map f
  | [], _ => by simp
  | a :: l, 0 => by simp
  | a :: l, k + 1 => by simp [erase_map f l k]
theorem drop_s (B pn : Nat) (X : List Nat) (G : Int) (R : List Sy) (c1 c2 c3 : Bool) (k : Int) (w : World) (hS : NetS B pn X w G R c1 c2 c3) :
    Calls Try.prog 12 #[.pointer (some ⟨pn, 0, none⟩), .int .i64 k] w fun e w' => e = .returned (.int .i64 (dropI R k)) ∧ NetS B pn X w' G (dropR R k) c1 c2 c3 ∧ Oth B pn X w w' := by
  have hS0 := hS
  obtain ⟨v, L, h1, h2, rfl, h4, h5, h6, h7, h8⟩ := hS
  have hlen : (L.map Lt.says).length = L.length := List.length_map _
  unfold dropI dropR
  by_cases hk : inR k (L.map Lt.says)
  · rw [if_pos hk, if_pos hk]
    obtain ⟨ka, kb⟩ := hk
    obtain ⟨k, rfl⟩ := Int.eq_ofNat_of_zero_le ka
    refine (drop_yes B pn G v L false c1 c2 c3 k w h4 h1 h2 (by omega) (by omega)).mono ?_
    rintro e w' ⟨rfl, hE⟩
    exact ⟨rfl, NetS.next h1 h4 h5 h8 (fun l hl => .inl (List.mem_of_mem_eraseIdx hl)) hE (by simp [erase_map]) (fun x hx => h6 x (List.mem_of_mem_eraseIdx hx)) (Nat.le_trans (List.length_eraseIdx_le _ _) h7)⟩
  · rw [if_neg hk, if_neg hk]
    have := notIn hk
    refine (drop_no pn G v L false c1 c2 c3 k w h1 (by omega)).mono ?_
    rintro e w' ⟨rfl, hE⟩
    exact ⟨rfl, hS0.below hE, hS0.oth hE⟩
theorem hold_s (B pn : Nat) (X : List Nat) (G : Int) (R : List Sy) (c1 c2 c3 : Bool) (k : Int) (w : World) (hS : NetS B pn X w G R c1 c2 c3) :
    Calls Try.prog 14 #[.pointer (some ⟨pn, 0, none⟩), .int .i64 k] w fun e w' => e = .returned (.int .i64 (dropI R k)) ∧ NetS B pn X w' G (holdR R k) c1 c2 c3 ∧ Oth B pn X w w' := by
  have hS0 := hS
  obtain ⟨v, L, h1, h2, rfl, h4, h5, h6, h7, h8⟩ := hS
  have hlen : (L.map Lt.says).length = L.length := List.length_map _
  unfold dropI holdR
  by_cases hk : inR k (L.map Lt.says)
  · rw [if_pos hk, if_pos hk]
    obtain ⟨ka, kb⟩ := hk
    obtain ⟨k, rfl⟩ := Int.eq_ofNat_of_zero_le ka
    refine (hold_yes B pn G v L false c1 c2 c3 k w h4 h1 h2 (by omega) (by omega)).mono ?_
    rintro e w' ⟨rfl, hE⟩
    exact ⟨rfl, NetS.next h1 h4 h5 h8 (fun l hl => by
      rcases List.mem_append.1 hl with h | h
      · exact .inl (List.mem_of_mem_eraseIdx h)
      · simp at h; subst h; exact .inl (List.getElem_mem _)) hE (by
      obtain ⟨hl, he⟩ := says_get (L := L) rfl (k := k) (by omega)
      rw [at_nat _ _ (by omega), he]; simp [erase_map]) (fun x hx => by
      rcases List.mem_append.1 hx with hx | hx
      · exact h6 x (List.mem_of_mem_eraseIdx hx)
      · simp at hx; subst hx; rw [at_nat _ _ (by omega)]; exact h6 _ (List.getElem_mem _)) (by
      have := List.length_eraseIdx_of_lt (l := L.map Lt.says) (i := k) (by omega)
      rw [Int.toNat_natCast, List.length_append, this]; simp at kb ⊢; omega)⟩
  · rw [if_neg hk, if_neg hk]
    have := notIn hk
    refine (hold_no pn G v L false c1 c2 c3 k w h1 (by omega)).mono ?_
    rintro e w' ⟨rfl, hE⟩
    exact ⟨rfl, hS0.below hE, hS0.oth hE⟩
theorem double_s (B pn : Nat) (X : List Nat) (G : Int) (R : List Sy) (c1 c2 c3 : Bool) (k : Int) (w : World) (hS : NetS B pn X w G R c1 c2 c3) :
    Calls Try.prog 11 #[.pointer (some ⟨pn, 0, none⟩), .int .i64 k] w fun e w' => e = .returned (.int .i64 (doubleI G R k)) ∧ NetS B pn X w' G (doubleR G R k) c1 c2 c3 ∧ Oth B pn X w w' := by
  have hS0 := hS
  obtain ⟨v, L, h1, h2, rfl, h4, h5, h6, h7, h8⟩ := hS
  have hlen : (L.map Lt.says).length = L.length := List.length_map _
  unfold doubleI doubleR
  by_cases hk : inR k (L.map Lt.says)
  · rw [if_pos hk, if_pos hk]
    obtain ⟨ka, kb⟩ := hk
    obtain ⟨k, rfl⟩ := Int.eq_ofNat_of_zero_le ka
    obtain ⟨hl, he⟩ := says_get (L := L) rfl (k := k) (by omega)
    rw [at_nat _ _ (by omega)]
    have hgood := h6 _ (List.getElem_mem (show k < (L.map Lt.says).length by omega))
    unfold sendR sendJ
    rw [he] at hgood ⊢
    obtain ⟨g1, g2, g3, g4⟩ := hgood
    rw [hlen]
    dsimp only at g1 g2 g3 g4 ⊢
    by_cases hz : sendI G L[k].f L[k].t L[k].bs.length L.length = 0
    · refine (double_yes B pn G v L false c1 c2 c3 k w h4 h1 h2 hl g1 g2 hz).mono ?_
      rintro e w' ⟨rfl, bv', hnw, hE⟩
      obtain ⟨x1, x2, x3⟩ := sendI_good hz
      rw [if_pos hz]
      exact ⟨by rw [hz], NetS.next h1 h4 h5 h8 (fun l hl => by
        rcases List.mem_append.1 hl with h | h
        · exact .inl h
        · simp at h; subst h; exact .inr hnw) hE (by simp) (fun x hx => by
        rcases List.mem_append.1 hx with hx | hx
        · exact h6 x hx
        · simp at hx; subst hx; exact ⟨g1, g2, g3, g4⟩) (by simp; omega)⟩
    · refine (double_no B pn G v L false c1 c2 c3 k w h1 h2 hl g1 g2 g4 hz (by omega)).mono ?_
      rintro e w' ⟨rfl, hE⟩
      rw [if_neg hz]
      exact ⟨rfl, hS0.below hE, hS0.oth hE⟩
  · rw [if_neg hk, if_neg hk]
    have := notIn hk
    refine (double_arg pn G v L false c1 c2 c3 k w h1 (by omega)).mono ?_
    rintro e w' ⟨rfl, rfl⟩
    exact ⟨rfl, hS0, hS0.oth (Below.refl _ _)⟩
theorem take_s (B pn : Nat) (X : List Nat) (G : Int) (R : List Sy) (c1 c2 c3 : Bool) (k : Int) (w : World) (hS : NetS B pn X w G R c1 c2 c3) :
    Calls Try.prog 15 #[.pointer (some ⟨pn, 0, none⟩), .int .i64 k] w fun e w' => ∃ x, e = .returned (.tuple #[x, .int .i64 (takeI R c1 c2 c3 k)]) ∧ LetV B w' x (takeL R c1 c2 c3 k) ∧ NetS B pn X w' G (takeR R c1 c2 c3 k) c1 c2 c3 ∧ Oth B pn X w w' := by
  have hS0 := hS
  obtain ⟨v, L, h1, h2, rfl, h4, h5, h6, h7, h8⟩ := hS
  have hlen : (L.map Lt.says).length = L.length := List.length_map _
  unfold takeL takeR
  by_cases hk : inR k (L.map Lt.says)
  · have hti : takeI (L.map Lt.says) c1 c2 c3 k = if cutAt c1 c2 c3 (gateI (at? (L.map Lt.says) k).1 (at? (L.map Lt.says) k).2.1) = true then 50 else 0 := by unfold takeI; rw [if_pos hk]
    obtain ⟨ka, kb⟩ := hk
    obtain ⟨k, rfl⟩ := Int.eq_ofNat_of_zero_le ka
    obtain ⟨hl, he⟩ := says_get (L := L) rfl (k := k) (by omega)
    rw [at_nat _ _ (by omega), he] at hti
    rw [at_nat _ _ (by omega)]
    have hgood := h6 _ (List.getElem_mem (show k < (L.map Lt.says).length by omega))
    rw [he] at hgood ⊢
    have hgg := good_gate h5 hgood
    obtain ⟨g1, g2, g3, g4⟩ := hgood
    dsimp only at g1 g2 g3 g4 hgg hti ⊢
    by_cases hc : cutAt c1 c2 c3 (gateI L[k].f L[k].t) = true
    · rw [if_pos hc] at hti
      rw [hti, if_neg (by decide), if_neg (by decide)]
      refine (take_cut pn G v L false c1 c2 c3 k w h1 hl g1 g2 hgg hc).mono ?_
      rintro e w' ⟨rfl, hE⟩
      exact ⟨_, rfl, ⟨_, rfl, bytes_nil _ _⟩, hS0.below hE, hS0.oth hE⟩
    · rw [if_neg hc] at hti
      rw [hti, if_pos rfl, if_pos rfl]
      refine (take_yes B pn G v L false c1 c2 c3 k w h4 h1 h2 hl g1 g2 hgg (by simpa using hc) (by omega)).mono ?_
      rintro e w' ⟨rfl, hE⟩
      have hst := (NetS.next h1 h4 h5 h8 (fun l hl => .inl (List.mem_of_mem_eraseIdx hl)) hE rfl (fun x hx => h6 x (by
        have : (L.eraseIdx k).map Lt.says = (L.map Lt.says).eraseIdx k := by simp [erase_map]
        rw [this] at hx
        exact List.mem_of_mem_eraseIdx hx)) (by
        have : (L.eraseIdx k).map Lt.says = (L.map Lt.says).eraseIdx k := by simp [erase_map]
        rw [this]
        exact Nat.le_trans (List.length_eraseIdx_le _ _) h7))
      exact ⟨_, rfl, ⟨_, rfl, (h2 L[k] (List.getElem_mem hl)).step hst.2.2.1⟩, by rw [show (L.map Lt.says).eraseIdx (k : Int).toNat = (L.eraseIdx k).map Lt.says by simp [erase_map]]; exact hst.1, hst.2⟩
  · have hti : takeI (L.map Lt.says) c1 c2 c3 k = 1 := by unfold takeI; rw [if_neg hk]
    rw [hti, if_neg (by decide), if_neg (by decide)]
    have := notIn hk
    refine (take_no pn G v L false c1 c2 c3 k w h1 (by omega)).mono ?_
    rintro e w' ⟨rfl, hE⟩
    exact ⟨_, rfl, ⟨_, rfl, bytes_nil _ _⟩, hS0.below hE, hS0.oth hE⟩
theorem cut_s (B pn : Nat) (X : List Nat) (G : Int) (R : List Sy) (c1 c2 c3 : Bool) (g : Int) (b : Bool) (w : World) (hS : NetS B pn X w G R c1 c2 c3) :
    Calls Try.prog 10 #[.pointer (some ⟨pn, 0, none⟩), .int .i64 g, .bool b] w fun e w' => e = .returned (.int .i64 (cutI G g)) ∧ NetS B pn X w' G R (cutC G g b c1 1) (cutC G g b c2 2) (cutC G g b c3 3) ∧ Oth B pn X w w' := by
  have hS0 := hS
  obtain ⟨v, L, h1, h2, rfl, h4, h5, h6, h7, h8⟩ := hS
  unfold cutI cutC
  by_cases hg : 1 ≤ g ∧ g ≤ G
  · rw [if_pos hg]
    refine (cut_yes B pn G v L false c1 c2 c3 g b w h4 h1 h2 hg.1 hg.2 h5.2).mono ?_
    rintro e w' ⟨rfl, hE⟩
    have e1 : ∀ (i : Int), (1 ≤ g ∧ g ≤ G ∧ g = i) = (g = i) := fun i => by simp; omega
    simp only [e1]
    exact ⟨(by first | trivial | rfl), NetS.next h1 h4 h5 h8 (fun l hl => .inl hl) hE rfl h6 h7⟩
  · rw [if_neg hg]
    have e1 : ∀ (i : Int), ¬ (1 ≤ g ∧ g ≤ G ∧ g = i) := fun i => by omega
    simp only [if_neg (e1 _)]
    refine (cut_no pn G v L false c1 c2 c3 g b w h1 (by omega)).mono ?_
    rintro e w' ⟨rfl, rfl⟩
    exact ⟨rfl, hS0, hS0.oth (Below.refl _ _)⟩
theorem letters_s (B pn : Nat) (X : List Nat) (G : Int) (R : List Sy) (c1 c2 c3 : Bool) (w : World) (hS : NetS B pn X w G R c1 c2 c3) :
    Calls Try.prog 17 #[.pointer (some ⟨pn, 0, none⟩)] w fun e w' => ∃ v', e = .returned v' ∧ RowAt B w.heap.size w' v' R ∧ Below w.heap.size w w' := by
  obtain ⟨v, L, h1, h2, rfl, h4, h5, h6, h7, h8⟩ := hS
  have hlen : (L.map Lt.says).length = L.length := List.length_map _
  exact letters_any B pn G v L false c1 c2 c3 w h4 h1 h2 (by omega) (fun l hl => (h6 _ (List.mem_map_of_mem hl)).2.2.2)
theorem new_s (B : Nat) (G : Int) (w : World) (h1 : 1 ≤ G) (h3 : G ≤ 3) (hB : B ≤ w.heap.size) (X : List Nat) (hX : ∀ k ∈ X, k < w.heap.size) : Calls Try.prog 8 #[.int .i64 G] w fun e w' => e = .returned (.tuple #[.pointer (some ⟨w.heap.size, 0, none⟩), .int .i64 0]) ∧ NetS B w.heap.size X w' G [] false false false ∧ Below w.heap.size w w' := by
  refine (new_yes G w h1 h3).mono ?_
  rintro e w' ⟨rfl, rfl⟩
  exact ⟨rfl, ⟨_, [], new_net w G, fun l hl => (by cases hl), rfl, hB, ⟨h1, h3⟩, fun x hx => (by cases hx), Nat.zero_le _, fun k hk => ⟨by have := hX k hk; omega, (fun e => by cases e), (by have := hX k hk; simp; omega), fun l hl => (by cases hl)⟩⟩, below_alloc _ _⟩
end Go.Proofs.Ytgkefciojoffgaa
