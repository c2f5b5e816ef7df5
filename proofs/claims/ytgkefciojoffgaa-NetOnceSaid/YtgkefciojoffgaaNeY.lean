/- The net and the reference's net, side by side. -/
import Derived.Test.YtgkefciojoffgaaNeX
namespace Go.Proofs.Ytgkefciojoffgaa
open Go.RowKit
set_option linter.unusedVariables false
set_option linter.unusedSimpArgs false
def RS (B rp gb : Nat) (w : World) (G : Int) (v : Value) (L : List Lt) (R : List Sy) (d1 d2 d3 : Bool) : Prop :=
  RefV w rp gb G v L d1 d2 d3 ∧ LtsAt B w L ∧ L.map Lt.says = R ∧ B ≤ rp ∧ B ≤ gb ∧ (1 ≤ G ∧ G ≤ 3) ∧ (∀ x ∈ R, good G x) ∧ R.length ≤ 4096
def foot (rp gb : Nat) (v : Value) : List Nat := rp :: gb :: v.ownBlock.toList
theorem mem_foot {rp gb k : Nat} {v : Value} : k ∈ foot rp gb v ↔ MineR rp gb v k := by
  unfold foot MineR
  simp [Option.mem_toList]
def Both (B pn rp gb : Nat) (X : List Nat) (w : World) (G : Int) (R Rr : List Sy) (c1 c2 c3 d1 d2 d3 : Bool) : Prop :=
  ∃ v L, RS B rp gb w G v L Rr d1 d2 d3 ∧ NetS B pn (X ++ foot rp gb v) w G R c1 c2 c3 ∧ ∀ k ∈ X, k ∉ foot rp gb v
def OthX (B : Nat) (X : List Nat) (w w' : World) : Prop := Below B w w' ∧ Stp B w w' ∧ w.heap.size ≤ w'.heap.size ∧ ∀ k ∈ X, w'.heap[k]? = w.heap[k]?
theorem row_same {w w' : World} {base : Nat} {e : TypeId} {size n : Nat} {v : Value} {xs : List Value} (h : w.ownsRow base e size v n xs) (hk : ∀ k, v.ownBlock = some k → w'.heap[k]? = w.heap[k]?) : w'.ownsRow base e size v n xs := by
  obtain ⟨hl, hh⟩ := h
  refine ⟨hl, ?_⟩
  rcases hh with hh | ⟨g, cap, cur, e1, e2, e3, e4⟩
  · exact .inl hh
  · exact .inr ⟨g, cap, cur, e1, e2, by rw [hk g (by rw [e1]; rfl)]; exact e3, e4⟩
theorem RS.same {B rp gb : Nat} {w w' : World} {G : Int} {v : Value} {L : List Lt} {R : List Sy} {d1 d2 d3 : Bool} (h : RS B rp gb w G v L R d1 d2 d3) (hs : Stp B w w') (hk : ∀ k ∈ foot rp gb v, w'.heap[k]? = w.heap[k]?) : RS B rp gb w' G v L R d1 d2 d3 := by
  obtain ⟨⟨h1, h2, h3⟩, h4, h5⟩ := h
  exact ⟨⟨by rw [hk rp (mem_foot.2 (.inl rfl))]; exact h1, by rw [hk gb (mem_foot.2 (.inr (.inl rfl)))]; exact h2, row_same h3 fun k hk' => hk k (mem_foot.2 (.inr (.inr hk')))⟩, h4.step hs, h5⟩
/-- an act of the net's -/
theorem Both.net {B pn rp gb : Nat} {X : List Nat} {w w' : World} {G : Int} {v : Value} {L : List Lt} {R' Rr : List Sy} {c1 c2 c3 d1 d2 d3 : Bool} (hB : B ≤ pn) (h : RS B rp gb w G v L Rr d1 d2 d3) (hX : ∀ k ∈ X, k ∉ foot rp gb v) (hS : NetS B pn (X ++ foot rp gb v) w' G R' c1 c2 c3) (hO : Oth B pn (X ++ foot rp gb v) w w') :
    Both B pn rp gb X w' G R' Rr c1 c2 c3 d1 d2 d3 ∧ OthX B X w w' :=
  ⟨⟨v, L, h.same hO.2.1 (fun k hk => hO.2.2.2 k (List.mem_append.2 (.inr hk))), hS, hX⟩, hO.1.mono hB, hO.2.1, hO.2.2.1, fun k hk => hO.2.2.2 k (List.mem_append.2 (.inl hk))⟩
theorem NetS.le {B pn : Nat} {X : List Nat} {w : World} {G : Int} {R : List Sy} {c1 c2 c3 : Bool} (h : NetS B pn X w G R c1 c2 c3) : B ≤ pn := by
  obtain ⟨v, L, h1, h2, h3, h4, _⟩ := h
  exact h4
/-- an act of the reference's -/
theorem Both.ref {B pn rp gb : Nat} {X : List Nat} {w w' : World} {G : Int} {v : Value} {L L' : List Lt} {R Rr Rr' : List Sy} {c1 c2 c3 d1 d2 d3 e1 e2 e3 : Bool} (h : RS B rp gb w G v L Rr d1 d2 d3) (hX : ∀ k ∈ X, k ∉ foot rp gb v) (hS : NetS B pn (X ++ foot rp gb v) w G R c1 c2 c3) (hE : RefEnd B rp gb G v L' e1 e2 e3 w w')
    (hR : L'.map Lt.says = Rr') (hg : ∀ x ∈ Rr', good G x) (hl : Rr'.length ≤ 4096) : Both B pn rp gb X w' G R Rr' c1 c2 c3 e1 e2 e3 ∧ OthX B X w w' := by
  obtain ⟨v', h1, h2, h3, h4⟩ := hE
  obtain ⟨r1, r2, r3, r4, r5, r6, r7, r8⟩ := h
  have hty : ∀ k, MineR rp gb v k → k ∈ X ++ foot rp gb v ∧ B ≤ k ∧ ∃ cs T fr, w.heap[k]? = some (.cells cs T fr) ∧ T ≠ 5 := fun k hk => by
    refine ⟨List.mem_append.2 (.inr (mem_foot.2 hk)), ?_⟩
    rcases hk with rfl | rfl | hk
    · exact ⟨r4, _, _, _, r1.1, by decide⟩
    · exact ⟨r5, _, _, _, r1.2.1, by decide⟩
    · obtain ⟨a, cs, b⟩ := own_typed r1.2.2 hk
      exact ⟨by omega, _, _, _, b, by decide⟩
  have hBn := hS.le
  have hpl := hS.lt
  have hst : Stp B w w' := r1.stp r4 r5 h3
  have hfr : ∀ k, v'.ownBlock = some k → v.ownBlock = some k ∨ w.heap.size ≤ k := fun k hk => by
    rcases h4 with h4 | h4
    · exact .inl (h4 ▸ hk)
    · exact .inr (h4 k hk)
  have hlts := hS.lts
  refine ⟨⟨v', L', ⟨h1, h2, hR, r4, r5, r6, hg, hl⟩, ?_, fun k hk hf => ?_⟩, h3.below (by omega) ?_, hst, h3.size, fun k hk => ?_⟩
  · obtain ⟨u, M, m1, m2, m3, m4, m5, m6, m7, m8⟩ := hS
    have hou := own_lt m1
    refine ⟨u, M, ⟨(h3.block pn hpl fun hm => (m8 pn (hty pn hm).1).1 rfl).trans m1.1, row_same m1.2 fun k hk => h3.block k (hou k hk) fun hm => (m8 k (hty k hm).1).2.1 hk⟩, m2.step hst, m3, m4, m5, m6, m7, fun k hk => ?_⟩
    have hold : ∀ k, k ∈ X ++ foot rp gb v → k ≠ pn ∧ u.ownBlock ≠ some k ∧ k < w'.heap.size ∧ ∀ l ∈ M, l.bs ≠ [] → l.bv.ownBlock ≠ some k := fun k hk => by
      obtain ⟨x1, x2, x3, x4⟩ := m8 k hk
      exact ⟨x1, x2, Nat.lt_of_lt_of_le x3 h3.size, x4⟩
    rcases List.mem_append.1 hk with hk | hk
    · exact hold k (List.mem_append.2 (.inl hk))
    · rcases mem_foot.1 hk with rfl | rfl | hk
      · exact hold k (List.mem_append.2 (.inr (mem_foot.2 (.inl rfl))))
      · exact hold k (List.mem_append.2 (.inr (mem_foot.2 (.inr (.inl rfl)))))
      · rcases hfr k hk with h | h
        · exact hold k (List.mem_append.2 (.inr (mem_foot.2 (.inr (.inr h)))))
        · exact ⟨by omega, fun e => by have := hou k e; omega, (h1.2.2.lt k hk).2, fun l hl hne e => by have := bytes_lt (m2 l hl) hne k e; omega⟩
  · rcases mem_foot.1 hf with rfl | rfl | hf
    · exact hX k hk (mem_foot.2 (.inl rfl))
    · exact hX k hk (mem_foot.2 (.inr (.inl rfl)))
    · rcases hfr k hf with h | h
      · exact hX k hk (mem_foot.2 (.inr (.inr h)))
      · have := hlts k (List.mem_append.2 (.inl hk)); omega
  · intro k hk; exact (hty k hk).2.1
  · exact h3.block k (hlts k (List.mem_append.2 (.inl hk))) fun hm => hX k hk (mem_foot.2 hm)
theorem Both.more {B pn rp gb : Nat} {X : List Nat} {w w' : World} {G : Int} {R Rr : List Sy} {c1 c2 c3 d1 d2 d3 : Bool} (h : Both B pn rp gb X w G R Rr c1 c2 c3 d1 d2 d3) (hb : Below w.heap.size w w') (Y : List Nat) (hY : ∀ k ∈ Y, w.heap.size ≤ k ∧ k < w'.heap.size) : Both B pn rp gb (Y ++ X) w' G R Rr c1 c2 c3 d1 d2 d3 := by
  obtain ⟨v, L, h1, h2, h3⟩ := h
  have hlts := h2.lts
  have hf : ∀ k ∈ foot rp gb v, k < w.heap.size := fun k hk => hlts k (List.mem_append.2 (.inr hk))
  refine ⟨v, L, h1.same (.of_below hb) (fun k hk => hb.block k (hf k hk)), ?_, fun k hk hm => ?_⟩
  · have := h2.more hb Y hY
    rw [List.append_assoc]
    exact this
  · rcases List.mem_append.1 hk with hk | hk
    · have := hY k hk; have := hf k hm; omega
    · exact h3 k hk hm
theorem Both.below {B pn rp gb : Nat} {X : List Nat} {w w' : World} {G : Int} {R Rr : List Sy} {c1 c2 c3 d1 d2 d3 : Bool} (h : Both B pn rp gb X w G R Rr c1 c2 c3 d1 d2 d3) (hb : Below w.heap.size w w') : Both B pn rp gb X w' G R Rr c1 c2 c3 d1 d2 d3 := h.more hb [] (fun k hk => by cases hk)
theorem Both.drop {B pn rp gb : Nat} {X Y : List Nat} {w : World} {G : Int} {R Rr : List Sy} {c1 c2 c3 d1 d2 d3 : Bool} (h : Both B pn rp gb X w G R Rr c1 c2 c3 d1 d2 d3) (hY : ∀ k ∈ Y, k ∈ X) : Both B pn rp gb Y w G R Rr c1 c2 c3 d1 d2 d3 := by
  obtain ⟨v, L, h1, h2, h3⟩ := h
  exact ⟨v, L, h1, h2.drop (fun k hk => by
    rcases List.mem_append.1 hk with hk | hk
    · exact List.mem_append.2 (.inl (hY k hk))
    · exact List.mem_append.2 (.inr hk)), fun k hk => h3 k (hY k hk)⟩
theorem OthX.of_below {B : Nat} {X : List Nat} {w w' : World} (hB : B ≤ w.heap.size) (hX : ∀ k ∈ X, k < w.heap.size) (h : Below w.heap.size w w') : OthX B X w w' := ⟨h.mono hB, .of_below h, h.size, fun k hk => h.block k (hX k hk)⟩
theorem Both.lts {B pn rp gb : Nat} {X : List Nat} {w : World} {G : Int} {R Rr : List Sy} {c1 c2 c3 d1 d2 d3 : Bool} (h : Both B pn rp gb X w G R Rr c1 c2 c3 d1 d2 d3) : B ≤ w.heap.size ∧ ∀ k ∈ X, k < w.heap.size := by
  obtain ⟨v, L, h1, h2, h3⟩ := h
  exact ⟨by have := h2.le; have := h2.lt; omega, fun k hk => h2.lts k (List.mem_append.2 (.inl hk))⟩
theorem Both.oth {B pn rp gb : Nat} {X : List Nat} {w w' : World} {G : Int} {R Rr : List Sy} {c1 c2 c3 d1 d2 d3 : Bool} (h : Both B pn rp gb X w G R Rr c1 c2 c3 d1 d2 d3) (hb : Below w.heap.size w w') : OthX B X w w' := .of_below h.lts.1 h.lts.2 hb
section
variable (B pn rp gb : Nat) (X : List Nat) (G : Int) (R Rr : List Sy) (c1 c2 c3 d1 d2 d3 : Bool) (w : World) (h : Both B pn rp gb X w G R Rr c1 c2 c3 d1 d2 d3)
include h
theorem bsend (f t : Int) (bv : Value) (bs : List UInt8) (hB : BytesAt B w bv bs) (hf : i64 f) (ht : i64 t) (hbl : bs.length ≤ 9223372036854775807) :
    Calls Try.prog 9 #[.pointer (some ⟨pn, 0, none⟩), .agg #[.int .i64 f, .int .i64 t, bv]] w fun e w' => e = .returned (.int .i64 (sendJ G R (f, t, bs))) ∧ Both B pn rp gb X w' G (sendR G R (f, t, bs)) Rr c1 c2 c3 d1 d2 d3 ∧ OthX B X w w' := by
  obtain ⟨v, L, h1, h2, h3⟩ := h
  refine (send_s B pn _ G R c1 c2 c3 f t bv bs w h2 hB hf ht hbl).mono ?_
  rintro e w' ⟨rfl, hS, hO⟩
  exact ⟨rfl, Both.net h2.le h1 h3 hS hO⟩
theorem btake (k : Int) : Calls Try.prog 15 #[.pointer (some ⟨pn, 0, none⟩), .int .i64 k] w fun e w' => ∃ x, e = .returned (.tuple #[x, .int .i64 (takeI R c1 c2 c3 k)]) ∧ LetV B w' x (takeL R c1 c2 c3 k) ∧ Both B pn rp gb X w' G (takeR R c1 c2 c3 k) Rr c1 c2 c3 d1 d2 d3 ∧ OthX B X w w' := by
  obtain ⟨v, L, h1, h2, h3⟩ := h
  refine (take_s B pn _ G R c1 c2 c3 k w h2).mono ?_
  rintro e w' ⟨x, rfl, hx, hS, hO⟩
  exact ⟨x, rfl, hx, Both.net h2.le h1 h3 hS hO⟩
theorem bdrop (k : Int) : Calls Try.prog 12 #[.pointer (some ⟨pn, 0, none⟩), .int .i64 k] w fun e w' => e = .returned (.int .i64 (dropI R k)) ∧ Both B pn rp gb X w' G (dropR R k) Rr c1 c2 c3 d1 d2 d3 ∧ OthX B X w w' := by
  obtain ⟨v, L, h1, h2, h3⟩ := h
  refine (drop_s B pn _ G R c1 c2 c3 k w h2).mono ?_
  rintro e w' ⟨rfl, hS, hO⟩
  exact ⟨rfl, Both.net h2.le h1 h3 hS hO⟩
theorem bhold (k : Int) : Calls Try.prog 14 #[.pointer (some ⟨pn, 0, none⟩), .int .i64 k] w fun e w' => e = .returned (.int .i64 (dropI R k)) ∧ Both B pn rp gb X w' G (holdR R k) Rr c1 c2 c3 d1 d2 d3 ∧ OthX B X w w' := by
  obtain ⟨v, L, h1, h2, h3⟩ := h
  refine (hold_s B pn _ G R c1 c2 c3 k w h2).mono ?_
  rintro e w' ⟨rfl, hS, hO⟩
  exact ⟨rfl, Both.net h2.le h1 h3 hS hO⟩
theorem bdouble (k : Int) : Calls Try.prog 11 #[.pointer (some ⟨pn, 0, none⟩), .int .i64 k] w fun e w' => e = .returned (.int .i64 (doubleI G R k)) ∧ Both B pn rp gb X w' G (doubleR G R k) Rr c1 c2 c3 d1 d2 d3 ∧ OthX B X w w' := by
  obtain ⟨v, L, h1, h2, h3⟩ := h
  refine (double_s B pn _ G R c1 c2 c3 k w h2).mono ?_
  rintro e w' ⟨rfl, hS, hO⟩
  exact ⟨rfl, Both.net h2.le h1 h3 hS hO⟩
theorem bcut (g : Int) (b : Bool) : Calls Try.prog 10 #[.pointer (some ⟨pn, 0, none⟩), .int .i64 g, .bool b] w fun e w' => e = .returned (.int .i64 (cutI G g)) ∧ Both B pn rp gb X w' G R Rr (cutC G g b c1 1) (cutC G g b c2 2) (cutC G g b c3 3) d1 d2 d3 ∧ OthX B X w w' := by
  obtain ⟨v, L, h1, h2, h3⟩ := h
  refine (cut_s B pn _ G R c1 c2 c3 g b w h2).mono ?_
  rintro e w' ⟨rfl, hS, hO⟩
  exact ⟨rfl, Both.net h2.le h1 h3 hS hO⟩
theorem bletters : Calls Try.prog 17 #[.pointer (some ⟨pn, 0, none⟩)] w fun e w' => ∃ v', e = .returned v' ∧ RowAt B w.heap.size w' v' R ∧ Below w.heap.size w w' := by
  obtain ⟨v, L, h1, h2, h3⟩ := h
  exact letters_s B pn _ G R c1 c2 c3 w h2
theorem brsend (f t : Int) (bv : Value) (bs : List UInt8) (hB : BytesAt B w bv bs) (hf : i64 f) (ht : i64 t) (hbl : bs.length ≤ 9223372036854775807) :
    Calls Try.prog 20 #[.pointer (some ⟨rp, 0, none⟩), .agg #[.int .i64 f, .int .i64 t, bv]] w fun e w' => e = .returned (.int .i64 (sendJ G Rr (f, t, bs))) ∧ Both B pn rp gb X w' G R (sendR G Rr (f, t, bs)) c1 c2 c3 d1 d2 d3 ∧ OthX B X w w' := by
  have h0 := h
  obtain ⟨v, L, h1, h2, h3⟩ := h
  have h1' := h1
  obtain ⟨r1, r2, rfl, r4, r5, r6, r7, r8⟩ := h1
  have hlen : (L.map Lt.says).length = L.length := List.length_map _
  have e0 : sendJ G (L.map Lt.says) (f, t, bs) = sendI G f t bs.length L.length := by unfold sendJ; rw [hlen]
  by_cases hz : sendI G f t bs.length L.length = 0
  · refine (rsend_yes B rp gb G v L d1 d2 d3 f t bv bs w r4 r5 r1 r2 hB hf ht r6 hz).mono ?_
    rintro e w' ⟨rfl, hE⟩
    have hR : sendR G (L.map Lt.says) (f, t, bs) = L.map Lt.says ++ [(f, t, bs)] := by unfold sendR; rw [e0, if_pos hz]
    obtain ⟨g1, g2, g3⟩ := sendI_good hz
    rw [e0, hz, hR]
    exact ⟨rfl, Both.ref h1' h3 h2 hE (by simp) (fun x hx => by
      rcases List.mem_append.1 hx with hx | hx
      · exact r7 x hx
      · simp at hx; subst hx; exact ⟨hf, ht, g1, g2⟩) (by simp; omega)⟩
  · refine (rsend_no B rp gb G v L d1 d2 d3 f t bv bs w r1 hB hf ht r6 hz (by omega) hbl).mono ?_
    rintro e w' ⟨rfl, hE⟩
    have hR : sendR G (L.map Lt.says) (f, t, bs) = L.map Lt.says := by unfold sendR; rw [e0, if_neg hz]
    rw [e0, hR]
    exact ⟨rfl, h0.below hE, h0.oth hE⟩
theorem brcut (g : Int) (b : Bool) : Calls Try.prog 22 #[.pointer (some ⟨rp, 0, none⟩), .int .i64 g, .bool b] w fun e w' => e = .returned (.int .i64 (cutI G g)) ∧ Both B pn rp gb X w' G R Rr c1 c2 c3 (cutC G g b d1 1) (cutC G g b d2 2) (cutC G g b d3 3) ∧ OthX B X w w' := by
  have h0 := h
  obtain ⟨v, L, h1, h2, h3⟩ := h
  have h1' := h1
  obtain ⟨r1, r2, rfl, r4, r5, r6, r7, r8⟩ := h1
  unfold cutI cutC
  by_cases hg : 1 ≤ g ∧ g ≤ G
  · rw [if_pos hg]
    refine (rcut_yes B rp gb G v L d1 d2 d3 g b w r4 r5 r1 r2 hg.1 hg.2 r6.2).mono ?_
    rintro e w' ⟨rfl, hE⟩
    have e1 : ∀ (i : Int), (1 ≤ g ∧ g ≤ G ∧ g = i) = (g = i) := fun i => by simp; omega
    simp only [e1]
    exact ⟨(by first | trivial | rfl), Both.ref h1' h3 h2 hE rfl r7 r8⟩
  · rw [if_neg hg]
    have e1 : ∀ (i : Int), ¬ (1 ≤ g ∧ g ≤ G ∧ g = i) := fun i => by omega
    simp only [if_neg (e1 _)]
    refine (rcut_no rp gb G v L d1 d2 d3 g b w r1 (by omega)).mono ?_
    rintro e w' ⟨rfl, rfl⟩
    exact ⟨rfl, h0, h0.oth (Below.refl _ _)⟩
theorem bract_no (d k : Int) (hk : ¬ inR k Rr) : Calls Try.prog 21 #[.pointer (some ⟨rp, 0, none⟩), .int .u8 d, .int .i64 k] w fun e w' => ∃ x, e = .returned (.tuple #[x, .int .i64 1]) ∧ LetV B w' x (0, 0, []) ∧ Both B pn rp gb X w' G R Rr c1 c2 c3 d1 d2 d3 ∧ OthX B X w w' := by
  have h0 := h
  obtain ⟨v, L, h1, h2, h3⟩ := h
  obtain ⟨r1, r2, rfl, r4, r5, r6, r7, r8⟩ := h1
  have hlen : (L.map Lt.says).length = L.length := List.length_map _
  have := notIn hk
  refine (ract_arg rp gb G v L d1 d2 d3 d k w r1 (by omega)).mono ?_
  rintro e w' ⟨rfl, hE⟩
  exact ⟨_, rfl, ⟨_, rfl, bytes_nil _ _⟩, h0.below hE, h0.oth hE⟩
theorem bract1 (k : Int) : Calls Try.prog 21 #[.pointer (some ⟨rp, 0, none⟩), .int .u8 1, .int .i64 k] w fun e w' => ∃ x, e = .returned (.tuple #[x, .int .i64 (takeI Rr d1 d2 d3 k)]) ∧ LetV B w' x (takeL Rr d1 d2 d3 k) ∧ Both B pn rp gb X w' G R (takeR Rr d1 d2 d3 k) c1 c2 c3 d1 d2 d3 ∧ OthX B X w w' := by
  have h0 := h
  unfold takeL takeR
  by_cases hk : inR k Rr
  · obtain ⟨v, L, h1, h2, h3⟩ := h
    have h1' := h1
    obtain ⟨r1, r2, rfl, r4, r5, r6, r7, r8⟩ := h1
    have hlen : (L.map Lt.says).length = L.length := List.length_map _
    have hti : takeI (L.map Lt.says) d1 d2 d3 k = if cutAt d1 d2 d3 (gateI (at? (L.map Lt.says) k).1 (at? (L.map Lt.says) k).2.1) = true then 50 else 0 := by unfold takeI; rw [if_pos hk]
    obtain ⟨ka, kb⟩ := hk
    obtain ⟨k, rfl⟩ := Int.eq_ofNat_of_zero_le ka
    obtain ⟨hl, he⟩ := says_get (L := L) rfl (k := k) (by omega)
    rw [at_nat _ _ (by omega), he] at hti
    rw [at_nat _ _ (by omega)]
    have hgood := r7 _ (List.getElem_mem (show k < (L.map Lt.says).length by omega))
    rw [he] at hgood ⊢
    have hgg := good_gate r6 hgood
    obtain ⟨g1, g2, g3, g4⟩ := hgood
    dsimp only at g1 g2 g3 g4 hgg hti ⊢
    have hrg := (rgate_gate (f := L[k].f) (t := L[k].t) r6 g1 g2).2 g3
    rw [← hrg] at hgg hti
    by_cases hc : cutAt d1 d2 d3 (rgate G L[k].f L[k].t) = true
    · rw [if_pos hc] at hti
      rw [hti, if_neg (by decide), if_neg (by decide)]
      refine (ract_cut B rp gb G v L d1 d2 d3 k w r4 r5 r1 r2 hl (by omega) hgg hc).mono ?_
      rintro e w' ⟨rfl, hE⟩
      exact ⟨_, rfl, ⟨_, rfl, bytes_nil _ _⟩, h0.below hE, h0.oth hE⟩
    · rw [if_neg hc] at hti
      rw [hti, if_pos rfl, if_pos rfl]
      refine (ract_take B rp gb G v L d1 d2 d3 k w r4 r5 r1 r2 hl (by omega) hgg (by simpa using hc)).mono ?_
      rintro e w' ⟨rfl, hE⟩
      have hst := Both.ref (R := R) (c1 := c1) (c2 := c2) (c3 := c3) h1' h3 h2 hE (Rr' := (L.map Lt.says).eraseIdx (k : Int).toNat) (by simp [erase_map]) (fun x hx => r7 x (List.mem_of_mem_eraseIdx hx)) (Nat.le_trans (List.length_eraseIdx_le _ _) r8)
      exact ⟨_, rfl, ⟨_, rfl, (r2 L[k] (List.getElem_mem hl)).step hst.2.2.1⟩, hst⟩
  · have hti : takeI Rr d1 d2 d3 k = 1 := by unfold takeI; rw [if_neg hk]
    rw [hti, if_neg (by decide), if_neg (by decide)]
    exact bract_no B pn rp gb X G R Rr c1 c2 c3 d1 d2 d3 w h 1 k hk
theorem bract2 (k : Int) : Calls Try.prog 21 #[.pointer (some ⟨rp, 0, none⟩), .int .u8 2, .int .i64 k] w fun e w' => ∃ x, e = .returned (.tuple #[x, .int .i64 (dropI Rr k)]) ∧ LetV B w' x (0, 0, []) ∧ Both B pn rp gb X w' G R (dropR Rr k) c1 c2 c3 d1 d2 d3 ∧ OthX B X w w' := by
  have h0 := h
  unfold dropI dropR
  by_cases hk : inR k Rr
  · rw [if_pos hk, if_pos hk]
    obtain ⟨v, L, h1, h2, h3⟩ := h
    have h1' := h1
    obtain ⟨r1, r2, rfl, r4, r5, r6, r7, r8⟩ := h1
    have hlen : (L.map Lt.says).length = L.length := List.length_map _
    obtain ⟨ka, kb⟩ := hk
    obtain ⟨k, rfl⟩ := Int.eq_ofNat_of_zero_le ka
    refine (ract_drop B rp gb G v L d1 d2 d3 k w r4 r5 r1 r2 (by omega) (by omega)).mono ?_
    rintro e w' ⟨rfl, hE⟩
    exact ⟨_, rfl, ⟨_, rfl, bytes_nil _ _⟩, Both.ref h1' h3 h2 hE (by simp [erase_map]) (fun x hx => r7 x (List.mem_of_mem_eraseIdx hx)) (Nat.le_trans (List.length_eraseIdx_le _ _) r8)⟩
  · rw [if_neg hk, if_neg hk]
    exact bract_no B pn rp gb X G R Rr c1 c2 c3 d1 d2 d3 w h 2 k hk
theorem bract4 (k : Int) : Calls Try.prog 21 #[.pointer (some ⟨rp, 0, none⟩), .int .u8 4, .int .i64 k] w fun e w' => ∃ x, e = .returned (.tuple #[x, .int .i64 (dropI Rr k)]) ∧ LetV B w' x (0, 0, []) ∧ Both B pn rp gb X w' G R (holdR Rr k) c1 c2 c3 d1 d2 d3 ∧ OthX B X w w' := by
  have h0 := h
  unfold dropI holdR
  by_cases hk : inR k Rr
  · rw [if_pos hk, if_pos hk]
    obtain ⟨v, L, h1, h2, h3⟩ := h
    have h1' := h1
    obtain ⟨r1, r2, rfl, r4, r5, r6, r7, r8⟩ := h1
    have hlen : (L.map Lt.says).length = L.length := List.length_map _
    obtain ⟨ka, kb⟩ := hk
    obtain ⟨k, rfl⟩ := Int.eq_ofNat_of_zero_le ka
    obtain ⟨hl, he⟩ := says_get (L := L) rfl (k := k) (by omega)
    refine (ract_hold B rp gb G v L d1 d2 d3 k w r4 r5 r1 r2 hl (by omega)).mono ?_
    rintro e w' ⟨rfl, hE⟩
    rw [at_nat _ _ (by omega)]
    exact ⟨_, rfl, ⟨_, rfl, bytes_nil _ _⟩, Both.ref h1' h3 h2 hE (by rw [he]; simp [erase_map]) (fun x hx => by
      rcases List.mem_append.1 hx with hx | hx
      · exact r7 x (List.mem_of_mem_eraseIdx hx)
      · simp only [List.mem_singleton] at hx; subst hx; exact r7 _ (List.getElem_mem _)) (by
      have := List.length_eraseIdx_of_lt (l := L.map Lt.says) (i := k) (by omega)
      rw [Int.toNat_natCast, List.length_append, this]; simp at kb ⊢; omega)⟩
  · rw [if_neg hk, if_neg hk]
    exact bract_no B pn rp gb X G R Rr c1 c2 c3 d1 d2 d3 w h 4 k hk
theorem bract3 (k : Int) : Calls Try.prog 21 #[.pointer (some ⟨rp, 0, none⟩), .int .u8 3, .int .i64 k] w fun e w' => ∃ x, e = .returned (.tuple #[x, .int .i64 (doubleI G Rr k)]) ∧ LetV B w' x (0, 0, []) ∧ Both B pn rp gb X w' G R (doubleR G Rr k) c1 c2 c3 d1 d2 d3 ∧ OthX B X w w' := by
  have h0 := h
  unfold doubleI doubleR
  by_cases hk : inR k Rr
  · rw [if_pos hk, if_pos hk]
    obtain ⟨v, L, h1, h2, h3⟩ := h
    have h1' := h1
    obtain ⟨r1, r2, rfl, r4, r5, r6, r7, r8⟩ := h1
    have hlen : (L.map Lt.says).length = L.length := List.length_map _
    obtain ⟨ka, kb⟩ := hk
    obtain ⟨k, rfl⟩ := Int.eq_ofNat_of_zero_le ka
    obtain ⟨hl, he⟩ := says_get (L := L) rfl (k := k) (by omega)
    rw [at_nat _ _ (by omega)]
    have hgood := r7 _ (List.getElem_mem (show k < (L.map Lt.says).length by omega))
    unfold sendR sendJ
    rw [he] at hgood ⊢
    have hgood' := hgood
    obtain ⟨g1, g2, g3, g4⟩ := hgood
    rw [hlen]
    dsimp only at g1 g2 g3 g4 ⊢
    by_cases hz : sendI G L[k].f L[k].t L[k].bs.length L.length = 0
    · refine (ract_double_yes B rp gb G v L d1 d2 d3 k w r4 r5 r1 r2 hl (by omega) g1 g2 r6 g4 hz).mono ?_
      rintro e w' ⟨rfl, hE⟩
      obtain ⟨x1, x2, x3⟩ := sendI_good hz
      rw [hz, if_pos rfl]
      exact ⟨_, rfl, ⟨_, rfl, bytes_nil _ _⟩, Both.ref h1' h3 h2 hE (by simp) (fun x hx => by
        rcases List.mem_append.1 hx with hx | hx
        · exact r7 x hx
        · simp only [List.mem_singleton] at hx; subst hx; exact hgood') (by simp; omega)⟩
    · refine (ract_double_no B rp gb G v L d1 d2 d3 k w r4 r5 r1 r2 hl (by omega) g1 g2 r6 g4 hz).mono ?_
      rintro e w' ⟨rfl, hE⟩
      rw [if_neg hz]
      exact ⟨_, rfl, ⟨_, rfl, bytes_nil _ _⟩, Both.ref h1' h3 h2 hE rfl r7 r8⟩
  · rw [if_neg hk, if_neg hk]
    exact bract_no B pn rp gb X G R Rr c1 c2 c3 d1 d2 d3 w h 3 k hk
end
end Go.Proofs.Ytgkefciojoffgaa
