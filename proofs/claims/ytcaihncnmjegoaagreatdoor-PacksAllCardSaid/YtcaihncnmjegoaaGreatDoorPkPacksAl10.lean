/- Plain facts: all balances together, and what is kept at keys of balances. Plain facts: the keys of balances in the order of a scan; all that is kept there comes to all balances. Plain facts: the reference's numbers of 128 bits, digit by digit. The walks of the reference's numbers of 128 bits: Of. The walk of the reference's numbers of 128 bits: Add. The walks of a reader of bytes (wire): New, sum, and what is taken. The walks of a reader's from, for numbers and for texts. The walks of a reader's Uint, Int, Text, Count. The walks of a reader's Uint, Int, Text, Count, and of small. -/
import Derived.Test.YtcaihncnmjegoaaGreatDoorPkPacksAl9
import Derived.Test.YtcaihncnmjegoaaGreatDoorPkPacksAl8
import Derived.Laws.ResultCell
import Derived.ChangeKeysEq
/-! Plain facts: all balances together, and what is kept at keys of balances. -/
namespace Go.Proofs.YtcaihncnmjegoaaGreatDoor
open Go.RowKit Go.WideMaps Go.Maps
set_option linter.unusedVariables false
set_option linter.unusedSimpArgs false
set_option maxRecDepth 100000
/-- what holds of each posting that was made -/
structure Good (a : Ac) : Prop where
  posts : postsB 1 a.t a.ps = true
  may : mayJ a.ps = true
  all : evenB allP a.ps = true
  unit : evenB unitP a.ps = true
end Go.Proofs.YtcaihncnmjegoaaGreatDoor

/-! Plain facts: the keys of balances in the order of a scan; all that is kept there comes to all balances. -/
namespace Go.Proofs.YtcaihncnmjegoaaGreatDoor
open Go.RowKit Go.WideMaps Go.Maps
set_option linter.unusedVariables false
set_option linter.unusedSimpArgs false
set_option maxRecDepth 100000
/-- a map keyed by strings, no key twice -/
def StrD (D : DM) : Prop := ∃ es, D = .map es ∧ es.Pairwise (fun p q => p.1 ≠ q.1) ∧ ∀ p ∈ es, ∃ x, p.1 = .string x
theorem OwnM.strD {w : World} {b n : Nat} {D : DM} (h : OwnM w b n D) : StrD D := by
  obtain ⟨es, rfl, hpw, -⟩ := h.entries keyStr
  obtain ⟨es', e, hko⟩ := World.ownsMap.keysOf h
  injection e with e
  subst e
  exact ⟨es, rfl, hpw, fun p hp => by obtain ⟨v, hv⟩ := hko p hp; obtain ⟨x, _, hx, _⟩ := Maps.keyOf_str Tryz.underlying9 hv; exact ⟨x, hx⟩⟩
theorem keys_nodup {D : DM} (h : StrD D) : (strKeys D).Nodup := by
  obtain ⟨es, rfl, hp, hk⟩ := h
  show (es.map fun p => Go.strOf p.1).Nodup
  refine List.pairwise_map.2 (hp.imp_of_mem fun {p q} hp' hq' hne e => hne ?_)
  obtain ⟨a, ha⟩ := hk p hp'
  obtain ⟨b, hb⟩ := hk q hq'
  rw [ha, hb] at e ⊢
  exact congrArg _ e
theorem mem_keys {D : DM} (h : StrD D) (x : Bs) : x ∈ strKeys D ↔ has D (.string x) = true := by
  obtain ⟨es, rfl, hp, hk⟩ := h
  rw [has_eq, List.any_eq_true]
  show x ∈ (es.map fun p => Go.strOf p.1) ↔ _
  rw [List.mem_map]
  constructor
  · rintro ⟨p, hp', rfl⟩
    obtain ⟨a, ha⟩ := hk p hp'
    exact ⟨p, hp', by rw [ha]; simp [Lit.sameKey, Go.strOf]⟩
  · rintro ⟨p, hp', hs⟩
    obtain ⟨a, ha⟩ := hk p hp'
    rw [ha] at hs
    exact ⟨p, hp', by rw [ha]; simpa [Lit.sameKey, Go.strOf] using hs⟩
theorem has_gt {D : DM} {k : Bs} : has D (.string k) = true ↔ gt D k ≠ none := by
  unfold gt
  by_cases h : has D (.string k) = true
  · rw [if_pos h]; simp [h]
  · rw [if_neg h]; simp [h]
theorem while_filter {α : Type} {P : α → Bool} : ∀ {L : List α}, L.Pairwise (fun a b => P b = true → P a = true) → L.takeWhile P = L.filter P
  | [], _ => rfl
  | x :: r, h => by
    rw [List.pairwise_cons] at h
    by_cases hx : P x = true
    · rw [List.takeWhile_cons_of_pos hx, List.filter_cons_of_pos hx, while_filter h.2]
    · rw [List.takeWhile_cons_of_neg hx, List.filter_cons_of_neg hx, List.filter_eq_nil_iff.2 (fun y hy hP => hx (h.1 y hy hP))]
theorem jless_eq : ∀ (x y : Bs), Op.bytesLess x y = decide (x < y)
  | [], [] => by simp [Op.bytesLess]
  | _ :: _, [] => by simp [Op.bytesLess]
  | [], _ :: _ => by simp [Op.bytesLess]
  | a :: x, b :: y => by
    rw [Op.bytesLess, jless_eq x y]
    simp only [List.cons_lt_cons_iff]
    by_cases h1 : a < b <;> by_cases h2 : a = b <;> by_cases h3 : x < y <;> simp [h1, h2, h3]
theorem keysR_sorted (D : DM) (f t : Bs) : (keysR D f t).Pairwise (fun a b => a ≤ b) := by
  have tr : ∀ a b c : Bs, leB a b = true → leB b c = true → leB a c = true := fun a b c h1 h2 => by simp only [leB, decide_eq_true_eq] at *; exact List.le_trans h1 h2
  have tot : ∀ a b : Bs, (leB a b || leB b a) = true := fun a b => by simp only [leB, Bool.or_eq_true, decide_eq_true_eq]; exact List.le_total a b
  have h := List.pairwise_mergeSort tr tot ((strKeys D).filter (inR f t))
  exact h.imp fun {a b} hab => by simpa [leB] using hab
theorem pairsR_le {D : DM} (hM : IsMap D) (f t : Bs) : (pairsR D f t).length ≤ size D := by
  obtain ⟨es, rfl⟩ := hM
  unfold pairsR keysR
  rw [List.length_map, List.length_mergeSort]
  refine Nat.le_trans (List.length_filter_le _ _) ?_
  show (es.map _).length ≤ es.length
  rw [List.length_map]
  exact Nat.le_refl _
end Go.Proofs.YtcaihncnmjegoaaGreatDoor

/-! Plain facts: the reference's numbers of 128 bits, digit by digit. -/
namespace Go.Proofs.YtcaihncnmjegoaaGreatDoor
open Go.RowKit Go.WideMaps Go.Maps
set_option linter.unusedVariables false
set_option linter.unusedSimpArgs false
set_option maxRecDepth 100000
/-- four digits of 32 bits -/
structure Bg where
  (d0 d1 d2 d3 : Nat)
def Bg.ok (b : Bg) : Prop := b.d0 < 4294967296 ∧ b.d1 < 4294967296 ∧ b.d2 < 4294967296 ∧ b.d3 < 4294967296
def Bg.val (b : Bg) : Int := (b.d0 : Int) + b.d1 * 4294967296 + b.d2 * 18446744073709551616 + b.d3 * 79228162514264337593543950336
def Bg.cells (b : Bg) : Array Value := #[.int .u64 b.d0, .int .u64 b.d1, .int .u64 b.d2, .int .u64 b.d3]
end Go.Proofs.YtcaihncnmjegoaaGreatDoor

/-! The walks of the reference's numbers of 128 bits: Of. -/
namespace Go.Proofs.YtcaihncnmjegoaaGreatDoor
open Go.RowKit Go.WideMaps Go.Maps
set_option linter.unusedVariables false
set_option linter.unusedSimpArgs false
set_option maxRecDepth 100000
theorem results_cell1 {fn : Func} {p : Tmp} {ty : TypeId} (h : fn.results = #[.cell p ty]) (tmps : Array Value) (P : Program) (w : World) :
    (results fn tmps).run P w = ((asAddr (tmps.getD p undef)).run P w).andThen fun a w₁ => (loadVar ty a).run P w₁ := by
  simp only [results, h]
  simp [Sem.run_bind, Result.andThen]
theorem two_allocs {w : World} {A B : Array Value} {S T : Nat} : ((w.alloc (.cells A S)).alloc (.cells B T)).heap[w.heap.size]? = some (.cells A S (0, 0)) ∧ Below w.heap.size w ((w.alloc (.cells A S)).alloc (.cells B T)) :=
  ⟨stays_block (below_alloc _ _) (alloc_block _ _ _ _), onward (below_alloc _ _) (below_alloc _ _)⟩
end Go.Proofs.YtcaihncnmjegoaaGreatDoor

/-! The walk of the reference's numbers of 128 bits: Add. -/
namespace Go.Proofs.YtcaihncnmjegoaaGreatDoor
open Go.RowKit Go.WideMaps Go.Maps
set_option linter.unusedVariables false
set_option linter.unusedSimpArgs false
set_option maxRecDepth 100000
theorem set_cells {w : World} {p k T : Nat} {cs : Array Value} {u : Value} (h : w.heap[p]? = some (.cells cs T (0, 0))) : (w.setCell ⟨p, k, none⟩ u).heap[p]? = some (.cells (cs.setIfInBounds k u) T (0, 0)) := by
  unfold World.setCell
  simp only [Array.getElem?_modify, if_true, h]
  rfl
end Go.Proofs.YtcaihncnmjegoaaGreatDoor

/-! The walks of a reader of bytes (wire): New, sum, and what is taken. -/
namespace Go.Proofs.YtcaihncnmjegoaaGreatDoor
open Go.RowKit Go.WideMaps Go.Maps
set_option linter.unusedVariables false
set_option linter.unusedSimpArgs false
set_option maxRecDepth 100000
/-- a reader: what is left to be taken -/
def RdS (w : World) (rp : Nat) (bs : Bs) : Prop := ∃ a c, w.heap[rp]? = some (.cells #[.slice a bs.length c, .bool false] 153 (0, 0)) ∧ BytesAt 0 w (.slice a bs.length c) bs ∧ bs.length ≤ c ∧ c ≤ maxLen
theorem RdS.below {w w' : World} {rp : Nat} {bs : Bs} (h : RdS w rp bs) (hb : Below w.heap.size w w') : RdS w' rp bs := by
  obtain ⟨a, c, h1, h2, h3, h4⟩ := h
  exact ⟨a, c, stays_block hb h1, h2.below hb, h3, h4⟩
theorem infoByte : (Tryz.prog.info? 5).map (fun i => (i.zero, i.size, i.bytes)) = some (some (.int .u8 0), 1, 1) := by kernel_rfl
theorem own_bytes0 (w : World) : (w.alloc (.cells #[] 5)).ownsRow w.heap.size 5 1 (.slice (some ⟨w.heap.size, 0, none⟩) 0 0) 0 [] :=
  ⟨rfl, .inr ⟨w.heap.size, 0, #[], rfl, Nat.le_refl _, heap_alloc_new _ _, Nat.le_refl _, Nat.zero_le _, rfl, rfl⟩⟩
theorem own_room {w : World} {base : Nat} {a : Option Addr} {n c : Nat} {xs : List Value} (h : w.ownsRow base 5 1 (.slice a n c) n xs) : n ≤ c ∧ c ≤ maxLen := by
  obtain ⟨-, ⟨h1, h2⟩ | ⟨g, cap, cur, h1, -, -, h4, h5, -⟩⟩ := h
  · injection h1 with _ h1 h3
    omega
  · injection h1 with _ _ h1
    subst h1
    exact ⟨h4, h5⟩
set_option maxHeartbeats 1000000 in
theorem wnew_any {B : Nat} (v : Value) (bs : Bs) (w : World) (hB : BytesAt B w v bs) (hl : bs.length ≤ 1000000) (hne : 0 < bs.length) : Calls Tryz.prog 67 #[v] w fun e w' => ∃ rp, e = .returned (.pointer (some ⟨rp, 0, none⟩)) ∧ RdS w' rp bs ∧ Below w.heap.size w w' ∧ w.heap.size ≤ rp := by
  obtain ⟨i0, hi, hz0, hz1, hz2⟩ := info_parts infoByte
  have O0 := Lib.hid (own_bytes0 w)
  have B0 := Lib.hid (below_alloc w (.cells #[] 5))
  have H0 := hB.below (below_alloc w (.cells #[] 5))
  obtain ⟨a, c, rfl, hn, hx⟩ := hB
  cases a with
  | none =>
    obtain ⟨b, o, h3, _⟩ := hx 0 hne
    cases h3
  | some ad =>
    clear hn hx
    have HH := Lib.hid H0
    clear H0
    go_enter Tryz.func67, Tryz.ntmps67
    go_wp2_with (at_builtin; refine wpList_append_own _ rfl (.tmp 3) (.tmp 4) 62 rfl w.heap.size 5 i0 _ 1 1 Tryz.underlying62 hi hz0 hz1 hz2 rfl (by decide) _ _ _ rfl O0.out ad bs.length c (bytesV bs) rfl (by rw [bytesV_len, Nat.mul_one]) (bytes_src HH.out) (bytes_one bs) (by unfold maxLen; omega) (by omega) (by simp) ?_)
    intro v2 w2 hown2 hgrow2 _
    have B2 := Lib.hid (owned_below O0.out B0.out hgrow2)
    (try simp only [Nat.zero_add, List.nil_append] at hown2)
    obtain ⟨a2, c2, rfl⟩ := jown_form hown2
    obtain ⟨k1, k2⟩ := own_room hown2
    have BA := Lib.hid (BytesAt.of_own (B := 0) hown2)
    have BZ := Lib.hid (below_alloc w2 (.cells #[.slice a2 bs.length c2, .bool false] 153))
    have HZ := Lib.hid (alloc_block w2 #[.slice a2 bs.length c2, .bool false] 153 (0, 0))
    have hs := B2.out.size
    clear hown2 hgrow2 O0 B0
    go_wp2_with fail
    go_ret
    exact ⟨_, rfl, ⟨a2, c2, HZ.out, BA.out.below BZ.out, k1, k2⟩, onward BZ.out B2.out, hs⟩
set_option maxHeartbeats 1000000 in
theorem wsum_any {B : Nat} (v : Value) (bs : Bs) (w : World) (hB : BytesAt B w v bs) (hl : bs.length ≤ 8) : Calls Tryz.prog 73 #[v] w fun e w' => e = .returned (.int .u64 (unbig bs : Nat)) ∧ w = w' := by
  have HB := Lib.hid hB
  obtain ⟨a, c, rfl⟩ := hB.form
  clear hB
  go_enter Tryz.func73, Tryz.ntmps73
  go_wp2_with fail
  go_loopw [3, 8] (fun nv iv wr => ∃ k : Nat, k ≤ bs.length ∧ iv = .int .i64 k ∧ nv = .int .u64 (unbig (bs.take k) : Nat) ∧ wr = w) (fun _ iv _ => bs.length - (intOf iv).toNat)
  case atStart => exact ⟨0, by omega, rfl, rfl, rfl⟩
  case round =>
    obtain ⟨k, hk, rfl, rfl, hwr⟩ := hrel
    have hwr' := hwr.symm
    subst hwr'
    clear hwr
    by_cases hlt : k < bs.length
    · have hz : (k : Int) < (bs.length : Int) := by omega
      obtain ⟨g, o, rfl, x0⟩ := HB.out.cell_at k hlt
      have hs := unbig_snoc (bs.take k) bs[k]
      have ht : bs.take (k + 1) = bs.take k ++ [bs[k]] := List.take_succ_eq_append_getElem hlt
      have hu := unbig_lt (bs.take k)
      have hl2 : (bs.take k).length = k := by rw [List.length_take]; omega
      rw [hl2] at hu
      rw [← ht] at hs
      have hx := (bs[k]).toNat_lt
      generalize unbig (bs.take k) = u at *
      generalize bs[k] = x at *
      have hu2 : u < 72057594037927936 := by
        have h7 : 256 ^ k ≤ 256 ^ 7 := Nat.pow_le_pow_right (by omega) (by omega)
        have h8 : (256 : Nat) ^ 7 = 72057594037927936 := by decide
        omega
      have HS : Hid (unbig (bs.take (k + 1)) = u * 256 + x.toNat) := hs
      obtain ⟨y, hy⟩ : ∃ y, y = x.toNat := ⟨_, rfl⟩
      rw [← hy] at x0 HS hx
      clear hs ht hu hl2 hy
      go_wp2_with fail
      go_roundw
      case rel => exact ⟨k + 1, by omega, by go_num, congrArg (fun n : Nat => Value.int .u64 (n : Int)) HS.out.symm, trivial⟩
      case measure => simp [intOf]; omega
    · have dk : decide ((k : Int) < ((bs.length : Nat) : Int)) = false := decide_eq_false (by omega)
      have hkk : bs.take k = bs := List.take_of_length_le (by omega)
      rw [hkk]
      go_wp2_with fail
      go_ret
      exact ⟨rfl, rfl⟩
end Go.Proofs.YtcaihncnmjegoaaGreatDoor

/-! The walks of a reader's from, for numbers and for texts. -/
namespace Go.Proofs.YtcaihncnmjegoaaGreatDoor
open Go.RowKit Go.WideMaps Go.Maps
set_option linter.unusedVariables false
set_option linter.unusedSimpArgs false
set_option maxRecDepth 100000
theorem BytesAt.take {B : Nat} {w : World} {a : Option Addr} {m c n : Nat} {bs : Bs} (h : BytesAt B w (.slice a m c) bs) (hn : n ≤ bs.length) : BytesAt B w (.slice a n c) (bs.take n) := by
  obtain ⟨a', c', e, h0, hx⟩ := h
  injection e with e1 e2 e3
  subst e1; subst e3
  refine ⟨a, c, by rw [List.length_take, Nat.min_eq_left hn], h0, fun i hi => ?_⟩
  rw [List.length_take] at hi
  obtain ⟨b, o, e, hc, hr⟩ := hx i (by omega)
  refine ⟨b, o, e, ?_, hr⟩
  rw [hc, List.getD_eq_getElem?_getD, List.getD_eq_getElem?_getD, List.getElem?_take_of_lt (by omega)]
theorem BytesAt.drop {B : Nat} {w : World} {g o m c n : Nat} {bs : Bs} (h : BytesAt B w (.slice (some ⟨g, o, none⟩) m c) bs) (hn : n ≤ bs.length) (hc : bs.length ≤ c) : BytesAt B w (.slice (if c = n then some ⟨g, o, none⟩ else some ⟨g, o + n, none⟩) (bs.length - n) (c - n)) (bs.drop n) := by
  obtain ⟨a', c', e, h0, hx⟩ := h
  injection e with e1 e2 e3
  subst e1; subst e3
  by_cases hcn : c = n
  · rw [if_pos hcn]
    have h1 : bs.drop n = [] := List.drop_eq_nil_of_le (by omega)
    rw [h1]
    refine ⟨_, c - n, by rw [show bs.length - n = 0 from by omega]; rfl, fun e => (by cases e), fun i hi => by simp at hi⟩
  · rw [if_neg hcn]
    refine ⟨_, c - n, by rw [List.length_drop], fun e => (by cases e), fun i hi => ?_⟩
    rw [List.length_drop] at hi
    obtain ⟨b, o', e, hc2, hr⟩ := hx (n + i) (by omega)
    injection e with e
    injection e with e1 e2 _
    subst e1; subst e2
    refine ⟨g, o + n, rfl, ?_, hr⟩
    rw [Nat.add_assoc, hc2, List.getD_eq_getElem?_getD, List.getD_eq_getElem?_getD, List.getElem?_drop]
theorem rd_set {w : World} {rp : Nat} {bs : Bs} {g o c n : Nat} (h1 : w.heap[rp]? = some (.cells #[.slice (some ⟨g, o, none⟩) bs.length c, .bool false] 153 (0, 0))) (h2 : BytesAt 0 w (.slice (some ⟨g, o, none⟩) bs.length c) bs) (hn : n ≤ bs.length) (hc : bs.length ≤ c) (hm : c ≤ maxLen) :
    RdS (w.setCell ⟨rp, 0, none⟩ (.slice (if c = n then some ⟨g, o, none⟩ else some ⟨g, o + n, none⟩) (bs.length - n) (c - n))) rp (bs.drop n) := by
  refine ⟨if c = n then some ⟨g, o, none⟩ else some ⟨g, o + n, none⟩, c - n, ?_, ?_, by rw [List.length_drop]; omega, by omega⟩
  · rw [set_cells h1, List.length_drop]
    rfl
  · rw [List.length_drop]
    have hb := BytesAt.drop h2 hn hc
    refine hb.step ?_
    intro k hk hor
    have k2 := Kept.setCell (S := fun k => k = rp) w ⟨rp, 0, none⟩ (.slice (if c = n then some ⟨g, o, none⟩ else some ⟨g, o + n, none⟩) (bs.length - n) (c - n)) rfl
    refine k2.block k hk fun e => ?_
    rcases hor with h | ⟨cs, fr, h⟩
    · omega
    · rw [e, h1] at h
      injection h with h
      injection h with _ h _
      exact absurd h (by decide)
/-- what is taken and what is left -/
def TakeNum (rp n : Nat) (bs : Bs) (x : Value) (w : World) (e : Ending) (w' : World) : Prop := e = .returned x ∧ RdS w' rp (bs.drop n) ∧ w.grownBy w' (some rp)
set_option maxHeartbeats 1000000 in
theorem wfrom64_any {rp n : Nat} {bs : Bs} (w : World) (hR : RdS w rp bs) (hn : n ≤ bs.length) (h0 : 0 < n) (h8 : n ≤ 8) : Calls Tryz.prog 87 #[.pointer (some ⟨rp, 0, none⟩), .int .u64 n, .func (.func 73) #[] #[]] w (TakeNum rp n bs (.int .u64 (unbig (bs.take n) : Nat)) w) := by
  obtain ⟨a, c, h1, h2, h3, h4⟩ := hR
  obtain ⟨g, o, rfl, -⟩ := h2.cell_at 0 (by omega)
  have HS := Lib.hid (rd_set (n := n) h1 h2 hn h3 h4)
  have SX := Lib.hid (wsum_any _ (bs.take n) w (BytesAt.take h2 hn) (by rw [List.length_take]; omega))
  have hf : w.frozen? ⟨rp, 0, none⟩ = false := free_of_row h1
  have c0 : w.cell? ⟨rp, 0, none⟩ = some (.slice (some ⟨g, o, none⟩) bs.length c) := by rw [cell_of_row h1]; rfl
  have c1 : w.cell? ⟨rp, 1, none⟩ = some (.bool false) := by rw [cell_of_row h1]; rfl
  unfold maxLen at h4
  have d : decide (((bs.length : Nat) : Int) < (n : Int)) = false := decide_eq_false (by omega)
  have k1 : (n : Int) ≤ (c : Int) := by omega
  have k2 : (n : Int) ≤ (bs.length : Int) := by omega
  have GS := Lib.hid (grown_set (p := rp) (k := 0) (u := .slice (if c = n then some ⟨g, o, none⟩ else some ⟨g, o + n, none⟩) (bs.length - n) (c - n)) (Below.refl w.heap.size w))
  generalize unbig (bs.take n) = u at *
  obtain ⟨ad, had⟩ : ∃ ad, ad = (if c = n then some (⟨g, o, none⟩ : Addr) else some ⟨g, o + n, none⟩) := ⟨_, rfl⟩
  rw [← had] at HS GS
  have had' := had.symm
  clear h1 h2 had
  go_enter Tryz.func87, Tryz.ntmps87
  go_wp2_with fail
  refine SX.out.mono ?_
  rintro e w1 ⟨rfl, hw⟩
  have hw' := hw.symm
  subst hw'
  clear hw
  go_wp2_with fail
  go_ret
  exact ⟨rfl, HS.out, GS.out⟩
end Go.Proofs.YtcaihncnmjegoaaGreatDoor

/-! The walks of a reader's Uint, Int, Text, Count. -/
namespace Go.Proofs.YtcaihncnmjegoaaGreatDoor
open Go.RowKit Go.WideMaps Go.Maps
set_option linter.unusedVariables false
set_option linter.unusedSimpArgs false
set_option maxRecDepth 100000
set_option maxHeartbeats 1000000 in
theorem wint1_any {B : Nat} (v : Value) (bs : Bs) (w : World) (hB : BytesAt B w v bs) (hl : bs.length ≤ 8) : Calls Tryz.prog 72 #[v] w fun e w' => e = .returned (.int .i64 (wrap64 (unbig bs : Nat))) ∧ w = w' := by
  have SX := Lib.hid (wsum_any v bs w hB hl)
  generalize unbig bs = u at *
  clear hB
  go_enter Tryz.func72, Tryz.ntmps72
  go_wp2_with fail
  refine SX.out.mono ?_
  rintro e w1 ⟨rfl, hw⟩
  have hw' := hw.symm
  subst hw'
  clear hw SX
  go_wp2_with fail
  go_ret
  exact ⟨rfl, rfl⟩
set_option maxHeartbeats 1000000 in
theorem wfromI_any {rp n : Nat} {bs : Bs} (w : World) (hR : RdS w rp bs) (hn : n ≤ bs.length) (h0 : 0 < n) (h8 : n ≤ 8) : Calls Tryz.prog 71 #[.pointer (some ⟨rp, 0, none⟩), .int .u64 n, .func (.func 72) #[] #[]] w (TakeNum rp n bs (.int .i64 (wrap64 (unbig (bs.take n) : Nat))) w) := by
  obtain ⟨a, c, h1, h2, h3, h4⟩ := hR
  obtain ⟨g, o, rfl, -⟩ := h2.cell_at 0 (by omega)
  have HS := Lib.hid (rd_set (n := n) h1 h2 hn h3 h4)
  have SX := Lib.hid (wint1_any _ (bs.take n) w (BytesAt.take h2 hn) (by rw [List.length_take]; omega))
  have hf : w.frozen? ⟨rp, 0, none⟩ = false := free_of_row h1
  have c0 : w.cell? ⟨rp, 0, none⟩ = some (.slice (some ⟨g, o, none⟩) bs.length c) := by rw [cell_of_row h1]; rfl
  have c1 : w.cell? ⟨rp, 1, none⟩ = some (.bool false) := by rw [cell_of_row h1]; rfl
  unfold maxLen at h4
  have d : decide (((bs.length : Nat) : Int) < (n : Int)) = false := decide_eq_false (by omega)
  have k1 : (n : Int) ≤ (c : Int) := by omega
  have k2 : (n : Int) ≤ (bs.length : Int) := by omega
  have GS := Lib.hid (grown_set (p := rp) (k := 0) (u := .slice (if c = n then some ⟨g, o, none⟩ else some ⟨g, o + n, none⟩) (bs.length - n) (c - n)) (Below.refl w.heap.size w))
  generalize wrap64 (unbig (bs.take n) : Nat) = u at *
  obtain ⟨ad, had⟩ : ∃ ad, ad = (if c = n then some (⟨g, o, none⟩ : Addr) else some ⟨g, o + n, none⟩) := ⟨_, rfl⟩
  rw [← had] at HS GS
  have had' := had.symm
  clear h1 h2 had
  go_enter Tryz.func71, Tryz.ntmps71
  go_wp2_with fail
  refine SX.out.mono ?_
  rintro e w1 ⟨rfl, hw⟩
  have hw' := hw.symm
  subst hw'
  clear hw
  go_wp2_with fail
  go_ret
  exact ⟨rfl, HS.out, GS.out⟩
end Go.Proofs.YtcaihncnmjegoaaGreatDoor

/-! The walks of a reader's Uint, Int, Text, Count, and of small. -/
namespace Go.Proofs.YtcaihncnmjegoaaGreatDoor
open Go.RowKit Go.WideMaps Go.Maps
set_option linter.unusedVariables false
set_option linter.unusedSimpArgs false
set_option maxRecDepth 100000
set_option maxHeartbeats 1000000 in
theorem rduint_any {rp : Nat} {bs : Bs} (w : World) (hR : RdS w rp bs) (hn : 8 ≤ bs.length) : Calls Tryz.prog 69 #[.pointer (some ⟨rp, 0, none⟩)] w (TakeNum rp 8 bs (.int .u64 (unbig (bs.take 8) : Nat)) w) := by
  have FX := Lib.hid (wfrom64_any w hR hn (by decide) (by decide))
  generalize unbig (bs.take 8) = u at *
  clear hR
  go_enter Tryz.func69, Tryz.ntmps69
  go_wp2_with fail
  refine FX.out.mono ?_
  rintro e w1 ⟨rfl, hr, hg⟩
  have HR := Lib.hid hr
  have HG := Lib.hid hg
  clear hr hg FX
  go_wp2_with fail
  go_ret
  exact ⟨rfl, HR.out, HG.out⟩
set_option maxHeartbeats 1000000 in
theorem rdint_any {rp : Nat} {bs : Bs} (w : World) (hR : RdS w rp bs) (hn : 8 ≤ bs.length) : Calls Tryz.prog 45 #[.pointer (some ⟨rp, 0, none⟩)] w (TakeNum rp 8 bs (.int .i64 (wrap64 (unbig (bs.take 8) : Nat))) w) := by
  have FX := Lib.hid (wfromI_any w hR hn (by decide) (by decide))
  generalize wrap64 (unbig (bs.take 8) : Nat) = u at *
  clear hR
  go_enter Tryz.func45, Tryz.ntmps45
  go_wp2_with fail
  refine FX.out.mono ?_
  rintro e w1 ⟨rfl, hr, hg⟩
  have HR := Lib.hid hr
  have HG := Lib.hid hg
  clear hr hg FX
  go_wp2_with fail
  go_ret
  exact ⟨rfl, HR.out, HG.out⟩
set_option maxHeartbeats 1000000 in
theorem rdsmall_any {rp n : Nat} {bs : Bs} (w : World) (hR : RdS w rp bs) (h8 : 8 ≤ bs.length) (hu : unbig (bs.take 8) = n) (hn : n < 4294967296) : Calls Tryz.prog 44 #[.agg #[.pointer (some ⟨rp, 0, none⟩)]] w (TakeNum rp 8 bs (.int .u32 n) w) := by
  obtain ⟨w1, hw1⟩ : ∃ W, W = w.alloc (.cells #[.pointer (some ⟨rp, 0, none⟩)] 101) := ⟨_, rfl⟩
  have hb1 : Below w.heap.size w w1 := by rw [hw1]; exact below_alloc _ _
  have O1 : w1.heap[w.heap.size]? = some (.cells #[.pointer (some ⟨rp, 0, none⟩)] 101 (0, 0)) := by rw [hw1]; exact alloc_block _ _ _ _
  have c0 : w1.cell? ⟨w.heap.size, 0, none⟩ = some (.pointer (some ⟨rp, 0, none⟩)) := by rw [cell_of_row O1]; rfl
  have FX := Lib.hid (rduint_any w1 (hR.below hb1) h8)
  have GB : Hid (w.grownBy w1 (some rp)) := ⟨hb1.os, hb1.tape, hb1.output, hb1.size, fun k hk _ => hb1.block k hk⟩
  rw [hu] at FX
  have d : decide ((4294967295 : Int) < (n : Int)) = false := decide_eq_false (by omega)
  clear hR hb1 O1
  go_enter Tryz.func44, Tryz.ntmps44
  go_upto_region 1 with fail
  rw [← hw1]
  clear hw1
  go_wp2_with fail
  refine FX.out.mono ?_
  rintro e w2 ⟨rfl, hr, hg⟩
  have HR := Lib.hid hr
  have HG : Hid (w.grownBy w2 (some rp)) := GB.out.trans hg
  clear hr hg FX c0
  go_wp2_with fail
  go_ret
  exact ⟨rfl, HR.out, HG.out⟩
end Go.Proofs.YtcaihncnmjegoaaGreatDoor

