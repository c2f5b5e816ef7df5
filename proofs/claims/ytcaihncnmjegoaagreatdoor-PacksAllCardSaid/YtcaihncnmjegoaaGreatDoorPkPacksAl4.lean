/- The walks of wire.put, Uint, Int, Text. Opening a law's arguments: flat structs of many fields, slices of numbers. No program. What an argument reads as, of whatever kind: structs, slices, slices of structs. No program. Parts in memory; the walks of entry.posts and its closure. The walks of entry.posts; a posting's bytes. Plain text of an account's name: a word of small letters, numbers behind strokes. No program. -/
import Derived.Test.YtcaihncnmjegoaaGreatDoorPkPacksAl3
import Derived.Laws.CopyOwn
import Derived.Laws.MakeOwn
import Derived.Test.YtcaihncnmjegoaaGreatDoorPkPacksAl0
import Derived.ProofKit
import Derived.OpenShut
import Derived.ChangeSlices
import Derived.Lib.SmallJoins
import Derived.Deep.Fields
import Derived.ChangeArms
import Derived.Lib.ItoaMem
import Derived.Lib.ItoaLen
import Derived.Lib.Split
import Derived.Shelf.GgClosure.StringsIndexFunc
import Derived.Lib.TrimUEq
import Derived.Lib.SpaceUEq
/-! The walks of wire.put, Uint, Int, Text. -/
namespace Go.Proofs.YtcaihncnmjegoaaGreatDoor
open Go.RowKit Go.WideMaps Go.Maps
set_option linter.unusedVariables false
set_option linter.unusedSimpArgs false
set_option maxRecDepth 100000
theorem set_mid (A Y T : List Value) (m : Nat) (u : Value) (hm : m < Y.length) : (A ++ (Y.take (m + 1) ++ T)).toArray.setIfInBounds (A.length + m) u = (A ++ (Y.take m ++ (u :: T))).toArray := by
  rw [List.setIfInBounds_toArray]
  congr 1
  rw [List.set_append_right _ _ (by omega), List.take_succ_eq_append_getElem hm, show A.length + m - A.length = m from by omega, List.append_assoc, List.set_append_right _ _ (by rw [List.length_take]; omega), List.length_take, show m - min m Y.length = 0 from by omega]
  rfl
theorem drop_step (x k : Nat) (hk : k < 8) : (big8 x).drop (8 - (k + 1)) = byt x (8 * k) :: (big8 x).drop (8 - k) := by
  have h : k = 0 ∨ k = 1 ∨ k = 2 ∨ k = 3 ∨ k = 4 ∨ k = 5 ∨ k = 6 ∨ k = 7 := by omega
  rcases h with rfl | rfl | rfl | rfl | rfl | rfl | rfl | rfl <;> rfl
theorem put_src {B : Nat} {w : World} {a : Option Addr} {c : Nat} {bs : Bs} (h : BytesAt B w (.slice a bs.length c) bs) (hp : 0 < (bytesV bs).length) : ∃ ad, a = some ad ∧ ∀ (j : Nat) (v : Value), (bytesV bs)[j]? = some v → w.cell? (ad.add j) = some v := by
  rw [bytesV_len] at hp
  obtain ⟨g, o, rfl, -⟩ := BytesAt.cell_at h 0 hp
  exact ⟨_, rfl, bytes_src h⟩
set_option maxHeartbeats 2000000 in
theorem wput_any (B : Nat) (v : Value) (bs : Bs) (x wide : Nat) (w : World) (hB : BytesAt B w v bs) (hl : bs.length ≤ 1000000) (hx : x < 18446744073709551616) (hw : wide = 4 ∨ wide = 8) :
    Calls Tryz.prog 50 #[v, .int .u64 x, .int .i64 wide] w fun e w' => ∃ v', e = .returned v' ∧ w'.ownsRow w.heap.size 5 1 v' (bs.length + wide) (bytesV (bs ++ (big8 x).drop (8 - wide))) ∧ Below w.heap.size w w' := by
  have HB := Lib.hid hB
  have h0 := hB
  obtain ⟨a, c, rfl⟩ := hB.form
  clear hB
  obtain ⟨i0, hi, hz0, hz1, hz2⟩ := info_parts infoB
  have hmk := run_make (P := Tryz.prog) w 62 5 i0 _ Tryz.underlying62 hi hz0 .i64 .i64 ((bs.length : Nat) + (wide : Int)) ((bs.length : Nat) + (wide : Int)) (by omega) (by omega) (by rw [hz2]; omega) (by omega)
  have hMs := size_madeCells (Value.int .u8 0).cells ((((bs.length : Nat) : Int) + (wide : Int)).toNat * i0.size)
  generalize madeCells (Value.int .u8 0).cells ((((bs.length : Nat) : Int) + (wide : Int)).toNat * i0.size) = M at *
  rw [hz1, show (((bs.length : Nat) : Int) + (wide : Int)).toNat = bs.length + wide from by omega, Nat.mul_one] at hMs
  rw [show (((bs.length : Nat) : Int) + (wide : Int)).toNat = bs.length + wide from by omega] at hmk
  have B1 := Lib.hid (below_alloc w (.cells M 5))
  have G1 := Lib.hid (heap_alloc_new w (.cells M 5))
  have H1 := Lib.hid (h0.below (below_alloc w (.cells M 5)))
  have hMl : M.toList.length = bs.length + wide := by rw [Array.length_toList]; exact hMs
  have HY : Hid ((M.toList.drop bs.length).length = wide) := by
    show _ = _
    rw [List.length_drop]
    omega
  have hwn : IntKind.i64.wrap ((bs.length : Nat) + (wide : Int) - 1) = (bs.length : Nat) + (wide : Int) - 1 := IntWalk.i64_in _ (by omega)
  clear h0
  go_enter Tryz.func50, Tryz.ntmps50
  go_wp2_with (refine wpList_copy_splice rfl (.tmp 14) (.tmp 15) 62 62 rfl 5 Tryz.underlying62 (by rw [hi]; simp [hz1]) (some ⟨w.heap.size, 0, none⟩) a (bs.length + wide) (bs.length + wide) bs.length c (by first | rfl | simp [Act.eval]) (by first | rfl | simp [Act.eval]) w.heap.size 0 M.toList 5 (G1.out.trans (by rw [Array.toArray_toList])) (bytesV bs) (by rw [bytesV_len]; exact (Nat.min_eq_left (Nat.le_add_right _ _)).symm) (fun hp => ⟨rfl, put_src H1.out hp⟩) (by rw [bytesV_len, hMl]; omega) (bytes_one bs) w.heap.size w B1.out (Nat.le_refl _) ?_)
  intro w2 HG hb2
  have B2 := Lib.hid hb2
  have hsp : splice M.toList 0 (bytesV bs) = bytesV bs ++ ((M.toList.drop bs.length).take wide ++ bytesV ((big8 x).drop 8)) := by
    unfold splice
    rw [List.take_zero, List.nil_append, bytesV_len, Nat.zero_add, List.take_of_length_le (by rw [HY.out]; exact Nat.le_refl _)]
    show _ = bytesV bs ++ (M.toList.drop bs.length ++ [])
    rw [List.append_nil]
  have G2 := HG.out
  rw [hsp] at G2
  have HG2 := Lib.hid G2
  clear hsp HG G2 hb2 B1 G1 H1 HB hmk hMs hMl
  generalize M.toList.drop bs.length = Y at *
  go_wp2_with fail
  go_loopw [1, 8] (fun vv iv wr => ∃ k : Nat, k ≤ wide ∧ vv = .int .u64 (x / 256 ^ k : Nat) ∧ iv = .int .i64 (((bs.length + (wide - k) : Nat) : Int) - 1) ∧ Hid (wr.heap[w.heap.size]? = some (.cells (bytesV bs ++ (Y.take (wide - k) ++ bytesV ((big8 x).drop (8 - k)))).toArray 5 (0, 0))) ∧ Hid (Below w.heap.size w wr)) (fun _ iv _ => ((intOf iv) + 1).toNat)
  case atStart => exact ⟨0, by omega, by simp, by (try simp); (try omega), HG2.out, B2.out⟩
  case round =>
    obtain ⟨k, hk, rfl, rfl, HR, BR⟩ := hrel
    by_cases hlt : k < wide
    · obtain ⟨m, hm⟩ : ∃ m, wide - k = m + 1 := ⟨wide - k - 1, by omega⟩
      rw [hm] at HR
      rw [hm, show (((bs.length + (m + 1) : Nat) : Int) - 1) = ((bs.length + m : Nat) : Int) from by omega]
      have hmY : m < Y.length := by rw [HY.out]; omega
      obtain ⟨u0, hz⟩ : ∃ u, wr.cell? ⟨w.heap.size, bs.length + m, none⟩ = some u := by
        rw [cell_of_row HR.out]
        have : bs.length + m < (bytesV bs ++ (Y.take (m + 1) ++ bytesV ((big8 x).drop (8 - k)))).toArray.size := by
          rw [List.size_toArray, List.length_append, List.length_append, bytesV_len, List.length_take]
          omega
        exact ⟨_, Array.getElem?_eq_getElem this⟩
      have hf : wr.frozen? ⟨w.heap.size, bs.length + m, none⟩ = false := free_of_row HR.out
      have hpw : x / 256 ^ k = x / 2 ^ (8 * k) := by rw [Nat.pow_mul]
      have E := byt_wrap x (8 * k) ((x / 256 ^ k : Nat) : Int) (by rw [hpw])
      have hsh : ((x / 256 ^ k : Nat) : Int) / 256 = ((x / 256 ^ (k + 1) : Nat) : Int) := by
        rw [Nat.pow_succ, ← Nat.div_div_eq_div_mul]
        omega
      have hy2 : Hid (∀ z : Nat, (z : Int) = ((x / 256 ^ (k + 1) : Nat) : Int) → Value.int .u64 z = .int .u64 ((x / 256 ^ (k + 1) : Nat) : Int)) := fun z hz => by rw [hz]
      generalize hyy : x / 256 ^ (k + 1) = y' at hsh
      have HYY := Lib.hid hyy
      clear hpw hyy
      generalize x / 256 ^ k = y at *
      generalize hbt : (byt x (8 * k)).toNat = bt at *
      have N1 : Hid ((wr.setCell ⟨w.heap.size, bs.length + m, none⟩ (.int .u8 (bt : Nat))).heap[w.heap.size]? = some (.cells (bytesV bs ++ (Y.take (wide - (k + 1)) ++ bytesV ((big8 x).drop (8 - (k + 1))))).toArray 5 (0, 0))) := by
        show _ = _
        have h := set_block (j := bs.length + m) (u := .int .u8 (bt : Nat)) HR.out
        rw [show bs.length + m = (bytesV bs).length + m from by rw [bytesV_len], set_mid _ _ _ _ _ hmY] at h
        rw [show wide - (k + 1) = m from by omega, drop_step x k (by omega), show bs.length + m = (bytesV bs).length + m from by rw [bytesV_len]]
        rw [← hbt] at h ⊢
        exact h
      have N2 : Hid (Below w.heap.size w (wr.setCell ⟨w.heap.size, bs.length + m, none⟩ (.int .u8 (bt : Nat)))) := BR.out.setCell (Nat.le_refl _) _
      have hi1 : (bs.length : Int) + (m : Int) < (bs.length : Int) + (wide : Int) := by omega
      clear HR BR hbt
      go_wp2_with fail
      go_roundw
      case rel => exact ⟨k + 1, by omega, by rw [HYY.out], by (rw [show wide - (k + 1) = m from by omega]; go_num), N1.out, N2.out⟩
      case measure => simp [intOf]; omega
    · obtain rfl : k = wide := by omega
      rw [Nat.sub_self, List.take_zero, List.nil_append] at HR
      rw [show (((bs.length + (k - k) : Nat) : Int) - 1) = ((bs.length : Nat) : Int) - 1 from by omega]
      go_wp2_with fail
      go_ret
      refine ⟨_, rfl, ⟨?_, .inr ⟨w.heap.size, bs.length + k, _, rfl, Nat.le_refl _, HR.out, Nat.le_refl _, by unfold maxLen; omega, ?_, ?_⟩⟩, BR.out⟩
      · rw [bytesV_len, List.length_append, List.length_drop]
        show bs.length + (8 - (8 - k)) = _
        omega
      · rw [List.size_toArray, List.length_append, bytesV_len, bytesV_len, List.length_drop]
        show bs.length + (8 - (8 - k)) = _
        omega
      · rw [bytesV_app]
        show List.take _ (bytesV bs ++ bytesV _) = _
        rw [List.take_of_length_le]
        rw [List.length_append, bytesV_len, bytesV_len, List.length_drop]
        show bs.length + (8 - (8 - k)) ≤ _
        omega
theorem wuint_any (B : Nat) (v : Value) (bs : Bs) (x : Nat) (w : World) (hB : BytesAt B w v bs) (hl : bs.length ≤ 1000000) (hx : x < 18446744073709551616) :
    Calls Tryz.prog 31 #[v, .int .u64 x] w fun e w' => ∃ v', e = .returned v' ∧ BytesAt 0 w' v' (bs ++ big8 x) ∧ Below w.heap.size w w' := by
  have PX := Lib.hid (wput_any B v bs x 8 w hB hl hx (.inr rfl))
  clear hB
  go_enter Tryz.func31, Tryz.ntmps31
  go_wp2_with fail
  refine PX.out.mono ?_
  rintro e w1 ⟨v1, rfl, ho, hb⟩
  have H1 : Hid (BytesAt 0 w1 v1 (bs ++ big8 x)) := BytesAt.of_own (base := w.heap.size) (by rw [List.length_append]; exact ho)
  have B1 := Lib.hid hb
  clear ho hb
  go_wp2
  go_ret
  exact ⟨_, rfl, H1.out, B1.out⟩
def toU (v : Int) : Nat := (v % 18446744073709551616).toNat
theorem toU_lt (v : Int) : toU v < 18446744073709551616 := by unfold toU; omega
theorem wint_any (B : Nat) (v : Value) (bs : Bs) (x : Int) (w : World) (hB : BytesAt B w v bs) (hl : bs.length ≤ 1000000) :
    Calls Tryz.prog 30 #[v, .int .i64 x] w fun e w' => ∃ v', e = .returned v' ∧ BytesAt 0 w' v' (bs ++ big8 (toU x)) ∧ Below w.heap.size w w' := by
  have PX := Lib.hid (wuint_any B v bs (toU x) w hB hl (toU_lt x))
  have hw : IntKind.u64.wrap x = ((toU x : Nat) : Int) := by
    have e : IntKind.u64.wrap x = x % 18446744073709551616 := rfl
    rw [e]
    unfold toU
    omega
  clear hB
  go_enter Tryz.func30, Tryz.ntmps30
  go_wp2_with fail
  try rw [hw]
  refine PX.out.mono ?_
  rintro e w1 ⟨v1, rfl, hB, hb⟩
  have H1 := Lib.hid hB
  have B1 := Lib.hid hb
  clear hB hb
  go_wp2
  go_ret
  exact ⟨_, rfl, H1.out, B1.out⟩
end Go.Proofs.YtcaihncnmjegoaaGreatDoor

/-! Opening a law's arguments: flat structs of many fields, slices of numbers. No program. -/
namespace Go.Proofs.YtcaihncnmjegoaaGreatDoor
open Go.Deep Go.Joins Go.ChangeShapes Go.WideShapes Go.RowKit
set_option linter.unusedVariables false
section
variable {H : Type} {enc : TypeId × Value → H} {P : Program} {w : World} {base : Nat} {spare : Nat → Bool} {held : Bool}
end
/-- a slice of whole numbers lies in memory -/
def NumsAt (k : IntKind) (w : World) (v : Value) (ns : List Int) : Prop := ∃ a c, v = .slice a ns.length c ∧ ∀ i, i < ns.length → ∃ b o, a = some ⟨b, o, none⟩ ∧ w.cell? ⟨b, o + i, none⟩ = some (.int k (ns.getD i 0))
theorem NumsAt.below {k : IntKind} {w w' : World} {v : Value} {ns : List Int} (h : NumsAt k w v ns) (hb : Below w.heap.size w w') : NumsAt k w' v ns := by
  obtain ⟨a, c, rfl, hc⟩ := h
  exact ⟨a, c, rfl, fun i hi => by
    obtain ⟨b, o, rfl, hcell⟩ := hc i hi
    exact ⟨b, o, rfl, stays hb hcell⟩⟩
theorem open_nums {H : Type} {enc : TypeId × Value → H} {P : Program} {w : World} {r : Reach} {base b0 : Nat} {held : Bool} {t e : TypeId} {k : IntKind} {v : Value} {d : DataW H} {p : List MemPlace} (ht : P.underlying t = some (.slice e)) (he : P.underlying e = some (.int k)) (hc : P.cellsOf e = 1)
    (hv : Value.okWide P w r b0 t v) (h : DataW.Trod enc P w base (fun _ => true) held t v d p) : ∃ ns, NumsAt k w v ns ∧ ns.length ≤ maxLen ∧ (∀ n ∈ ns, (Lit.int k n).wf = true) ∧ ∀ l c, v = .slice none l c → c = 0 := by
  obtain ⟨a0, len, cap, rfl⟩ := okWide_slice ht hv
  obtain ⟨fuel, hf⟩ := h
  rcases open_ints ht he hc hf with ⟨hcs, hx⟩ | ⟨a, len', cap', zs, hcs, _, hl, hm, hz, hx, hcell, hwz⟩
  · simp [Value.cells] at hcs
    obtain ⟨rfl, rfl, rfl⟩ := hcs
    exact ⟨[], ⟨none, 0, rfl, fun i hi => by simp at hi⟩, by simp, by simp, fun l c h => by injection h with _ _ h; exact h.symm⟩
  · simp [Value.cells] at hcs
    obtain ⟨rfl, rfl, rfl⟩ := hcs
    simp only [if_true] at hz
    have hlen : (zs.take len).length = len := by rw [List.length_take]; omega
    refine ⟨zs.take len, ⟨some a, cap, by rw [hlen], fun i hi => ?_⟩, by omega, fun n hn => hwz n (List.mem_of_mem_take hn), fun l c h => by injection h with h; cases h⟩
    rw [hlen] at hi
    obtain ⟨b, o, sp⟩ := a
    have hsp : sp = none := by simpa [Addr.add] using World.cell?_spot (hcell 0 (by omega))
    subst hsp
    have h1 := hcell i (by omega)
    have e1 : Addr.add ⟨b, o, none⟩ i = ⟨b, o + i, none⟩ := by unfold Addr.add; split <;> simp_all
    rw [e1] at h1
    have e2 : (zs.take len).getD i 0 = zs.getD i 0 := by simp [List.getD, hi]
    exact ⟨b, o, rfl, by rw [e2]; exact h1⟩
theorem of_u32 {n : Int} (h : (Lit.int .u32 n).wf = true) : 0 ≤ n ∧ n ≤ 4294967295 := by
  simp only [Lit.wf] at h
  rw [show IntKind.u32.min = 0 from by decide, show IntKind.u32.max = 4294967295 from by decide, Bool.and_eq_true, decide_eq_true_eq, decide_eq_true_eq] at h
  exact h
end Go.Proofs.YtcaihncnmjegoaaGreatDoor

/-! What an argument reads as, of whatever kind: structs, slices, slices of structs. No program. -/
namespace Go.Proofs.YtcaihncnmjegoaaGreatDoor
open Go.Deep Go.Joins Go.ChangeShapes Go.WideShapes Go.RowKit
set_option linter.unusedVariables false
section
variable {H : Type} {enc : TypeId × Value → H} {P : Program} {w : World} {base : Nat} {spare : Nat → Bool} {held : Bool}
end
/-- rows of cells, one behind another -/
def RowsIn (w : World) (v : Value) (size : Nat) (rows : List (List Value)) : Prop :=
  ∃ a c, v = .slice a rows.length c ∧ rows.length ≤ c ∧ c ≤ maxLen ∧ ∀ i, i < rows.length → ∃ b o, a = some ⟨b, o, none⟩ ∧ b < w.heap.size ∧ ∀ j, j < size → w.cell? ⟨b, o + (i * size + j), none⟩ = (rows.getD i [])[j]?
theorem RowsIn.below {w w' : World} {v : Value} {size : Nat} {rows : List (List Value)} (h : RowsIn w v size rows) (hb : Below w.heap.size w w') : RowsIn w' v size rows := by
  obtain ⟨a, c, h1, h2, h3, h4⟩ := h
  refine ⟨a, c, h1, h2, h3, fun i hi => ?_⟩
  obtain ⟨b, o, h5, h6, h7⟩ := h4 i hi
  exact ⟨b, o, h5, Nat.lt_of_lt_of_le h6 hb.size, fun j hj => by rw [hb.cell (p := ⟨b, o + (i * size + j), none⟩) h6]; exact h7 j hj⟩
theorem rows_cell {w : World} {a : Option Addr} {n c size : Nat} {rows : List (List Value)} (h : RowsIn w (.slice a n c) size rows) (i : Nat) (hi : i < rows.length) : ∃ b o, a = some ⟨b, o, none⟩ ∧ ∀ j, j < size → w.cell? ⟨b, o + (i * size + j), none⟩ = (rows.getD i [])[j]? := by
  obtain ⟨a', c', h1, h2, h3, h4⟩ := h
  injection h1 with h1 _ _
  subst h1
  obtain ⟨b, o, h5, h6, h7⟩ := h4 i hi
  exact ⟨b, o, h5, h7⟩
theorem rows_form {w : World} {v : Value} {size : Nat} {rows : List (List Value)} (h : RowsIn w v size rows) : ∃ a c, v = .slice a rows.length c ∧ rows.length ≤ c ∧ c ≤ maxLen := by
  obtain ⟨a, c, h1, h2, h3, _⟩ := h
  exact ⟨a, c, h1, h2, h3⟩
end Go.Proofs.YtcaihncnmjegoaaGreatDoor

/-! Parts in memory; the walks of entry.posts and its closure. -/
namespace Go.Proofs.YtcaihncnmjegoaaGreatDoor
open Go.RowKit Go.WideMaps Go.Maps
set_option linter.unusedVariables false
set_option linter.unusedSimpArgs false
set_option maxRecDepth 100000
/-- a part: an account, an amount -/
structure Pt where
  (a : ByteArray) (n : Int)
def Pt.cells (p : Pt) : List Value := [.string p.a, .int .i64 p.n]
def Pt.ok (p : Pt) : Prop := -9223372036854775808 ≤ p.n ∧ p.n ≤ 9223372036854775807
/-- what no part of a posting may be -/
def badP (p : Pt) : Bool := decide (p.a.size = 0 ∨ 32 < p.a.size ∨ p.n = 0 ∨ p.n < -4611686018427387904 ∨ 4611686018427387904 < p.n)
theorem pt_cells {w : World} {a : Option Addr} {n c : Nat} {L : List Pt} (h : RowsIn w (.slice a n c) 2 (L.map Pt.cells)) (i : Nat) (hi : i < L.length) : ∃ b o, a = some ⟨b, o, none⟩ ∧ w.cell? ⟨b, o + i * 2, none⟩ = some (.string L[i].a) ∧ w.cell? ⟨b, o + i * 2 + 1, none⟩ = some (.int .i64 L[i].n) := by
  obtain ⟨b, o, h1, h2⟩ := rows_cell h i (by simpa using hi)
  have e : ((L.map Pt.cells).getD i []) = L[i].cells := by simp [List.getD, hi]
  rw [e] at h2
  exact ⟨b, o, h1, h2 0 (by omega), by rw [Nat.add_assoc]; exact h2 1 (by omega)⟩
theorem pt_form {w : World} {lv : Value} {L : List Pt} (h : RowsIn w lv 2 (L.map Pt.cells)) : ∃ a c, lv = .slice a L.length c := by
  obtain ⟨a, c, e, -, -⟩ := rows_form h
  rw [List.length_map] at e
  exact ⟨a, c, e⟩
end Go.Proofs.YtcaihncnmjegoaaGreatDoor

/-! The walks of entry.posts; a posting's bytes. -/
namespace Go.Proofs.YtcaihncnmjegoaaGreatDoor
open Go.RowKit Go.WideMaps Go.Maps
set_option linter.unusedVariables false
set_option linter.unusedSimpArgs false
set_option maxRecDepth 100000
/-- may a posting be? -/
def postsB (seq : Nat) (time : Int) (L : List Pt) : Bool := decide (0 < seq ∧ 0 ≤ time ∧ time ≤ 137438953472 ∧ 0 < L.length ∧ L.length ≤ 16) && !L.any badP
/-- a posting's bytes -/
def partL (p : Pt) : Bs := (big8 p.a.size).drop 4 ++ p.a.data.toList ++ big8 (toU p.n)
def headL (seq : Nat) (time : Int) (ten n : Nat) : Bs := big8 seq ++ big8 (toU time) ++ big8 ten ++ big8 n
def postL (seq : Nat) (time : Int) (ten : Nat) (L : List Pt) : Bs := headL seq time ten L.length ++ L.flatMap partL
theorem part_cells2 {w : World} {b : Nat} {T : Nat} {x0 x1 : Value} (h : w.heap[b]? = some (.cells #[x0, x1] T (0, 0))) : w.cell? ⟨b, 0, none⟩ = some x0 ∧ w.cell? ⟨b, 1, none⟩ = some x1 := by
  refine ⟨?_, ?_⟩ <;> simp [World.cell?, h]
def PutpEnd (seq : Nat) (time : Int) (ten : Nat) (L : List Pt) (w : World) (e : Ending) (w' : World) : Prop := Below w.heap.size w w' ∧ if postsB seq time L = true then ∃ v, e = .returned (.tuple #[v, .int .i64 0]) ∧ BytesAt 0 w' v (postL seq time ten L) else e = .returned (.tuple #[.slice none 0 0, .int .i64 1])
theorem PutpEnd.no {seq : Nat} {time : Int} {ten : Nat} {L : List Pt} {w w' : World} {e : Ending} (h : postsB seq time L = false) (hb : Below w.heap.size w w') (he : e = .returned (.tuple #[.slice none 0 0, .int .i64 1])) : PutpEnd seq time ten L w e w' := ⟨hb, by rw [if_neg (by rw [h]; decide)]; exact he⟩
theorem PutpEnd.yes {seq : Nat} {time : Int} {ten : Nat} {L : List Pt} {w w' : World} {e : Ending} {v : Value} (h : postsB seq time L = true) (hb : Below w.heap.size w w') (hv : BytesAt 0 w' v (postL seq time ten L)) (he : e = .returned (.tuple #[v, .int .i64 0])) : PutpEnd seq time ten L w e w' := ⟨hb, by rw [if_pos h]; exact ⟨v, he, hv⟩⟩
end Go.Proofs.YtcaihncnmjegoaaGreatDoor

/-! Plain text of an account's name: a word of small letters, numbers behind strokes. No program. -/
namespace Go.Proofs.YtcaihncnmjegoaaGreatDoor.Acct
open Go Go.Lib
set_option linter.unusedVariables false
def isL (c : UInt8) : Bool := decide (97 ≤ c.toNat) && decide (c.toNat ≤ 122)
def lettersL (l : List UInt8) : Bool := !l.isEmpty && l.all isL
/-- what the closure in acct.letters tells of a rune -/
def notL (x : Nat) : Bool := decide (x < 97) || decide (122 < x)
theorem isL_iff (c : UInt8) : isL c = true ↔ 97 ≤ c.toNat ∧ c.toNat ≤ 122 := by simp [isL]
theorem notL_iff (x : Nat) : notL x = false ↔ 97 ≤ x ∧ x ≤ 122 := by simp [notL]
theorem rune_hi (n b0 b1 b2 b3 : Nat) (h : 128 ≤ b0) : 128 ≤ (decodeN n b0 b1 b2 b3).1 := by
  rcases decodeN_cases n b0 b1 b2 b3 with ⟨c, _⟩ | ⟨_, _, _, c, e⟩ | ⟨_, _, _, _, c, e⟩ | ⟨c, _⟩ | e
  · omega
  · rw [e]; exact c
  · rw [e]; simp only; omega
  · omega
  · rw [e]; simp only; omega
/-- a rune is a small letter just if it is one byte, a small letter -/
theorem letter_rune (s : ByteArray) (pos : Nat) : (notL (Utf8.decode s pos).1 = false ∧ (Utf8.decode s pos).2 = 1 ∧ isL (s.get! pos) = true) ∨ (notL (Utf8.decode s pos).1 = true ∧ isL (s.get! pos) = false) := by
  rw [decode_at]
  by_cases h : (s.get! pos).toNat < 128
  · rw [decodeN_ascii _ _ _ _ _ h]
    by_cases c : 97 ≤ (s.get! pos).toNat ∧ (s.get! pos).toNat ≤ 122
    · exact .inl ⟨(notL_iff _).2 c, rfl, (isL_iff _).2 c⟩
    · exact .inr ⟨by rw [← Bool.not_eq_false]; exact fun e => c ((notL_iff _).1 e), by rw [← Bool.not_eq_true]; exact fun e => c ((isL_iff _).1 e)⟩
  · have hh := rune_hi (s.size - pos) (s.get! pos).toNat (s.get! (pos + 1)).toNat (s.get! (pos + 2)).toNat (s.get! (pos + 3)).toNat (by omega)
    have k1 : ¬ notL (decodeN (s.size - pos) (s.get! pos).toNat (s.get! (pos + 1)).toNat (s.get! (pos + 2)).toNat (s.get! (pos + 3)).toNat).1 = false := fun e => by have := (notL_iff _).1 e; omega
    have k2 : ¬ isL (s.get! pos) = true := fun e => by have := (isL_iff _).1 e; omega
    exact .inr ⟨by simpa using k1, by simpa using k2⟩
theorem idx_from (s : ByteArray) : ∀ (f pos : Nat), s.size ≤ pos + f → (idxFuncFrom notL true s f pos < 0 ↔ ∀ j, pos ≤ j → j < s.size → isL (s.get! j) = true)
  | 0, pos, h => ⟨fun _ j h1 h2 => by omega, fun _ => by simp [idxFuncFrom]⟩
  | f + 1, pos, h => by
    unfold idxFuncFrom
    by_cases hp : pos < s.size
    · rw [if_pos hp]
      rcases letter_rune s pos with ⟨h1, h2, h3⟩ | ⟨h1, h2⟩
      · rw [if_neg (by rw [h1]; decide), h2, idx_from s f (pos + 1) (by omega)]
        constructor
        · intro hj j j1 j2
          by_cases e : j = pos
          · subst e; exact h3
          · exact hj j (by omega) j2
        · exact fun hj j j1 j2 => hj j (by omega) j2
      · rw [if_pos h1]
        constructor
        · intro hc; omega
        · intro hj; have := hj pos (Nat.le_refl _) hp; rw [h2] at this; cases this
    · rw [if_neg hp]
      exact ⟨fun _ j h1 h2 => by omega, fun _ => by decide⟩
theorem get_list (s : ByteArray) (j : Nat) (h : j < s.size) : s.get! j = s.data.toList[j]'(by simpa using h) := by
  show s.data[j]! = _
  rw [getElem!_pos s.data j h]
  simp
theorem idx_letters (s : ByteArray) : decide (0 ≤ idxFunc notL true s) = !s.data.toList.all isL := by
  have h := idx_from s s.size 0 (by omega)
  have e : s.data.toList.all isL = true ↔ ∀ j, 0 ≤ j → j < s.size → isL (s.get! j) = true := by
    rw [List.all_eq_true]
    constructor
    · intro ha j _ hj
      rw [get_list s j hj]
      exact ha _ (List.getElem_mem _)
    · intro ha x hx
      obtain ⟨j, hj, rfl⟩ := List.getElem_of_mem hx
      have hj' : j < s.size := by simpa using hj
      rw [← get_list s j hj']
      exact ha j (Nat.zero_le _) hj'
  cases hb : s.data.toList.all isL
  · have : ¬ idxFunc notL true s < 0 := fun hc => by
      have := e.2 (h.1 hc)
      rw [hb] at this; cases this
    exact decide_eq_true (by omega)
  · have := h.2 (e.1 hb)
    exact decide_eq_false (by unfold idxFunc; omega)
/-- numbers behind strokes -/
def partsL : List Int → List UInt8
  | [] => []
  | n :: r => 47 :: (itoa n ++ partsL r)
theorem partsL_append (a b : List Int) : partsL (a ++ b) = partsL a ++ partsL b := by
  induction a with
  | nil => rfl
  | cons x a ih => simp [partsL, ih]
theorem partsL_snoc (a : List Int) (n : Int) : partsL (a ++ [n]) = partsL a ++ 47 :: itoa n := by rw [partsL_append]; simp [partsL]
def inInt (n : Int) : Prop := -9223372036854775808 ≤ n ∧ n ≤ 9223372036854775807
theorem partsL_len (a : List Int) (h : ∀ n ∈ a, inInt n) : (partsL a).length ≤ 22 * a.length := by
  induction a with
  | nil => simp [partsL]
  | cons x a ih =>
    have h1 := ih (fun n hn => h n (List.mem_cons_of_mem _ hn))
    have h2 := itoa_length_le x (h x (List.mem_cons_self)).1 (h x (List.mem_cons_self)).2
    simp [partsL]; omega
/-- an account's name; empty: there is none -/
def nameL (word : List UInt8) (ns : List Int) : List UInt8 := if lettersL word = true ∧ (word ++ partsL ns).length ≤ 32 then word ++ partsL ns else []
def nameB (word : ByteArray) (ns : List Int) : ByteArray := ⟨(nameL word.data.toList ns).toArray⟩
theorem nameL_yes {l : List UInt8} {ns : List Int} (h : lettersL l = true) (h' : (l ++ partsL ns).length ≤ 32) : nameL l ns = l ++ partsL ns := if_pos ⟨h, h'⟩
theorem nameL_long {l : List UInt8} {ns : List Int} (h' : ¬ (l ++ partsL ns).length ≤ 32) : nameL l ns = [] := if_neg fun h => h' h.2
end Go.Proofs.YtcaihncnmjegoaaGreatDoor.Acct

