/- The walks of wire.put, Uint, Int, Text. -/
import Derived.Test.YtecbnhmnhcpcmaaGreatDoorPkJournalPlays6
import Derived.Laws.CopyOwn
import Derived.Laws.MakeOwn
/-! The walks of wire.put, Uint, Int, Text. -/
namespace Go.Proofs.YtecbnhmnhcpcmaaGreatDoor
open Go.RowKit Go.WideMaps Go.Maps
set_option linter.unusedVariables false
set_option linter.unusedSimpArgs false
set_option maxRecDepth 100000
theorem set_mid (A Y T : List Value) (m : Nat) (u : Value) (hm : m < Y.length) : (A ++ (Y.take (m + 1) ++ T)).toArray.setIfInBounds (A.length + m) u = (A ++ (Y.take m ++ (u :: T))).toArray := by
  rw [List.setIfInBounds_toArray]
  congr 1
  rw [List.set_append_right _ _ (by omega), List.take_succ_eq_append_getElem hm, show A.length + m - A.length = m from by omega, List.append_assoc, List.set_append_right _ _ (by rw [List.length_take]; omega), List.length_take, show m - min m Y.length = 0 from by omega]
  rfl
theorem drop_step (x k : Nat) (hk : k < 8) : (big8 x).drop (8 - (k + 1)) = byt x (8 * k) :: (big8 x).drop (8 - k) := by
  have h : k = 0 ∨ k = 1 ∨ k = 2 ∨ k = 3 ∨ k = 4 ∨ k = 5 ∨ k = 6 ∨ k = 7 := by omega
  rcases h with rfl | rfl | rfl | rfl | rfl | rfl | rfl | rfl <;> rfl
theorem put_src {B : Nat} {w : World} {a : Option Addr} {c : Nat} {bs : Bs} (h : BytesAt B w (.slice a bs.length c) bs) (hp : 0 < (bytesV bs).length) : ∃ ad, a = some ad ∧ ∀ (j : Nat) (v : Value), (bytesV bs)[j]? = some v → w.cell? (ad.add j) = some v := by
  rw [bytesV_len] at hp
  obtain ⟨g, o, rfl, -⟩ := BytesAt.cell_at h 0 hp
  exact ⟨_, rfl, bytes_src h⟩
set_option maxHeartbeats 2000000 in
theorem wput_any (B : Nat) (v : Value) (bs : Bs) (x wide : Nat) (w : World) (hB : BytesAt B w v bs) (hl : bs.length ≤ 1000000) (hx : x < 18446744073709551616) (hw : wide = 4 ∨ wide = 8) :
    Calls Tryz.prog 81 #[v, .int .u64 x, .int .i64 wide] w fun e w' => ∃ v', e = .returned v' ∧ w'.ownsRow w.heap.size 5 1 v' (bs.length + wide) (bytesV (bs ++ (big8 x).drop (8 - wide))) ∧ Below w.heap.size w w' := by
  have HB := Lib.hid hB
  have h0 := hB
  obtain ⟨a, c, rfl⟩ := hB.form
  clear hB
  obtain ⟨i0, hi, hz0, hz1, hz2⟩ := info_parts infoB
  have hmk := run_make (P := Tryz.prog) w 61 5 i0 _ Tryz.underlying61 hi hz0 .i64 .i64 ((bs.length : Nat) + (wide : Int)) ((bs.length : Nat) + (wide : Int)) (by omega) (by omega) (by rw [hz2]; omega) (by omega)
  have hMs := size_madeCells (Value.int .u8 0).cells ((((bs.length : Nat) : Int) + (wide : Int)).toNat * i0.size)
  generalize madeCells (Value.int .u8 0).cells ((((bs.length : Nat) : Int) + (wide : Int)).toNat * i0.size) = M at *
  rw [hz1, show (((bs.length : Nat) : Int) + (wide : Int)).toNat = bs.length + wide from by omega, Nat.mul_one] at hMs
  rw [show (((bs.length : Nat) : Int) + (wide : Int)).toNat = bs.length + wide from by omega] at hmk
  have B1 := Lib.hid (below_alloc w (.cells M 5))
  have G1 := Lib.hid (heap_alloc_new w (.cells M 5))
  have H1 := Lib.hid (h0.below (below_alloc w (.cells M 5)))
  have hMl : M.toList.length = bs.length + wide := by rw [Array.length_toList]; exact hMs
  have HY : Hid ((M.toList.drop bs.length).length = wide) := by
    show _ = _
    rw [List.length_drop]
    omega
  have hwn : IntKind.i64.wrap ((bs.length : Nat) + (wide : Int) - 1) = (bs.length : Nat) + (wide : Int) - 1 := IntWalk.i64_in _ (by omega)
  clear h0
  go_enter Tryz.func81, Tryz.ntmps81
  go_wp2_with (refine wpList_copy_splice rfl (.tmp 14) (.tmp 15) 61 61 rfl 5 Tryz.underlying61 (by rw [hi]; simp [hz1]) (some ⟨w.heap.size, 0, none⟩) a (bs.length + wide) (bs.length + wide) bs.length c (by first | rfl | simp [Act.eval]) (by first | rfl | simp [Act.eval]) w.heap.size 0 M.toList 5 (G1.out.trans (by rw [Array.toArray_toList])) (bytesV bs) (by rw [bytesV_len]; exact (Nat.min_eq_left (Nat.le_add_right _ _)).symm) (fun hp => ⟨rfl, put_src H1.out hp⟩) (by rw [bytesV_len, hMl]; omega) (bytes_one bs) w.heap.size w B1.out (Nat.le_refl _) ?_)
  intro w2 HG hb2
  have B2 := Lib.hid hb2
  have hsp : splice M.toList 0 (bytesV bs) = bytesV bs ++ ((M.toList.drop bs.length).take wide ++ bytesV ((big8 x).drop 8)) := by
    unfold splice
    rw [List.take_zero, List.nil_append, bytesV_len, Nat.zero_add, List.take_of_length_le (by rw [HY.out]; exact Nat.le_refl _)]
    show _ = bytesV bs ++ (M.toList.drop bs.length ++ [])
    rw [List.append_nil]
  have G2 := HG.out
  rw [hsp] at G2
  have HG2 := Lib.hid G2
  clear hsp HG G2 hb2 B1 G1 H1 HB hmk hMs hMl
  generalize M.toList.drop bs.length = Y at *
  go_wp2_with fail
  go_loopw [1, 8] (fun vv iv wr => ∃ k : Nat, k ≤ wide ∧ vv = .int .u64 (x / 256 ^ k : Nat) ∧ iv = .int .i64 (((bs.length + (wide - k) : Nat) : Int) - 1) ∧ Hid (wr.heap[w.heap.size]? = some (.cells (bytesV bs ++ (Y.take (wide - k) ++ bytesV ((big8 x).drop (8 - k)))).toArray 5 (0, 0))) ∧ Hid (Below w.heap.size w wr)) (fun _ iv _ => ((intOf iv) + 1).toNat)
  case atStart => exact ⟨0, by omega, by simp, by (try simp); (try omega), HG2.out, B2.out⟩
  case round =>
    obtain ⟨k, hk, rfl, rfl, HR, BR⟩ := hrel
    by_cases hlt : k < wide
    · obtain ⟨m, hm⟩ : ∃ m, wide - k = m + 1 := ⟨wide - k - 1, by omega⟩
      rw [hm] at HR
      rw [hm, show (((bs.length + (m + 1) : Nat) : Int) - 1) = ((bs.length + m : Nat) : Int) from by omega]
      have hmY : m < Y.length := by rw [HY.out]; omega
      obtain ⟨u0, hz⟩ : ∃ u, wr.cell? ⟨w.heap.size, bs.length + m, none⟩ = some u := by
        rw [cell_of_row HR.out]
        have : bs.length + m < (bytesV bs ++ (Y.take (m + 1) ++ bytesV ((big8 x).drop (8 - k)))).toArray.size := by
          rw [List.size_toArray, List.length_append, List.length_append, bytesV_len, List.length_take]
          omega
        exact ⟨_, Array.getElem?_eq_getElem this⟩
      have hf : wr.frozen? ⟨w.heap.size, bs.length + m, none⟩ = false := free_of_row HR.out
      have hpw : x / 256 ^ k = x / 2 ^ (8 * k) := by rw [Nat.pow_mul]
      have E := byt_wrap x (8 * k) ((x / 256 ^ k : Nat) : Int) (by rw [hpw])
      have hsh : ((x / 256 ^ k : Nat) : Int) / 256 = ((x / 256 ^ (k + 1) : Nat) : Int) := by
        rw [Nat.pow_succ, ← Nat.div_div_eq_div_mul]
        omega
      have hy2 : Hid (∀ z : Nat, (z : Int) = ((x / 256 ^ (k + 1) : Nat) : Int) → Value.int .u64 z = .int .u64 ((x / 256 ^ (k + 1) : Nat) : Int)) := fun z hz => by rw [hz]
      generalize hyy : x / 256 ^ (k + 1) = y' at hsh
      have HYY := Lib.hid hyy
      clear hpw hyy
      generalize x / 256 ^ k = y at *
      generalize hbt : (byt x (8 * k)).toNat = bt at *
      have N1 : Hid ((wr.setCell ⟨w.heap.size, bs.length + m, none⟩ (.int .u8 (bt : Nat))).heap[w.heap.size]? = some (.cells (bytesV bs ++ (Y.take (wide - (k + 1)) ++ bytesV ((big8 x).drop (8 - (k + 1))))).toArray 5 (0, 0))) := by
        show _ = _
        have h := set_block (j := bs.length + m) (u := .int .u8 (bt : Nat)) HR.out
        rw [show bs.length + m = (bytesV bs).length + m from by rw [bytesV_len], set_mid _ _ _ _ _ hmY] at h
        rw [show wide - (k + 1) = m from by omega, drop_step x k (by omega), show bs.length + m = (bytesV bs).length + m from by rw [bytesV_len]]
        rw [← hbt] at h ⊢
        exact h
      have N2 : Hid (Below w.heap.size w (wr.setCell ⟨w.heap.size, bs.length + m, none⟩ (.int .u8 (bt : Nat)))) := BR.out.setCell (Nat.le_refl _) _
      have hi1 : (bs.length : Int) + (m : Int) < (bs.length : Int) + (wide : Int) := by omega
      clear HR BR hbt
      go_wp2_with fail
      go_roundw
      case rel => exact ⟨k + 1, by omega, by rw [HYY.out], by (rw [show wide - (k + 1) = m from by omega]; go_num), N1.out, N2.out⟩
      case measure => simp [intOf]; omega
    · obtain rfl : k = wide := by omega
      rw [Nat.sub_self, List.take_zero, List.nil_append] at HR
      rw [show (((bs.length + (k - k) : Nat) : Int) - 1) = ((bs.length : Nat) : Int) - 1 from by omega]
      go_wp2_with fail
      go_ret
      refine ⟨_, rfl, ⟨?_, .inr ⟨w.heap.size, bs.length + k, _, rfl, Nat.le_refl _, HR.out, Nat.le_refl _, by unfold maxLen; omega, ?_, ?_⟩⟩, BR.out⟩
      · rw [bytesV_len, List.length_append, List.length_drop]
        show bs.length + (8 - (8 - k)) = _
        omega
      · rw [List.size_toArray, List.length_append, bytesV_len, bytesV_len, List.length_drop]
        show bs.length + (8 - (8 - k)) = _
        omega
      · rw [bytesV_app]
        show List.take _ (bytesV bs ++ bytesV _) = _
        rw [List.take_of_length_le]
        rw [List.length_append, bytesV_len, bytesV_len, List.length_drop]
        show bs.length + (8 - (8 - k)) ≤ _
        omega
theorem wuint_any (B : Nat) (v : Value) (bs : Bs) (x : Nat) (w : World) (hB : BytesAt B w v bs) (hl : bs.length ≤ 1000000) (hx : x < 18446744073709551616) :
    Calls Tryz.prog 53 #[v, .int .u64 x] w fun e w' => ∃ v', e = .returned v' ∧ BytesAt 0 w' v' (bs ++ big8 x) ∧ Below w.heap.size w w' := by
  have PX := Lib.hid (wput_any B v bs x 8 w hB hl hx (.inr rfl))
  clear hB
  go_enter Tryz.func53, Tryz.ntmps53
  go_wp2_with fail
  refine PX.out.mono ?_
  rintro e w1 ⟨v1, rfl, ho, hb⟩
  have H1 : Hid (BytesAt 0 w1 v1 (bs ++ big8 x)) := BytesAt.of_own (base := w.heap.size) (by rw [List.length_append]; exact ho)
  have B1 := Lib.hid hb
  clear ho hb
  go_wp2
  go_ret
  exact ⟨_, rfl, H1.out, B1.out⟩
def toU (v : Int) : Nat := (v % 18446744073709551616).toNat
theorem toU_lt (v : Int) : toU v < 18446744073709551616 := by unfold toU; omega
theorem wint_any (B : Nat) (v : Value) (bs : Bs) (x : Int) (w : World) (hB : BytesAt B w v bs) (hl : bs.length ≤ 1000000) :
    Calls Tryz.prog 54 #[v, .int .i64 x] w fun e w' => ∃ v', e = .returned v' ∧ BytesAt 0 w' v' (bs ++ big8 (toU x)) ∧ Below w.heap.size w w' := by
  have PX := Lib.hid (wuint_any B v bs (toU x) w hB hl (toU_lt x))
  have hw : IntKind.u64.wrap x = ((toU x : Nat) : Int) := by
    have e : IntKind.u64.wrap x = x % 18446744073709551616 := rfl
    rw [e]
    unfold toU
    omega
  clear hB
  go_enter Tryz.func54, Tryz.ntmps54
  go_wp2_with fail
  try rw [hw]
  refine PX.out.mono ?_
  rintro e w1 ⟨v1, rfl, hB, hb⟩
  have H1 := Lib.hid hB
  have B1 := Lib.hid hb
  clear hB hb
  go_wp2
  go_ret
  exact ⟨_, rfl, H1.out, B1.out⟩
set_option maxHeartbeats 1000000 in
theorem wtext_any (B C : Nat) (v t : Value) (bs ts : Bs) (w : World) (hB : BytesAt B w v bs) (hT : BytesAt C w t ts) (hl : bs.length ≤ 1000000) (hl2 : ts.length ≤ 1000000) :
    Calls Tryz.prog 55 #[v, t] w fun e w' => ∃ v', e = .returned v' ∧ BytesAt 0 w' v' (bs ++ (big8 ts.length).drop 4 ++ ts) ∧ Below w.heap.size w w' := by
  have PX := Lib.hid (wput_any B v bs ts.length 4 w hB hl (by omega) (.inl rfl))
  have HT := Lib.hid hT
  obtain ⟨a, c, rfl⟩ := hT.form
  have HN : Hid (a = none → ts.length = 0 ∧ c = 0) := fun e => by
    obtain ⟨a', c', h1, h2, h3⟩ := HT.out
    injection h1 with h1 _ h4
    subst h1 h4
    refine ⟨?_, h2 e⟩
    cases ts with
    | nil => rfl
    | cons x r => obtain ⟨g, o, h5, -⟩ := h3 0 (by simp); rw [e] at h5; cases h5
  obtain ⟨i0, hi, hz0, hz1, hz2⟩ := info_parts infoB
  clear hB hT
  go_enter Tryz.func55, Tryz.ntmps55
  go_wp2_with fail
  refine PX.out.mono ?_
  rintro e w1 ⟨v1, rfl, ho, hb⟩
  have O1 := Lib.hid ho
  have B1 := Lib.hid hb
  have T1 := Lib.hid (HT.out.below hb)
  clear ho hb PX
  cases a with
  | none =>
    obtain ⟨hz, rfl⟩ := HN.out rfl
    obtain rfl : ts = [] := List.eq_nil_of_length_eq_zero hz
    go_wp2_with (at_builtin; refine wpList_append_own_none rfl (.tmp 9) (.tmp 10) 61 rfl w.heap.size 5 i0 1 Tryz.underlying61 hi _ _ _ rfl O1.out rfl ?_)
    go_ret
    refine ⟨_, rfl, ?_, B1.out⟩
    rw [List.append_nil]
    exact BytesAt.of_own (base := w.heap.size) (by rw [List.length_append, List.length_drop]; exact O1.out)
  | some ad =>
    go_wp2_with (at_builtin; refine wpList_append_own _ rfl (.tmp 9) (.tmp 10) 61 rfl w.heap.size 5 i0 _ 1 1 Tryz.underlying61 hi hz0 hz1 hz2 rfl (by decide) _ _ _ rfl O1.out ad ts.length c (bytesV ts) rfl (by rw [bytesV_len, Nat.mul_one]) (bytes_src T1.out) (bytes_one ts) (by unfold maxLen; omega) (by omega) B1.out.size ?_)
    intro v2 w2 hown hgr _
    have H2 : Hid (BytesAt 0 w2 v2 (bs ++ (big8 ts.length).drop 4 ++ ts)) := BytesAt.of_own (base := w.heap.size) (by rw [bytesV_app, List.length_append, List.length_append, List.length_drop]; exact hown)
    have B2 := Lib.hid (B1.out.grown hgr B1.out.size (fun k hk => (O1.out.lt k hk).1))
    clear hown hgr
    go_wp2
    go_ret
    exact ⟨_, rfl, H2.out, B2.out⟩
end Go.Proofs.YtecbnhmnhcpcmaaGreatDoor
