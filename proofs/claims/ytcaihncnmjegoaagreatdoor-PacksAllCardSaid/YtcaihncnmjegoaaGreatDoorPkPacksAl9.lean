/- The walk of (*kv.Mem).Range: pairs in the order of their keys; of Commit and Abort. The walks of maps.Clone, and of a store's Commit and Abort. The walk of the law JournalRefuses. The walks of kv.Scan: pairs of a prefix. -/
import Derived.Test.YtcaihncnmjegoaaGreatDoorPkPacksAl8
import Derived.Sort.KeysCollected
import Derived.Sort.OwnSorted
import Derived.Maps.RangeWalk
import Derived.Shelf.SlMaps.Clone
/-! The walk of (*kv.Mem).Range: pairs in the order of their keys; of Commit and Abort. -/
namespace Go.Proofs.YtcaihncnmjegoaaGreatDoor
open Go.RowKit Go.WideMaps Go.Maps Go.Sort
set_option linter.unusedVariables false
set_option linter.unusedSimpArgs false
set_option maxRecDepth 100000
/-- keys from f on, up to t if there is one -/
def inR (f t k : Bs) : Bool := !Op.bytesLess k f && (decide (t = []) || Op.bytesLess k t)
noncomputable def keysR (D : DM) (f t : Bs) : List Bs := ((strKeys D).filter (inR f t)).mergeSort leB
noncomputable def pairsR (D : DM) (f t : Bs) : List (Bs × Bs) := (keysR D f t).map fun k => (k, at0 D k)
/-- a slice no longer than its room -/
def Roomy (v : Value) : Prop := ∃ a n c, v = .slice a n c ∧ n ≤ c
/-- pairs of bytes in memory -/
def PairsAt (w : World) (v : Value) (L : List (Bs × Bs)) : Prop :=
  ∃ vs : List (Value × Value), vs.length = L.length ∧ RowsIn w v 2 (vs.map fun x => [x.1, x.2]) ∧ ∀ (i : Nat) (x : Value × Value) (y : Bs × Bs), vs[i]? = some x → L[i]? = some y → BytesAt 0 w x.1 y.1 ∧ BytesAt 0 w x.2 y.2 ∧ Roomy x.1
theorem PairsAt.below {w w' : World} {v : Value} {L : List (Bs × Bs)} (h : PairsAt w v L) (hb : Below w.heap.size w w') : PairsAt w' v L := by
  obtain ⟨vs, h1, h2, h3⟩ := h
  exact ⟨vs, h1, h2.below hb, fun i x y hx hy => ⟨(h3 i x y hx hy).1.below hb, (h3 i x y hx hy).2.1.below hb, (h3 i x y hx hy).2.2⟩⟩
theorem PairsAt.slice {w : World} {v : Value} {L : List (Bs × Bs)} (h : PairsAt w v L) : ∃ a c, v = .slice a L.length c := by
  obtain ⟨vs, h1, h2, -⟩ := h
  obtain ⟨a, c, e, -, -⟩ := rows_form h2
  rw [List.length_map, h1] at e
  exact ⟨a, c, e⟩
theorem key_str' (s : Bs) (hs : s.length ≤ maxLen) : keyOf Tryz.prog 9 (.string ⟨s.toArray⟩) = some (.string s) := by
  have := keyOf_string_mk (P := Tryz.prog) (k := 9) Tryz.underlying9 (s := ⟨s.toArray⟩) (by simpa [ByteArray.size] using hs)
  exact this
theorem OwnM.look2 {w : World} {b n : Nat} {D : DM} (h : OwnM w b n D) (k : Bs) (hk : k.length ≤ maxLen) :
    (Instr.lookup 55 (.map (some b)) (.string ⟨k.toArray⟩) false).run Tryz.prog w = .ok (.string ⟨(at0 D k).toArray⟩) w := by
  obtain ⟨v, ps, hrun, hR⟩ := h.lookup keyStr Tryz.underlying55 (zeroStr w) (zd := noStr) (zp := []) (by have := plainElem_string (H := Unit) (P := Tryz.prog) Tryz.underlying9 (s := ⟨#[]⟩) (by unfold maxLen; decide); exact this) (key_str' k hk)
  obtain ⟨s, rfl, hz, hs⟩ := plainElem_string_inv hR
  injection hz with hz _
  have e : at0 D k = s.data.toList := by unfold at0; rw [hz]; rfl
  rw [e]
  exact hrun
theorem infoStr : (Tryz.prog.info? 9).map (fun i => (i.zero, i.size, i.bytes)) = some (some (.string ⟨#[]⟩), 1, 16) := by kernel_rfl
theorem infoPair : (Tryz.prog.info? 77).map (fun i => (i.zero, i.size, i.bytes)) = some (some (.agg #[.slice none 0 0, .slice none 0 0]), 2, 48) := by kernel_rfl
theorem own_atR {w : World} {base n k : Nat} {e : TypeId} {v x : Value} {xs : List Value} (h : w.ownsRow base e 1 v n xs) (hx : xs[k]? = some x) : ∃ g cap, v = .slice (some ⟨g, 0, none⟩) n cap ∧ w.cell? ⟨g, k, none⟩ = some x := by
  have hk : k < xs.length := by
    rcases Nat.lt_or_ge k xs.length with h | h
    · exact h
    · rw [List.getElem?_eq_none h] at hx; cases hx
  obtain ⟨hl, ⟨-, rfl⟩ | ⟨g, cap, cur, h1, h2, h3, h4, h5, h6, h7⟩⟩ := h
  · omega
  · refine ⟨g, cap, h1, ?_⟩
    rw [cell_of_row h3, ← hx, ← h7, List.getElem?_take_of_lt (by omega)]
    simp
/-- the sort, of what a call owns -/
theorem sort_own {w : World} {base : Nat} {v : Value} {ss : List Bs} (h : w.ownsRow base 9 1 v ss.length (ss.map encStr)) (hs : ss.length < 1000000) : Calls Tryz.prog 144 #[v] w fun e w' => e = .returned (.tuple #[]) ∧ w'.ownsRow base 9 1 v ss.length ((ss.mergeSort leB).map encStr) ∧ w.grownBy w' v.ownBlock := by
  rcases h.2 with ⟨rfl, h0⟩ | ⟨g, cap, cur, rfl, hbase, hb, h1, h2, h3, h4⟩
  · refine (Tryz.slices_Sort_string_none none 0 w).mono ?_
    rintro e w' ⟨he, rfl⟩
    have e0 : ss = [] := List.eq_nil_of_length_eq_zero h0
    subst e0
    exact ⟨he, by simpa using h, World.grownBy.refl _ _⟩
  · refine (Tryz.slices_Sort_string g 0 cap ss w (holds_of_block hb (by simpa using h4)) (lt_of_block hb) (by omega)).mono ?_
    rintro e w' ⟨he, n, os, rfl⟩
    exact ⟨he, ownsRow_sorted (by simp) hbase hb h1 h2 h3, grownBy_sorted _⟩
theorem bytes_grown {w w' : World} {v u : Value} {bs : Bs} {base m size : Nat} {T : TypeId} {xs : List Value} (h : BytesAt 0 w u bs) (ho : w.ownsRow base T size v m xs) (hT : T ≠ 5) (hg : w.grownBy w' v.ownBlock) : BytesAt 0 w' u bs := by
  obtain ⟨a, c, rfl, h0, hx⟩ := h
  refine ⟨a, c, rfl, h0, fun i hi => ?_⟩
  obtain ⟨b, o, e, hc, hor⟩ := hx i hi
  rcases hor with h1 | ⟨cs, fr, hb⟩
  · omega
  have hne : some b ≠ v.ownBlock := fun e1 => by
    rcases ho.2 with ⟨rfl, -⟩ | ⟨g, cap, cur, rfl, -, hg3, -⟩
    · cases e1
    · injection e1 with e1
      have e2 : b = g := e1
      subst e2
      rw [hb] at hg3
      injection hg3 with hg3
      injection hg3 with _ hT2 _
      exact hT hT2.symm
  exact ⟨b, o, e, hg.cell hc hne, .inr ⟨cs, fr, (hg.block b (lt_of_block hb) hne).trans hb⟩⟩
def RangeEnd (D : DM) (f t : Bs) (w : World) (e : Ending) (w' : World) : Prop := ∃ v, e = .returned (.tuple #[v, .int .i64 0]) ∧ PairsAt w' v (pairsR D f t) ∧ Below w.heap.size w w'
set_option maxHeartbeats 1000000 in
theorem range_any {p b1 b2 n : Nat} {room : Int} {D D2 : DM} (w : World) (hM : MemS w p b1 b2 room n D D2) (hn : n < 1000000) (fv tv : Value) (f t : Bs) {B C : Nat} (hf : BytesAt B w fv f) (ht : BytesAt C w tv t) : Calls Tryz.prog 143 #[.pointer (some ⟨p, 0, none⟩), fv, tv] w (RangeEnd D f t w) := by
  have HM := Lib.hid hM
  have HF := Lib.hid hf
  have HT := Lib.hid ht
  have HN := Lib.hid hn
  obtain ⟨c0, c1, -⟩ := box3c hM.box
  have hown := hM.now
  have hbl := hown.lt
  have hsz : size D ≤ n := hown.size_le
  obtain ⟨fa, fc, rfl⟩ := hf.form
  obtain ⟨ta, tc, rfl⟩ := ht.form
  obtain ⟨i0, hi, hz0, hz1, hz2⟩ := info_parts infoStr
  clear hf ht hM
  go_enter Tryz.func143, Tryz.ntmps143
  go_wp2_with (first | (at_range; refine wpList_range_own _ rfl _ 55 rfl 9 9 keyStr Tryz.underlying55 _ b1 n D rfl hown ?_; intro w0 hrg0 hg0 hs0) | fail)
  go_frame
  go_loopw [8] (fun v wr => ∃ (left : Lit → Bool) (cnt : Nat) (ss : List Bs), wr.ranges Tryz.prog 9 (plainElem Tryz.prog 9) b1 w.heap.size n D left cnt ∧ ss.length + cnt ≤ size D ∧ wr.ownsRow w.heap.size 9 1 v (ss.filter (inR f t)).length ((ss.filter (inR f t)).map encStr) ∧ Collected D left ss ∧ Below w.heap.size w wr) (fun _ wr => wr.rangeLeft b1 w.heap.size)
  case atStart => exact ⟨_, _, [], hrg0, by simp, World.ownsRow_nil _ _ _ _, Collected.start D, (Below.refl _ _).grown hg0 (Nat.le_refl _) (fun j hj => by cases hj)⟩
  case round =>
    obtain ⟨left, cnt, ss, hrg, hcs, hrow, hC, hnx⟩ := hrel
    have INVV : ∀ v (y : DM × List MemPlace), plainElem Tryz.prog 9 v = some y → ∃ c, v = encStr c := fun v y hv => by obtain ⟨s, hs, _⟩ := plainElem_string_inv hv; exact ⟨s.data.toList, hs⟩
    have INVK : ∀ key kl, keyOf Tryz.prog 9 key = some kl → ∃ x, key = encStr x := fun key kl hk => by obtain ⟨x, hx, _⟩ := Maps.keyOf_str Tryz.underlying9 hk; exact ⟨x, hx⟩
    go_wp2_with (at_next; refine wpList_next_ranges wr rfl _ rfl 9 keyStr (plainElem Tryz.prog 9) encStr encStr INVK INVV b1 w.heap.size n D left cnt rfl hrg ?_ ?_)
    · intro hc0 hl0
      have hP : ss.Perm (strKeys D) := hC.perm hown keyStr Tryz.underlying9 hl0
      have hK : (ss.filter (inR f t)).mergeSort leB = keysR D f t := mergeSort_of_perm (hP.filter _)
      have hlen : (ss.filter (inR f t)).length ≤ ss.length := List.length_filter_le _ _
      have hKl : (keysR D f t).length = (ss.filter (inR f t)).length := by rw [← hK, List.length_mergeSort]
      have hKm : ∀ k ∈ keysR D f t, k.length ≤ maxLen := fun k hk => by
        have h1 : k ∈ (strKeys D).filter (inR f t) := List.mem_mergeSort.1 hk
        exact strKeys_le hown Tryz.underlying9 k (List.mem_filter.1 h1).1
      have SX := Lib.hid (sort_own hrow (by omega))
      rw [hK, ← hKl] at SX
      have hlt8 := hrow.lt
      have hne8 := row_ne_low hrow hbl
      have MO := hrg.owns
      have HNX := Lib.hid hnx
      have HCS : Hid ((keysR D f t).length ≤ n) := by show _ ≤ _; omega
      have HKM := Lib.hid hKm
      clear hP hK hlen hKl hKm hC hcs hrg hrow hown hnx hc0 hl0 INVK INVV hrg0 hg0 hs0 hi hz0 hz1 hz2
      go_wp2_with fail
      refine SX.out.mono ?_
      rintro e w3 ⟨rfl, ho3, hg3⟩
      have B3 := Lib.hid (HNX.out.grown hg3 HNX.out.size (fun k hk => (hlt8 k hk).1))
      have M3 : Hid (OwnM w3 b1 n D) := MO.kept hg3 hne8
      have O3 := Lib.hid ho3
      have hp1 := stays B3.out c1
      have C3 := Lib.hid hp1
      clear SX hg3 hlt8 hne8 MO c0 c1
      obtain ⟨ka, kc, rfl⟩ := jown_form ho3
      clear ho3
      obtain ⟨i0, hi, hz0, hz1, hz2⟩ := info_parts infoPair
      have HPR : Hid (pairsR D f t = (keysR D f t).map fun k => (k, at0 D k)) := rfl
      generalize keysR D f t = K at *
      go_wp2_with fail
      go_loopw [10, 47] (fun ov iv wr => ∃ (j : Nat) (vs : List (Value × Value)), j ≤ K.length ∧ iv = .int .i64 j ∧ vs.length = j ∧ Hid (wr.ownsRow w3.heap.size 77 2 ov j ((vs.map fun x => [x.1, x.2]).flatten)) ∧ Hid (∀ (i : Nat) (x : Value × Value) (k : Bs), vs[i]? = some x → K[i]? = some k → BytesAt 0 wr x.1 k ∧ BytesAt 0 wr x.2 (at0 D k) ∧ Roomy x.1) ∧ Hid (Below w3.heap.size w3 wr)) (fun _ iv _ => K.length - (intOf iv).toNat)
      case atStart => exact ⟨0, [], by omega, rfl, rfl, World.ownsRow_nil _ _ _ _, fun i x k hx => by simp at hx, Below.refl _ _⟩
      case round =>
        obtain ⟨j, vs, hj, rfl, hvl, OR, AR, BR⟩ := hrel
        by_cases hlt : j < K.length
        · have hz : (j : Int) < (K.length : Int) := by omega
          have hkj : K[j]? = some K[j] := List.getElem?_eq_getElem hlt
          have hkm := HKM.out K[j] (List.getElem_mem hlt)
          generalize K[j] = kk at *
          have hcell : (K.map encStr)[j]? = some (encStr kk) := by rw [List.getElem?_map, hkj]; rfl
          obtain ⟨g, cap, e1, x0⟩ := own_atR (ownsRow_below O3.out BR.out) hcell
          injection e1 with e1 _ e2
          subst e1
          subst e2
          have KJ := Lib.hid hkj
          obtain ⟨s, hs⟩ : ∃ s : ByteArray, s = ⟨kk.toArray⟩ := ⟨_, rfl⟩
          have hsl : s.data.toList = kk := by rw [hs]
          replace x0 : wr.cell? ⟨g, j, none⟩ = some (.string s) := by rw [hs]; exact x0
          obtain ⟨wa, hwa⟩ : ∃ W, W = Lib.bytesWorld wr 5 s := ⟨_, rfl⟩
          obtain ⟨ca, hca⟩ : ∃ c, c = grownCap wr s.size 0 5 := ⟨_, rfl⟩
          have S1 := string_bytes wr s
          have BA : Below wr.heap.size wr wa := by rw [hwa]; exact below_bytes wr s
          have XA : BytesAt 0 wa (.slice (some ⟨wr.heap.size, 0, none⟩) s.size ca) kk := by rw [hwa, ← hsl]; exact bytesWorld_at wr s ca
          have HCA : Hid (s.size ≤ ca) := by rw [hca]; exact grownCap_ge _ _ _ _
          rw [← hwa, ← hca] at S1
          have MA : OwnM wa b1 n D := M3.out.same ((onward BA BR.out).block _ M3.out.lt)
          have LK := MA.look2 kk hkm
          rw [← hs] at LK
          obtain ⟨s2, hs2⟩ : ∃ s2 : ByteArray, s2 = ⟨(at0 D kk).toArray⟩ := ⟨_, rfl⟩
          have hsl2 : s2.data.toList = at0 D kk := by rw [hs2]
          rw [← hs2] at LK
          obtain ⟨wb, hwb⟩ : ∃ W, W = Lib.bytesWorld wa 5 s2 := ⟨_, rfl⟩
          obtain ⟨cb, hcb⟩ : ∃ c, c = grownCap wa s2.size 0 5 := ⟨_, rfl⟩
          have S2 := string_bytes wa s2
          have BB : Below wa.heap.size wa wb := by rw [hwb]; exact below_bytes wa s2
          have XB : BytesAt 0 wb (.slice (some ⟨wa.heap.size, 0, none⟩) s2.size cb) (at0 D kk) := by rw [hwb, ← hsl2]; exact bytesWorld_at wa s2 cb
          rw [← hwb, ← hcb] at S2
          have k1 := stays (onward BA BR.out) C3.out
          have XA2 := Lib.hid (XA.below BB)
          have XB2 := Lib.hid XB
          have BW := Lib.hid (onward BB (onward BA BR.out))
          have OW := Lib.hid ((ownsRow_below (ownsRow_below OR.out BA) BB).alloc (.cells #[.slice (some ⟨wr.heap.size, 0, none⟩) s.size ca, .slice (some ⟨wa.heap.size, 0, none⟩) s2.size cb] 77))
          have AW : Hid (∀ (i : Nat) (x : Value × Value) (k : Bs), vs[i]? = some x → K[i]? = some k → BytesAt 0 wb x.1 k ∧ BytesAt 0 wb x.2 (at0 D k) ∧ Roomy x.1) := fun i x k hx hk => ⟨((AR.out i x k hx hk).1.below BA).below BB, ((AR.out i x k hx hk).2.1.below BA).below BB, (AR.out i x k hx hk).2.2⟩
          have hsw := BW.out.size
          clear hs hsl hwa hca XA BA MA hs2 hsl2 hwb hcb BB XB hkm hkj hcell OR AR
          generalize wr.heap.size = ga at *
          generalize wa.heap.size = gb at *
          go_wp2_with (at_builtin; refine wpList_append_own _ rfl (.tmp 51) (.tmp 62) 73 rfl w3.heap.size 77 i0 _ 2 48 Tryz.underlying73 hi hz0 hz1 hz2 rfl (by decide) _ _ _ rfl OW.out ⟨wb.heap.size, 0, none⟩ 1 1 [.slice (some ⟨ga, 0, none⟩) s.size ca, .slice (some ⟨gb, 0, none⟩) s2.size cb] rfl rfl (new_cells _ _ _) (fun u hu => by simp at hu; rcases hu with rfl | rfl <;> rfl) (by unfold maxLen; have := HCS.out; omega) (by have := HCS.out; omega) (by simp; omega) ?_)
          intro v4 w4 hown4 hg4 _
          have B4 : Hid (Below w3.heap.size w3 w4) := (onward (below_alloc _ _) BW.out).grown hg4 (by simp; omega) (fun k hk => (OW.out.lt k hk).1)
          have A4 : Hid (∀ (i : Nat) (x : Value × Value) (k : Bs), (vs ++ [((Value.slice (some ⟨ga, 0, none⟩) s.size ca, Value.slice (some ⟨gb, 0, none⟩) s2.size cb) : Value × Value)])[i]? = some x → K[i]? = some k → BytesAt 0 w4 x.1 k ∧ BytesAt 0 w4 x.2 (at0 D k) ∧ Roomy x.1) := fun i x k hx hk => by
            rcases Nat.lt_or_ge i vs.length with hi | hi
            · rw [List.getElem?_append_left hi] at hx
              exact ⟨bytes_grown ((AW.out i x k hx hk).1.below (below_alloc _ _)) OW.out (by decide) hg4, bytes_grown ((AW.out i x k hx hk).2.1.below (below_alloc _ _)) OW.out (by decide) hg4, (AW.out i x k hx hk).2.2⟩
            · rw [List.getElem?_append_right hi] at hx
              have hi0 : i - vs.length = 0 := by
                rcases Nat.eq_zero_or_pos (i - vs.length) with h | h
                · exact h
                · rw [List.getElem?_eq_none (by simp; omega)] at hx; cases hx
              rw [hi0] at hx
              obtain rfl := Option.some.inj hx
              have hij : i = j := by omega
              subst hij
              rw [KJ.out] at hk
              obtain rfl := Option.some.inj hk
              exact ⟨bytes_grown (XA2.out.below (below_alloc _ _)) OW.out (by decide) hg4, bytes_grown (XB2.out.below (below_alloc _ _)) OW.out (by decide) hg4, ⟨_, _, _, rfl, HCA.out⟩⟩
          have O4 : Hid (w4.ownsRow w3.heap.size 77 2 v4 (j + 1) (((vs ++ [((Value.slice (some ⟨ga, 0, none⟩) s.size ca, Value.slice (some ⟨gb, 0, none⟩) s2.size cb) : Value × Value)]).map fun x => [x.1, x.2]).flatten)) := by rw [List.map_append, List.flatten_append]; exact hown4
          have hcs := HCS.out
          clear hown4 hg4 S1 S2 LK k1 x0 hsw
          go_wp2_with fail
          go_roundw
          case rel => exact ⟨j + 1, _, by omega, by go_num, by rw [List.length_append, hvl]; rfl, O4.out, A4.out, B4.out⟩
          case measure => simp [intOf]; omega
        · have dk : decide ((j : Int) < ((K.length : Nat) : Int)) = false := decide_eq_false (by omega)
          have hje : j = K.length := by omega
          have PA : Hid (PairsAt wr u10 (pairsR D f t)) := by
            rw [HPR.out]
            refine ⟨vs, by rw [List.length_map]; omega, jrows_own (base := w3.heap.size) (e := 77) (fun r hr => by obtain ⟨x, -, rfl⟩ := List.mem_map.1 hr; rfl) (by rw [List.length_map, hvl]; exact OR.out), fun i x y hx hy => ?_⟩
            rw [List.getElem?_map] at hy
            obtain ⟨k, hk, rfl⟩ := Option.map_eq_some_iff.1 hy
            exact AR.out i x k hx hk
          clear hje
          go_wp2_with fail
          go_ret2
          exact ⟨_, rfl, PA.out, onward BR.out B3.out⟩
    · intro x cx kl yd yp w2 cnt2 hkey hlk hv hat hrg2 hlt hg2 hs2 hen
      obtain ⟨x', ex, rfl, hxl⟩ := Maps.keyOf_str Tryz.underlying9 hkey
      obtain rfl : x = x' := encStr_inj ex
      have hB2 : Below w.heap.size w w2 := hnx.grown hg2 hnx.size (fun j hj => by cases hj; exact Nat.le_refl _)
      have CF := conv_bytes (HF.out.below hB2)
      have CT := conv_bytes (HT.out.below hB2)
      have hrow2 := hrow.kept hg2 (Or.inr (row_ne_iter hrow hrg).symm)
      have hC2 := hC.step hlk hat
      have hme : w2.rangeLeft b1 w.heap.size < wr.rangeLeft b1 w.heap.size := by rw [hrg2.left_eq, hrg.left_eq]; exact hlt
      have hs22 := hB2.size
      have hfl : (ss.filter (inR f t)).length ≤ ss.length := List.length_filter_le _ _
      clear hs2 INVK INVV
      have hsplit : (inR f t x = false ∧ (Op.bytesLess x f = true ∨ Op.bytesLess x f = false ∧ (t.length : Int) ≠ 0 ∧ Op.bytesLess x t = false)) ∨ (inR f t x = true ∧ Op.bytesLess x f = false ∧ ((t.length : Int) = 0 ∨ (t.length : Int) ≠ 0 ∧ Op.bytesLess x t = true)) := by
        unfold inR
        cases Op.bytesLess x f <;> cases Op.bytesLess x t <;> cases t <;> simp <;> omega
      rcases hsplit with ⟨hin, hsp⟩ | ⟨hin, h1, hsp⟩
      · have hft : (ss ++ [x]).filter (inR f t) = ss.filter (inR f t) := by rw [List.filter_append, List.filter_cons_of_neg (by simpa using hin)]; simp
        rcases hsp with h1 | ⟨h1, h2, h3⟩ <;>
        · go_wp2_with fail
          go_roundw
          case rel => exact ⟨_, cnt2, ss ++ [x], hrg2, by simp; omega, by rw [hft]; exact hrow2, hC2, hB2⟩
          case measure => exact hme
      · have hft : (ss ++ [x]).filter (inR f t) = ss.filter (inR f t) ++ [x] := by rw [List.filter_append, List.filter_cons_of_pos hin]; rfl
        rcases hsp with h2 | ⟨h2, h3⟩ <;>
        · go_wp2_with (at_builtin; refine wpList_append_own _ rfl (.tmp 39) (.tmp 41) 132 rfl w.heap.size 9 i0 _ 1 16 Tryz.underlying132 hi hz0 hz1 hz2 rfl (by decide) _ _ _ rfl (hrow2.alloc _) ⟨w2.heap.size, 0, none⟩ 1 1 [encStr x] rfl rfl (new_cells _ _ _) (fun u hu => by simp at hu; subst hu; rfl) (by unfold maxLen; omega) (by omega) (by simp; omega) ?_)
          intro v3 w4 hown3 hg3 _
          have hrg3 := (hrg2.alloc (.cells #[encStr x] 9)).kept hg3 (row_ne_low hrow2 hbl) (row_ne_iter hrow2 hrg2)
          have hB4 : Below w.heap.size w w4 := (onward (below_alloc _ _) hB2).grown hg3 (by simp; omega) (fun k hk => (hrow2.lt k hk).1)
          have hme4 : w4.rangeLeft b1 w.heap.size < wr.rangeLeft b1 w.heap.size := by rw [hrg3.left_eq, hrg.left_eq]; exact hlt
          have ho4 : w4.ownsRow w.heap.size 9 1 v3 ((ss ++ [x]).filter (inR f t)).length (((ss ++ [x]).filter (inR f t)).map encStr) := by rw [hft, List.length_append, List.map_append]; exact hown3
          clear hme hown3 hg3
          go_wp2_with fail
          go_roundw
          case rel => exact ⟨_, cnt2, ss ++ [x], hrg3, by simp; omega, ho4, hC2, hB4⟩
          case measure => exact hme4
end Go.Proofs.YtcaihncnmjegoaaGreatDoor

/-! The walks of maps.Clone, and of a store's Commit and Abort. -/
namespace Go.Proofs.YtcaihncnmjegoaaGreatDoor
open Go.RowKit Go.WideMaps Go.Maps
set_option linter.unusedVariables false
set_option linter.unusedSimpArgs false
set_option maxRecDepth 100000
theorem grown_set {w w1 : World} {p k : Nat} {u : Value} (h : Below w.heap.size w w1) : w.grownBy (w1.setCell ⟨p, k, none⟩ u) (some p) := by
  have k2 := Kept.setCell (S := fun k => k = p) w1 ⟨p, k, none⟩ u rfl
  refine ⟨k2.os.trans h.os, k2.tape.trans h.tape, k2.output.trans h.output, Nat.le_trans h.size k2.size, fun i hi hne => ?_⟩
  rw [k2.block i (Nat.lt_of_lt_of_le hi h.size) (fun e => hne (by rw [e]))]
  exact h.block i hi
theorem nil_bytes (w : World) : BytesAt 0 w (.slice none 0 0) [] := ⟨none, 0, rfl, fun _ => rfl, fun i hi => by simp at hi⟩
end Go.Proofs.YtcaihncnmjegoaaGreatDoor

/-! The walk of the law JournalRefuses. -/
namespace Go.Proofs.YtcaihncnmjegoaaGreatDoor
open Go.RowKit Go.WideMaps Go.Maps
set_option linter.unusedVariables false
set_option linter.unusedSimpArgs false
set_option maxRecDepth 100000
theorem PairsAt.turned {b : Nat} {w w' : World} {v : Value} {L : List (Bs × Bs)} (h : PairsAt w v L) (ht : Turned b w w') : PairsAt w' v L := by
  obtain ⟨vs, h1, h2, h3⟩ := h
  exact ⟨vs, h1, ht.rows h2 (fun r hr => by obtain ⟨x, -, rfl⟩ := List.mem_map.1 hr; rfl), fun i x y hx hy => ⟨ht.bytes (h3 i x y hx hy).1, ht.bytes (h3 i x y hx hy).2.1, (h3 i x y hx hy).2.2⟩⟩
theorem PairsAt.at {w : World} {v : Value} {L : List (Bs × Bs)} {j : Nat} {y : Bs × Bs} (h : PairsAt w v L) (hy : L[j]? = some y) : ∃ g o c x1 x2, v = .slice (some ⟨g, o, none⟩) L.length c ∧ w.cell? ⟨g, o + j * 2, none⟩ = some x1 ∧ w.cell? ⟨g, o + j * 2 + 1, none⟩ = some x2 ∧ BytesAt 0 w x1 y.1 ∧ BytesAt 0 w x2 y.2 ∧ Roomy x1 := by
  have hj : j < L.length := by
    rcases Nat.lt_or_ge j L.length with h | h
    · exact h
    · rw [List.getElem?_eq_none h] at hy; cases hy
  obtain ⟨a, c, e⟩ := h.slice
  subst e
  obtain ⟨vs, h1, h2, h3⟩ := h
  have hx : vs[j]? = some vs[j] := List.getElem?_eq_getElem (by omega)
  obtain ⟨h4, h5, h6⟩ := h3 j _ y hx hy
  obtain ⟨g, o, rfl, hc⟩ := rows_cell h2 j (by rw [List.length_map]; omega)
  have er : (vs.map fun x => [x.1, x.2]).getD j [] = [vs[j].1, vs[j].2] := by rw [List.getD_eq_getElem?_getD, List.getElem?_map, hx]; rfl
  rw [er] at hc
  exact ⟨g, o, c, _, _, rfl, hc 0 (by omega), by rw [Nat.add_assoc]; exact hc 1 (by omega), h4, h5, h6⟩
end Go.Proofs.YtcaihncnmjegoaaGreatDoor

/-! The walks of kv.Scan: pairs of a prefix. -/
namespace Go.Proofs.YtcaihncnmjegoaaGreatDoor
open Go.RowKit Go.WideMaps Go.Maps
set_option linter.unusedVariables false
set_option linter.unusedSimpArgs false
set_option maxRecDepth 100000
theorem bytes_in {B : Nat} {w : World} {a : Option Addr} {n c : Nat} {bs : Bs} (h : BytesAt B w (.slice a n c) bs) : bs.length = n ∧ Lib.BytesIn w a n (bs.map fun x => (x.toNat : Int)) := by
  obtain ⟨a', c', e, -, hx⟩ := h
  injection e with e1 e2 _
  subst e1
  subst e2
  refine ⟨rfl, fun hn => ?_⟩
  obtain ⟨b, o, e, -, -⟩ := hx 0 hn
  refine ⟨b, o, e, fun i hi => ?_⟩
  obtain ⟨b', o', e', hc, -⟩ := hx i hi
  rw [e] at e'
  injection e' with e'
  injection e' with e1 e2 _
  subst e1
  subst e2
  rw [hc]
  congr 2
  simp [List.getD, hi]
theorem bytes_of (bs : Bs) : Lib.bytesOf (bs.map fun x => (x.toNat : Int)) = bs := by
  unfold Lib.bytesOf
  rw [List.map_map]
  conv => rhs; rw [← List.map_id bs]
  exact List.map_congr_left fun x _ => by simp
theorem hasp_any {x pv : Value} {k f : Bs} (w : World) (h1 : BytesAt 0 w x k) (hr : Roomy x) (h2 : BytesAt 0 w pv f) : Calls Tryz.prog 41 #[x, pv] w fun e w' => e = .returned (.bool (f.isPrefixOf k)) ∧ w' = w := by
  obtain ⟨a, n, c, rfl, hc⟩ := hr
  obtain ⟨pa, pc, rfl⟩ := h2.form
  obtain ⟨l1, i1⟩ := bytes_in h1
  obtain ⟨l2, i2⟩ := bytes_in h2
  have := Tryz.bytes_HasPrefix_all a pa n c f.length pc _ _ w (by rw [List.length_map]; exact l1) (by rw [List.length_map]) hc i1 i2
  rw [bytes_of, bytes_of] at this
  exact this
set_option maxHeartbeats 1000000 in
theorem scan1_any {x y pv : Value} {k f : Bs} {g : Nat} (w : World) (hg : w.cell? ⟨g, 0, none⟩ = some pv) (h1 : BytesAt 0 w x k) (hr : Roomy x) (h2 : BytesAt 0 w pv f) : Calls Tryz.prog 40 #[.agg #[x, y], .pointer (some ⟨g, 0, none⟩)] w fun e w' => e = .returned (.bool (!f.isPrefixOf k)) ∧ Below w.heap.size w w' := by
  have hb := below_alloc w (.cells #[x, y] 77)
  have BX := Lib.hid hb
  have HX := Lib.hid (hasp_any _ (h1.below hb) hr (h2.below hb))
  have hg2 := stays hb hg
  generalize f.isPrefixOf k = bb at *
  clear h1 h2 hb hg hr
  go_enter Tryz.func40, Tryz.ntmps40
  go_wp2_with fail
  refine HX.out.mono ?_
  rintro e w1 ⟨rfl, rfl⟩
  clear HX
  go_wp2_with fail
  go_ret
  exact ⟨by cases bb <;> rfl, BX.out⟩
/-- pairs whose keys begin so -/
noncomputable def scanL (D : DM) (f : Bs) : List (Bs × Bs) := (pairsR D f []).takeWhile fun y => f.isPrefixOf y.1
theorem while_at : ∀ {α : Type} (p : α → Bool) (L : List α) (j : Nat), (∀ i y, i < j → L[i]? = some y → p y = true) → (∀ y, L[j]? = some y → p y = false) → L.takeWhile p = L.take j
  | α, p, [], j, _, _ => by simp
  | α, p, x :: r, 0, _, h => by
    have := h x rfl
    rw [List.takeWhile_cons_of_neg (by rw [this]; decide)]
    rfl
  | α, p, x :: r, j + 1, h1, h2 => by
    have := h1 0 x (by omega) rfl
    rw [List.takeWhile_cons_of_pos this, List.take_succ_cons, while_at p r j (fun i y hi hy => h1 (i + 1) y (by omega) (by simpa using hy)) (fun y hy => h2 y (by simpa using hy))]
theorem while_all {α : Type} (p : α → Bool) (L : List α) (h : ∀ i y, i < L.length → L[i]? = some y → p y = true) : L.takeWhile p = L := by
  rw [while_at p L L.length h (fun y hy => by simp at hy), List.take_length]
set_option maxHeartbeats 1000000 in
theorem index_any {v pv : Value} {L : List (Bs × Bs)} {f : Bs} {g : Nat} (w : World) (hL : PairsAt w v L) (hn : L.length ≤ 1000000) (hg : w.cell? ⟨g, 0, none⟩ = some pv) (h2 : BytesAt 0 w pv f) :
    Calls Tryz.prog 39 #[v, .func (.func 40) #[] #[.pointer (some ⟨g, 0, none⟩)]] w fun e w' => Below w.heap.size w w' ∧ ((e = .returned (.int .i64 (-1)) ∧ (L.takeWhile fun y => f.isPrefixOf y.1) = L) ∨ ∃ j : Nat, j < L.length ∧ e = .returned (.int .i64 j) ∧ (L.takeWhile fun y => f.isPrefixOf y.1) = L.take j) := by
  have HL := Lib.hid hL
  have HG := Lib.hid hg
  have HF := Lib.hid h2
  have HN := Lib.hid hn
  obtain ⟨a, c, rfl⟩ := hL.slice
  clear hL hg h2
  go_enter Tryz.func39, Tryz.ntmps39
  go_wp2_with fail
  go_loopw [8] (fun iv wr => ∃ k : Nat, k ≤ L.length ∧ iv = .int .i64 k ∧ Hid (∀ i y, i < k → L[i]? = some y → (f.isPrefixOf y.1) = true) ∧ Hid (Below w.heap.size w wr)) (fun iv _ => L.length - (intOf iv).toNat)
  case atStart => exact ⟨0, by omega, rfl, fun i y hi => by omega, Below.refl _ _⟩
  case round =>
    obtain ⟨k, hk, rfl, HA, BR⟩ := hrel
    by_cases hlt : k < L.length
    · have hz : (k : Int) < (L.length : Int) := by omega
      obtain ⟨y, hy⟩ : ∃ y, L[k]? = some y := ⟨_, List.getElem?_eq_getElem hlt⟩
      obtain ⟨g', o, ca, x1, x2, e1, xc1, xc2, X1, X2, XR⟩ := (HL.out.below BR.out).at hy
      injection e1 with e1 _ e3
      subst e1
      subst e3
      have BX := Lib.hid (scan1_any (y := x2) wr (stays BR.out HG.out) X1 XR (HF.out.below BR.out))
      have HY := Lib.hid hy
      clear hy X1 X2 XR
      generalize hq : f.isPrefixOf y.1 = bb at *
      go_wp2_with fail
      refine BX.out.mono ?_
      rintro e w2 ⟨rfl, hb⟩
      have B2 := Lib.hid (onward hb BR.out)
      clear hb BX
      cases bb
      · have HR : Hid ((L.takeWhile fun y => f.isPrefixOf y.1) = L.take k) := while_at _ _ _ HA.out (fun z hz => by rw [HY.out] at hz; obtain rfl := Option.some.inj hz; exact hq)
        clear hq
        go_wp2_with fail
        go_ret
        exact ⟨B2.out, .inr ⟨k, hlt, rfl, HR.out⟩⟩
      · have HA2 : Hid (∀ i y, i < k + 1 → L[i]? = some y → (f.isPrefixOf y.1) = true) := fun i z hi hzz => by
          rcases Nat.lt_or_ge i k with h | h
          · exact HA.out i z h hzz
          · have hik : i = k := by omega
            rw [hik, HY.out] at hzz
            obtain rfl := Option.some.inj hzz
            exact hq
        have hnn := HN.out
        clear hq
        go_wp2_with fail
        go_roundw
        case rel => exact ⟨k + 1, by omega, by go_num, HA2.out, B2.out⟩
        case measure => simp [intOf]; omega
    · have dk : decide ((k : Int) < ((L.length : Nat) : Int)) = false := decide_eq_false (by omega)
      have HR : Hid ((L.takeWhile fun y => f.isPrefixOf y.1) = L) := while_all _ _ (fun i y hi hy => HA.out i y (by omega) hy)
      go_wp2_with fail
      go_ret
      exact ⟨BR.out, .inl ⟨rfl, HR.out⟩⟩
theorem PairsAt.take {w : World} {a : Option Addr} {n c j : Nat} {L : List (Bs × Bs)} (h : PairsAt w (.slice a n c) L) (hj : j ≤ L.length) : PairsAt w (.slice a j j) (L.take j) := by
  obtain ⟨vs, h1, ⟨a', c', e, g1, g2, g3⟩, h3⟩ := h
  injection e with e1 e2 e3
  subst e1
  rw [List.length_map] at g1 g3
  refine ⟨vs.take j, by rw [List.length_take, List.length_take]; omega, ⟨a, j, by rw [List.length_map, List.length_take]; congr 1; omega, by rw [List.length_map, List.length_take]; omega, by omega, fun i hi => ?_⟩, fun i x y hx hy => ?_⟩
  · rw [List.length_map, List.length_take] at hi
    obtain ⟨b, o, e, g4, g5⟩ := g3 i (by omega)
    refine ⟨b, o, e, g4, fun k hk => ?_⟩
    rw [g5 k hk]
    congr 1
    rw [List.getD_eq_getElem?_getD, List.getD_eq_getElem?_getD, List.getElem?_map, List.getElem?_map, List.getElem?_take_of_lt (by omega)]
  · have hij : i < j := by
      rcases Nat.lt_or_ge i j with h | h
      · exact h
      · rw [List.getElem?_eq_none (by rw [List.length_take]; omega)] at hx; cases hx
    rw [List.getElem?_take_of_lt hij] at hx hy
    exact h3 i x y hx hy
def ScanEnd (D : DM) (f : Bs) (w : World) (e : Ending) (w' : World) : Prop := ∃ v, e = .returned (.tuple #[v, .int .i64 0]) ∧ PairsAt w' v (scanL D f) ∧ Below w.heap.size w w'
set_option maxHeartbeats 1000000 in
theorem scan_any {p b1 b2 n : Nat} {room : Int} {D D2 : DM} (w : World) (hM : MemS w p b1 b2 room n D D2) (hn : n < 1000000) {fv : Value} {f : Bs} (hf : BytesAt 0 w fv f) (hp : (pairsR D f []).length ≤ n) : Calls Tryz.prog 26 #[memI p, fv] w (ScanEnd D f w) := by
  have HP := Lib.hid hp
  have HN := Lib.hid hn
  obtain ⟨fa, fc, rfl⟩ := hf.form
  obtain ⟨w1, hw1⟩ : ∃ W, W = w.alloc (.cells #[.slice fa f.length fc] 62) := ⟨_, rfl⟩
  have hb1 : Below w.heap.size w w1 := by rw [hw1]; exact below_alloc _ _
  have hc : w1.cell? ⟨w.heap.size, 0, none⟩ = some (.slice fa f.length fc) := by rw [hw1, cell_of_row (alloc_block _ _ _ _)]; rfl
  have B1 := Lib.hid hb1
  have F1 := Lib.hid (hf.below hb1)
  have C1 := Lib.hid hc
  have RX := Lib.hid (range_any w1 (hM.below hb1) hn _ (.slice none 0 0) f [] (hf.below hb1) (nil_bytes w1))
  clear hM hn hp hf hb1
  go_enter Tryz.func26, Tryz.ntmps26
  go_wp2_with fail
  rw [← hw1]
  clear hw1
  go_wp2_with fail
  refine RX.out.mono ?_
  rintro e w2 ⟨v2, rfl, hp2, hb2⟩
  have B2 := Lib.hid (onward hb2 B1.out)
  have P2 := Lib.hid hp2
  have c2 := stays hb2 hc
  have IX := Lib.hid (index_any w2 hp2 (by have := HP.out; have := HN.out; omega) c2 (F1.out.below hb2))
  obtain ⟨va, vc, rfl⟩ := hp2.slice
  clear hp2 hb2 RX hc
  go_wp2_with fail
  refine IX.out.mono ?_
  rintro e w3 ⟨hb3, h3⟩
  have B3 := Lib.hid (onward hb3 B2.out)
  have P3 := Lib.hid (P2.out.below hb3)
  clear hb3 IX
  have key : ∃ j : Nat, j ≤ (pairsR D f []).length ∧ scanL D f = (pairsR D f []).take j ∧ ((e = .returned (.int .i64 (-1)) ∧ j = (pairsR D f []).length) ∨ e = .returned (.int .i64 j)) := by
    rcases h3 with ⟨he, h3⟩ | ⟨j, hj, he, h3⟩
    · exact ⟨_, Nat.le_refl _, by rw [List.take_length]; exact h3, .inl ⟨he, rfl⟩⟩
    · exact ⟨j, by omega, h3, .inr he⟩
  clear h3
  obtain ⟨j, hj, hs, hje⟩ := key
  have HS : Hid (PairsAt w3 (.slice va j j) (scanL D f)) := by rw [hs]; exact P3.out.take hj
  have hcap : (pairsR D f []).length ≤ vc := by
    obtain ⟨vs, q1, ⟨_, _, q2, q3, _⟩, -⟩ := P3.out
    rw [List.length_map] at q2 q3
    injection q2 with _ _ q2
    omega
  have hpn := HP.out
  have hnn := HN.out
  clear hs P2 P3
  generalize (pairsR D f []).length = m at *
  have k1 : (j : Int) ≤ (vc : Int) := by omega
  have k3 : (0 : Int) ≤ (j : Int) := by omega
  rcases hje with ⟨rfl, rfl⟩ | rfl
  · go_wp2_with fail
    go_ret2
    exact ⟨_, rfl, HS.out, B3.out⟩
  · have dk : decide ((j : Int) < 0) = false := decide_eq_false (by omega)
    go_wp2_with fail
    go_ret2
    exact ⟨_, rfl, HS.out, B3.out⟩
end Go.Proofs.YtcaihncnmjegoaaGreatDoor

