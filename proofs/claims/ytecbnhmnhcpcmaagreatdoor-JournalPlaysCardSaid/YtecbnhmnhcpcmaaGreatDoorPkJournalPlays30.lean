/- The walks of kv.Scan: pairs of a prefix. -/
import Derived.Test.YtecbnhmnhcpcmaaGreatDoorPkJournalPlays29
import Derived.Test.YtecbnhmnhcpcmaaGreatDoorPkJournalPlays27
/-! The walks of kv.Scan: pairs of a prefix. -/
namespace Go.Proofs.YtecbnhmnhcpcmaaGreatDoor
open Go.RowKit Go.WideMaps Go.Maps
set_option linter.unusedVariables false
set_option linter.unusedSimpArgs false
set_option maxRecDepth 100000
theorem bytes_in {B : Nat} {w : World} {a : Option Addr} {n c : Nat} {bs : Bs} (h : BytesAt B w (.slice a n c) bs) : bs.length = n ∧ Lib.BytesIn w a n (bs.map fun x => (x.toNat : Int)) := by
  obtain ⟨a', c', e, -, hx⟩ := h
  injection e with e1 e2 _
  subst e1
  subst e2
  refine ⟨rfl, fun hn => ?_⟩
  obtain ⟨b, o, e, -, -⟩ := hx 0 hn
  refine ⟨b, o, e, fun i hi => ?_⟩
  obtain ⟨b', o', e', hc, -⟩ := hx i hi
  rw [e] at e'
  injection e' with e'
  injection e' with e1 e2 _
  subst e1
  subst e2
  rw [hc]
  congr 2
  simp [List.getD, hi]
theorem bytes_of (bs : Bs) : Lib.bytesOf (bs.map fun x => (x.toNat : Int)) = bs := by
  unfold Lib.bytesOf
  rw [List.map_map]
  conv => rhs; rw [← List.map_id bs]
  exact List.map_congr_left fun x _ => by simp
theorem hasp_any {x pv : Value} {k f : Bs} (w : World) (h1 : BytesAt 0 w x k) (hr : Roomy x) (h2 : BytesAt 0 w pv f) : Calls Tryz.prog 78 #[x, pv] w fun e w' => e = .returned (.bool (f.isPrefixOf k)) ∧ w' = w := by
  obtain ⟨a, n, c, rfl, hc⟩ := hr
  obtain ⟨pa, pc, rfl⟩ := h2.form
  obtain ⟨l1, i1⟩ := bytes_in h1
  obtain ⟨l2, i2⟩ := bytes_in h2
  have := Tryz.bytes_HasPrefix_all a pa n c f.length pc _ _ w (by rw [List.length_map]; exact l1) (by rw [List.length_map]) hc i1 i2
  rw [bytes_of, bytes_of] at this
  exact this
set_option maxHeartbeats 1000000 in
theorem scan1_any {x y pv : Value} {k f : Bs} {g : Nat} (w : World) (hg : w.cell? ⟨g, 0, none⟩ = some pv) (h1 : BytesAt 0 w x k) (hr : Roomy x) (h2 : BytesAt 0 w pv f) : Calls Tryz.prog 77 #[.agg #[x, y], .pointer (some ⟨g, 0, none⟩)] w fun e w' => e = .returned (.bool (!f.isPrefixOf k)) ∧ Below w.heap.size w w' := by
  have hb := below_alloc w (.cells #[x, y] 63)
  have BX := Lib.hid hb
  have HX := Lib.hid (hasp_any _ (h1.below hb) hr (h2.below hb))
  have hg2 := stays hb hg
  generalize f.isPrefixOf k = bb at *
  clear h1 h2 hb hg hr
  go_enter Tryz.func77, Tryz.ntmps77
  go_wp2_with fail
  refine HX.out.mono ?_
  rintro e w1 ⟨rfl, rfl⟩
  clear HX
  go_wp2_with fail
  go_ret
  exact ⟨by cases bb <;> rfl, BX.out⟩
/-- pairs whose keys begin so -/
noncomputable def scanL (D : DM) (f : Bs) : List (Bs × Bs) := (pairsR D f []).takeWhile fun y => f.isPrefixOf y.1
theorem while_at : ∀ {α : Type} (p : α → Bool) (L : List α) (j : Nat), (∀ i y, i < j → L[i]? = some y → p y = true) → (∀ y, L[j]? = some y → p y = false) → L.takeWhile p = L.take j
  | α, p, [], j, _, _ => by simp
  | α, p, x :: r, 0, _, h => by
    have := h x rfl
    rw [List.takeWhile_cons_of_neg (by rw [this]; decide)]
    rfl
  | α, p, x :: r, j + 1, h1, h2 => by
    have := h1 0 x (by omega) rfl
    rw [List.takeWhile_cons_of_pos this, List.take_succ_cons, while_at p r j (fun i y hi hy => h1 (i + 1) y (by omega) (by simpa using hy)) (fun y hy => h2 y (by simpa using hy))]
theorem while_all {α : Type} (p : α → Bool) (L : List α) (h : ∀ i y, i < L.length → L[i]? = some y → p y = true) : L.takeWhile p = L := by
  rw [while_at p L L.length h (fun y hy => by simp at hy), List.take_length]
set_option maxHeartbeats 1000000 in
theorem index_any {v pv : Value} {L : List (Bs × Bs)} {f : Bs} {g : Nat} (w : World) (hL : PairsAt w v L) (hn : L.length ≤ 1000000) (hg : w.cell? ⟨g, 0, none⟩ = some pv) (h2 : BytesAt 0 w pv f) :
    Calls Tryz.prog 76 #[v, .func (.func 77) #[] #[.pointer (some ⟨g, 0, none⟩)]] w fun e w' => Below w.heap.size w w' ∧ ((e = .returned (.int .i64 (-1)) ∧ (L.takeWhile fun y => f.isPrefixOf y.1) = L) ∨ ∃ j : Nat, j < L.length ∧ e = .returned (.int .i64 j) ∧ (L.takeWhile fun y => f.isPrefixOf y.1) = L.take j) := by
  have HL := Lib.hid hL
  have HG := Lib.hid hg
  have HF := Lib.hid h2
  have HN := Lib.hid hn
  obtain ⟨a, c, rfl⟩ := hL.slice
  clear hL hg h2
  go_enter Tryz.func76, Tryz.ntmps76
  go_wp2_with fail
  go_loopw [8] (fun iv wr => ∃ k : Nat, k ≤ L.length ∧ iv = .int .i64 k ∧ Hid (∀ i y, i < k → L[i]? = some y → (f.isPrefixOf y.1) = true) ∧ Hid (Below w.heap.size w wr)) (fun iv _ => L.length - (intOf iv).toNat)
  case atStart => exact ⟨0, by omega, rfl, fun i y hi => by omega, Below.refl _ _⟩
  case round =>
    obtain ⟨k, hk, rfl, HA, BR⟩ := hrel
    by_cases hlt : k < L.length
    · have hz : (k : Int) < (L.length : Int) := by omega
      obtain ⟨y, hy⟩ : ∃ y, L[k]? = some y := ⟨_, List.getElem?_eq_getElem hlt⟩
      obtain ⟨g', o, ca, x1, x2, e1, xc1, xc2, X1, X2, XR⟩ := (HL.out.below BR.out).at hy
      injection e1 with e1 _ e3
      subst e1
      subst e3
      have BX := Lib.hid (scan1_any (y := x2) wr (stays BR.out HG.out) X1 XR (HF.out.below BR.out))
      have HY := Lib.hid hy
      clear hy X1 X2 XR
      generalize hq : f.isPrefixOf y.1 = bb at *
      go_wp2_with fail
      refine BX.out.mono ?_
      rintro e w2 ⟨rfl, hb⟩
      have B2 := Lib.hid (onward hb BR.out)
      clear hb BX
      cases bb
      · have HR : Hid ((L.takeWhile fun y => f.isPrefixOf y.1) = L.take k) := while_at _ _ _ HA.out (fun z hz => by rw [HY.out] at hz; obtain rfl := Option.some.inj hz; exact hq)
        clear hq
        go_wp2_with fail
        go_ret
        exact ⟨B2.out, .inr ⟨k, hlt, rfl, HR.out⟩⟩
      · have HA2 : Hid (∀ i y, i < k + 1 → L[i]? = some y → (f.isPrefixOf y.1) = true) := fun i z hi hzz => by
          rcases Nat.lt_or_ge i k with h | h
          · exact HA.out i z h hzz
          · have hik : i = k := by omega
            rw [hik, HY.out] at hzz
            obtain rfl := Option.some.inj hzz
            exact hq
        have hnn := HN.out
        clear hq
        go_wp2_with fail
        go_roundw
        case rel => exact ⟨k + 1, by omega, by go_num, HA2.out, B2.out⟩
        case measure => simp [intOf]; omega
    · have dk : decide ((k : Int) < ((L.length : Nat) : Int)) = false := decide_eq_false (by omega)
      have HR : Hid ((L.takeWhile fun y => f.isPrefixOf y.1) = L) := while_all _ _ (fun i y hi hy => HA.out i y (by omega) hy)
      go_wp2_with fail
      go_ret
      exact ⟨BR.out, .inl ⟨rfl, HR.out⟩⟩
theorem PairsAt.take {w : World} {a : Option Addr} {n c j : Nat} {L : List (Bs × Bs)} (h : PairsAt w (.slice a n c) L) (hj : j ≤ L.length) : PairsAt w (.slice a j j) (L.take j) := by
  obtain ⟨vs, h1, ⟨a', c', e, g1, g2, g3⟩, h3⟩ := h
  injection e with e1 e2 e3
  subst e1
  rw [List.length_map] at g1 g3
  refine ⟨vs.take j, by rw [List.length_take, List.length_take]; omega, ⟨a, j, by rw [List.length_map, List.length_take]; congr 1; omega, by rw [List.length_map, List.length_take]; omega, by omega, fun i hi => ?_⟩, fun i x y hx hy => ?_⟩
  · rw [List.length_map, List.length_take] at hi
    obtain ⟨b, o, e, g4, g5⟩ := g3 i (by omega)
    refine ⟨b, o, e, g4, fun k hk => ?_⟩
    rw [g5 k hk]
    congr 1
    rw [List.getD_eq_getElem?_getD, List.getD_eq_getElem?_getD, List.getElem?_map, List.getElem?_map, List.getElem?_take_of_lt (by omega)]
  · have hij : i < j := by
      rcases Nat.lt_or_ge i j with h | h
      · exact h
      · rw [List.getElem?_eq_none (by rw [List.length_take]; omega)] at hx; cases hx
    rw [List.getElem?_take_of_lt hij] at hx hy
    exact h3 i x y hx hy
def ScanEnd (D : DM) (f : Bs) (w : World) (e : Ending) (w' : World) : Prop := ∃ v, e = .returned (.tuple #[v, .int .i64 0]) ∧ PairsAt w' v (scanL D f) ∧ Below w.heap.size w w'
set_option maxHeartbeats 1000000 in
theorem scan_any {p b1 b2 n : Nat} {room : Int} {D D2 : DM} (w : World) (hM : MemS w p b1 b2 room n D D2) (hn : n < 1000000) {fv : Value} {f : Bs} (hf : BytesAt 0 w fv f) (hp : (pairsR D f []).length ≤ n) : Calls Tryz.prog 50 #[memI p, fv] w (ScanEnd D f w) := by
  have HP := Lib.hid hp
  have HN := Lib.hid hn
  obtain ⟨fa, fc, rfl⟩ := hf.form
  obtain ⟨w1, hw1⟩ : ∃ W, W = w.alloc (.cells #[.slice fa f.length fc] 61) := ⟨_, rfl⟩
  have hb1 : Below w.heap.size w w1 := by rw [hw1]; exact below_alloc _ _
  have hc : w1.cell? ⟨w.heap.size, 0, none⟩ = some (.slice fa f.length fc) := by rw [hw1, cell_of_row (alloc_block _ _ _ _)]; rfl
  have B1 := Lib.hid hb1
  have F1 := Lib.hid (hf.below hb1)
  have C1 := Lib.hid hc
  have RX := Lib.hid (range_any w1 (hM.below hb1) hn _ (.slice none 0 0) f [] (hf.below hb1) (nil_bytes w1))
  clear hM hn hp hf hb1
  go_enter Tryz.func50, Tryz.ntmps50
  go_wp2_with fail
  rw [← hw1]
  clear hw1
  go_wp2_with fail
  refine RX.out.mono ?_
  rintro e w2 ⟨v2, rfl, hp2, hb2⟩
  have B2 := Lib.hid (onward hb2 B1.out)
  have P2 := Lib.hid hp2
  have c2 := stays hb2 hc
  have IX := Lib.hid (index_any w2 hp2 (by have := HP.out; have := HN.out; omega) c2 (F1.out.below hb2))
  obtain ⟨va, vc, rfl⟩ := hp2.slice
  clear hp2 hb2 RX hc
  go_wp2_with fail
  refine IX.out.mono ?_
  rintro e w3 ⟨hb3, h3⟩
  have B3 := Lib.hid (onward hb3 B2.out)
  have P3 := Lib.hid (P2.out.below hb3)
  clear hb3 IX
  have key : ∃ j : Nat, j ≤ (pairsR D f []).length ∧ scanL D f = (pairsR D f []).take j ∧ ((e = .returned (.int .i64 (-1)) ∧ j = (pairsR D f []).length) ∨ e = .returned (.int .i64 j)) := by
    rcases h3 with ⟨he, h3⟩ | ⟨j, hj, he, h3⟩
    · exact ⟨_, Nat.le_refl _, by rw [List.take_length]; exact h3, .inl ⟨he, rfl⟩⟩
    · exact ⟨j, by omega, h3, .inr he⟩
  clear h3
  obtain ⟨j, hj, hs, hje⟩ := key
  have HS : Hid (PairsAt w3 (.slice va j j) (scanL D f)) := by rw [hs]; exact P3.out.take hj
  have hcap : (pairsR D f []).length ≤ vc := by
    obtain ⟨vs, q1, ⟨_, _, q2, q3, _⟩, -⟩ := P3.out
    rw [List.length_map] at q2 q3
    injection q2 with _ _ q2
    omega
  have hpn := HP.out
  have hnn := HN.out
  clear hs P2 P3
  generalize (pairsR D f []).length = m at *
  have k1 : (j : Int) ≤ (vc : Int) := by omega
  have k3 : (0 : Int) ≤ (j : Int) := by omega
  rcases hje with ⟨rfl, rfl⟩ | rfl
  · go_wp2_with fail
    go_ret2
    exact ⟨_, rfl, HS.out, B3.out⟩
  · have dk : decide ((j : Int) < 0) = false := decide_eq_false (by omega)
    go_wp2_with fail
    go_ret2
    exact ⟨_, rfl, HS.out, B3.out⟩
end Go.Proofs.YtecbnhmnhcpcmaaGreatDoor
