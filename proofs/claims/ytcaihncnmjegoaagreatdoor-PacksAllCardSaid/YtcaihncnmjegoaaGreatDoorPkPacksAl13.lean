/- A store of packs: plain. The walk of packs.all. -/
import Derived.Test.YtcaihncnmjegoaaGreatDoorPkPacksAl12
import Derived.Test.YtcaihncnmjegoaaGreatDoorPkPacksAl6
import Derived.Test.YtcaihncnmjegoaaGreatDoorPkPacksAl8
import Derived.Test.YtcaihncnmjegoaaGreatDoorPkPacksAl9
/-! A store of packs: plain. -/
namespace Go.Proofs.YtcaihncnmjegoaaGreatDoor
open Go.RowKit Go.WideMaps Go.Maps
set_option linter.unusedVariables false
theorem big8_injP {x y : Nat} (hx : x < 18446744073709551616) (hy : y < 18446744073709551616) (h : big8 x = big8 y) : x = y := by
  rw [← unbig_big x hx, ← unbig_big y hy, h]
def pkey (u id : Nat) : Bs := 112 :: (big8 u ++ big8 id)
theorem pkey_inj {u id u' id' : Nat} (hu : u < 18446744073709551616) (hu' : u' < 18446744073709551616) (hi : id < 18446744073709551616) (hi' : id' < 18446744073709551616) (h : pkey u id = pkey u' id') : u = u' ∧ id = id' := by
  unfold pkey at h
  injection h with _ h
  obtain ⟨h1, h2⟩ := List.append_inj h rfl
  exact ⟨big8_injP hu hu' h1, big8_injP hi hi' h2⟩
structure PS (D : DM) (cnt : Nat → Nat) (ex : Nat → Nat → Int) : Prop where
  isM : IsMap D
  keys : ∀ k, gt D k ≠ none → ∃ u id, u < 4294967296 ∧ 1 ≤ id ∧ id ≤ cnt u ∧ k = pkey u id
  vals : ∀ u id, u < 4294967296 → 1 ≤ id → id ≤ cnt u → gt D (pkey u id) = some (packL id (ex u id))
  exs : ∀ u id, Acct.inInt (ex u id)
theorem ps_empty : PS (.map []) (fun _ => 0) (fun _ _ => 0) :=
  ⟨isMap_empty, fun k h => absurd rfl h, fun u id _ h1 h2 => by omega, fun _ _ => ⟨by decide, by decide⟩⟩
theorem ps_pre {D : DM} {cnt : Nat → Nat} {ex : Nat → Nat → Int} (h : PS D cnt ex) (hS : StrD D) (u : Nat) (hu : u < 4294967296) (hn : cnt u < 1000000) :
    scanL D (112 :: big8 u) = (List.range (cnt u)).map fun i => (pkey u (i + 1), packL (i + 1) (ex u (i + 1))) := by
  rw [scan_is hS (112 :: big8 u) ((List.range (cnt u)).map fun i => pkey u (i + 1)), List.map_map]
  · refine List.map_congr_left fun i hi => ?_
    have hi' := List.mem_range.1 hi
    show (pkey u (i + 1), at0 D (pkey u (i + 1))) = _
    rw [(gt_some (h.vals u (i + 1) hu (by omega) (by omega))).2]
  · rw [List.pairwise_map]
    refine List.pairwise_lt_range.imp_of_mem fun {a b} ha hb hab => ?_
    have hb' := List.mem_range.1 hb
    exact pre_lt (112 :: big8 u) _ _ (big8_lt (by omega) (by omega))
  · intro k
    rw [List.mem_map]
    constructor
    · rintro ⟨i, hi, rfl⟩
      have hi' := List.mem_range.1 hi
      refine ⟨List.isPrefixOf_iff_prefix.2 ⟨big8 (i + 1), rfl⟩, ?_⟩
      rw [h.vals u (i + 1) hu (by omega) (by omega)]
      exact fun e => by cases e
    · rintro ⟨h1, h2⟩
      obtain ⟨u', id, hu', hi1, hi2, rfl⟩ := h.keys k h2
      obtain ⟨r, hr⟩ := List.isPrefixOf_iff_prefix.1 h1
      have e : (112 :: big8 u) ++ r = (112 :: big8 u') ++ big8 id := hr
      obtain ⟨e1, -⟩ := List.append_inj e rfl
      injection e1 with _ e1
      have := big8_injP (by omega) (by omega) e1
      subst this
      exact ⟨id - 1, List.mem_range.2 (by omega), by rw [show id - 1 + 1 = id from by omega]⟩
theorem ps_none {D : DM} {cnt : Nat → Nat} {ex : Nat → Nat → Int} (h : PS D cnt ex) {k : Bs} (hk : k.head? ≠ some 112) : gt D k = none := by
  cases hg : gt D k with
  | none => rfl
  | some v =>
    obtain ⟨u, id, -, -, -, rfl⟩ := h.keys k (by rw [hg]; exact fun e => by cases e)
    exact absurd rfl hk
theorem ps_bal {D : DM} {cnt : Nat → Nat} {ex : Nat → Nat → Int} (h : PS D cnt ex) {s : ByteArray} (hs : accB s = true) : balV D s = (0, 0) := by
  unfold balV
  rw [if_pos hs]
  have h1 : gt D (balK s) = none := ps_none h (by unfold balK; exact fun e => by injection e with e; exact absurd e (by decide))
  have h2 : numAt D (balK s) = (0, 0) := by unfold numAt; rw [h1]
  rw [h2]
  simp [wrap64]
def cntP (cnt : Nat → Nat) (u : Nat) : Nat → Nat := fun x => if x = u then cnt u + 1 else cnt x
theorem cnt_le (cnt : Nat → Nat) (u x : Nat) : cnt x ≤ cntP cnt u x := by
  unfold cntP
  split
  · rename_i h; rw [h]; omega
  · omega
def exP (cnt : Nat → Nat) (ex : Nat → Nat → Int) (u : Nat) (e : Int) : Nat → Nat → Int := fun x i => if x = u ∧ i = cnt u + 1 then e else ex x i
theorem ps_put {D : DM} {cnt : Nat → Nat} {ex : Nat → Nat → Int} (h : PS D cnt ex) {u : Nat} (hu : u < 4294967296) (hn : ∀ x, cnt x < 1000000) {e : Int} (he : Acct.inInt e) :
    PS (pt D (pkey u (cnt u + 1)) (packL (cnt u + 1) e)) (cntP cnt u) (exP cnt ex u e) := by
  have hn1 := hn u
  refine ⟨isM_pt h.isM _ _, fun k hk => ?_, fun x id hx h1 h2 => ?_, fun x i => ?_⟩
  · by_cases e1 : k = pkey u (cnt u + 1)
    · exact ⟨u, cnt u + 1, hu, by omega, by unfold cntP; rw [if_pos rfl]; exact Nat.le_refl _, e1⟩
    · rw [gt_pt_ne e1] at hk
      obtain ⟨x, id, hx, h1, h2, h3⟩ := h.keys k hk
      exact ⟨x, id, hx, h1, by have := cnt_le cnt u x; omega, h3⟩
  · by_cases e1 : x = u ∧ id = cnt u + 1
    · obtain ⟨rfl, rfl⟩ := e1
      rw [gt_pt h.isM]
      unfold exP
      rw [if_pos ⟨rfl, rfl⟩]
    · have h4 : id ≤ cnt x := by
        unfold cntP at h2
        split at h2
        · rename_i hh
          subst hh
          have : id ≠ cnt x + 1 := fun e2 => e1 ⟨rfl, e2⟩
          omega
        · exact h2
      have hx1 := hn x
      rw [gt_pt_ne (fun e2 => e1 (by
        obtain ⟨a, b⟩ := pkey_inj (by omega) (by omega) (by omega) (by omega) e2
        exact ⟨a, b⟩)), h.vals x id hx h1 h4]
      unfold exP
      rw [if_neg e1]
  · unfold exP
    split
    · exact he
    · exact h.exs x i
theorem itoa_lenP {n : Int} (h1 : 0 ≤ n) (h2 : n < 4294967296) : (Lib.itoa n).length ≤ 10 := by
  obtain ⟨u, rfl⟩ : ∃ u : Nat, n = u := ⟨n.toNat, by omega⟩
  rw [Lib.itoa_nonneg, Lib.decDigits_length]
  exact Acct.nDig (k := 10) (u := u) (by omega) (by decide)
theorem pname_is {t id : Int} (ht : 0 ≤ t ∧ t < 4294967296) (hi : 0 ≤ id ∧ id < 4294967296) : Acct.Named (Acct.nameB wPack [t, id]).data.toList [112, 97, 99, 107] [t, id] := by
  have h1 := itoa_lenP ht.1 ht.2
  have h2 := itoa_lenP hi.1 hi.2
  have h3 : (([112, 97, 99, 107] : List UInt8) ++ Acct.partsL [t, id]).length ≤ 32 := by
    simp [Acct.partsL]
    omega
  have h4 := Acct.named_of (w := [112, 97, 99, 107]) (by decide) h3 (fun n hn => by
    simp at hn
    rcases hn with rfl | rfl <;> exact ⟨by omega, by omega⟩)
  have h5 : (Acct.nameB wPack [t, id]).data.toList = [112, 97, 99, 107] ++ Acct.partsL [t, id] := by
    unfold Acct.nameB
    rw [show wPack.data.toList = [112, 97, 99, 107] from rfl, Acct.nameL_yes (by decide) h3]
  rw [h5]
  exact h4
theorem pname_acc {t id : Int} (ht : 0 ≤ t ∧ t < 4294967296) (hi : 0 ≤ id ∧ id < 4294967296) : accB (Acct.nameB wPack [t, id]) = true := accB_t.2 ⟨_, _, pname_is ht hi⟩
theorem pname_size {t id : Int} (ht : 0 ≤ t ∧ t < 4294967296) (hi : 0 ≤ id ∧ id < 4294967296) : (Acct.nameB wPack [t, id]).size ≤ 32 := by
  have h := (pname_is ht hi).is.2.2
  rw [Array.length_toList] at h
  exact h
end Go.Proofs.YtcaihncnmjegoaaGreatDoor

/-! The walk of packs.all. -/
namespace Go.Proofs.YtcaihncnmjegoaaGreatDoor
open Go.RowKit Go.WideMaps Go.Maps
set_option linter.unusedVariables false
set_option linter.unusedSimpArgs false
set_option maxRecDepth 100000
def leftC (x : Int × Int × Int) : List Value := [.int .u32 x.1, .int .i64 x.2.1, .int .i64 x.2.2]
def leftsC (ls : List (Int × Int × Int)) : List Value := ls.flatMap leftC
theorem infoLeft : (Tryz.prog.info? 34).map (fun i => (i.zero, i.size, i.bytes)) = some (some (.agg #[.int .u32 0, .int .i64 0, .int .i64 0]), 3, 24) := by kernel_rfl
def AllEnd (ls : List (Int × Int × Int)) (w : World) (e : Ending) (w' : World) : Prop := ∃ v, e = .returned (.tuple #[v, .int .i64 0]) ∧ w'.ownsRow w.heap.size 34 3 v ls.length (leftsC ls) ∧ Below w.heap.size w w'
/-- the packs of a tenant that a store keeps: number, when it ends, what is left -/
structure PackAt (D : DM) (u : Nat) (P : List (Nat × Int × Int)) : Prop where
  scan : scanL D (112 :: big8 u) = P.map fun x => (pkey u x.1, packL x.1 x.2.1)
  ids : ∀ x ∈ P, x.1 < 4294967296 ∧ Acct.inInt x.2.1
  bals : ∀ x ∈ P, balV D (Acct.nameB wPack [(u : Int), (x.1 : Int)]) = (x.2.2, 0)
  nd : P.Pairwise (fun x y => x.1 ≠ y.1)
def lefts (P : List (Nat × Int × Int)) : List (Int × Int × Int) := P.map fun x => ((x.1 : Int), x.2.1, x.2.2)
theorem lefts_len (P : List (Nat × Int × Int)) : (lefts P).length = P.length := by simp [lefts]
theorem lefts_snoc {P : List (Nat × Int × Int)} {i : Nat} {x : Nat × Int × Int} (h : P[i]? = some x) : lefts (P.take (i + 1)) = lefts (P.take i) ++ [((x.1 : Int), x.2.1, x.2.2)] := by
  unfold lefts
  rw [List.take_add_one, h]
  simp
set_option maxHeartbeats 4000000 in
theorem all_any {p b1 b2 m : Nat} {room : Int} {D D2 : DM} {P : List (Nat × Int × Int)} (u : Nat) (w : World) (hE : EnvA w) (hM : MemS w p b1 b2 room m D D2) (hm : m < 1000000) (hD : IsMap D) (hP : PackAt D u P) (hu : u < 4294967296) (hn : P.length ≤ 1000000) :
    Calls Tryz.prog 17 #[memI p, .int .u32 u] w (AllEnd (lefts P) w) := by
  have HE := Lib.hid hE
  have HM := Lib.hid hM
  have HP := Lib.hid hP
  have hpr : (pairsR D (112 :: big8 u) []).length ≤ m := Nat.le_trans (pairsR_le hD _ _) hM.now.size_le
  have SX := Lib.hid (fun (W : World) (fv : Value) (hb : Below w.heap.size w W) (hf : BytesAt 0 W fv (112 :: big8 u)) => scan_any W (hM.below hb) hm hf hpr)
  unfold ScanEnd at SX
  rw [hP.scan] at SX
  have hcv : IntKind.u64.wrap (u : Int) = (u : Int) := by
    have e : ∀ z : Int, IntKind.u64.wrap z = z % 18446744073709551616 := fun _ => rfl
    rw [e]; omega
  obtain ⟨w1, hw1⟩ : ∃ W, W = w.alloc (.cells #[.int .u64 u] 64) := ⟨_, rfl⟩
  have hb1 : Below w.heap.size w w1 := by rw [hw1]; exact below_alloc _ _
  have h1 : w1.heap[w.heap.size]? = some (.cells #[.int .u64 u] 64 (0, 0)) := by rw [hw1]; exact alloc_block _ _ _ _
  have B1 := Lib.hid hb1
  have KY := Lib.hid (key1_any 112 u w.heap.size w1 (by omega) (by rw [cell_of_row h1]; rfl))
  clear hE hM hP hpr hb1 h1
  go_enter Tryz.func17, Tryz.ntmps17
  go_wp2_with fail
  rw [← hw1]
  clear hw1
  refine KY.out.mono ?_
  rintro e w2 ⟨kv, rfl, hk, hb⟩
  have B2 := Lib.hid (onward hb B1.out)
  have K2 := Lib.hid hk
  obtain ⟨ka, kc, rfl⟩ := hk.form
  clear hk hb KY hcv
  go_wp2_with fail
  refine (SX.out _ _ B2.out K2.out).mono ?_
  rintro e w3 ⟨lv, rfl, hl, hb⟩
  have B3 := Lib.hid (onward hb B2.out)
  have L3 := Lib.hid hl
  obtain ⟨la, lc, rfl⟩ := hl.slice
  have hlen : (P.map fun x => (pkey u x.1, packL x.1 x.2.1)).length = P.length := by simp
  rw [hlen]
  have HLEN := Lib.hid hlen
  clear hl hb SX hlen
  obtain ⟨i0, hi, hz0, hz1, hz2⟩ := info_parts infoLeft
  go_wp2_with fail
  go_loopw [8, 28] (fun ov iv wr => ∃ i : Nat, i ≤ P.length ∧ iv = .int .i64 i ∧ Hid (wr.ownsRow w3.heap.size 34 3 ov i (leftsC (lefts (P.take i)))) ∧ Hid (Below w3.heap.size w3 wr)) (fun _ iv _ => P.length - (intOf iv).toNat)
  case atStart => exact ⟨0, by omega, rfl, World.ownsRow_nil _ _ _ _, Below.refl _ _⟩
  case round =>
    obtain ⟨i, hi1, rfl, OR, BR⟩ := hrel
    by_cases hlt : i < P.length
    · have hz : (i : Int) < (P.length : Int) := by omega
      obtain ⟨x, hx⟩ : ∃ x, P[i]? = some x := ⟨_, List.getElem?_eq_getElem hlt⟩
      have hy : (P.map fun x => (pkey u x.1, packL x.1 x.2.1))[i]? = some (pkey u x.1, packL x.1 x.2.1) := by simp [hx]
      obtain ⟨g, o, c, x1, x2, hv, y1, y2, z1, z2, -⟩ := (L3.out.below BR.out).at hy
      rw [HLEN.out] at hv
      injection hv with hv1 _ hv2
      subst hv1 hv2
      obtain ⟨a1, c1, rfl⟩ := z1.form
      obtain ⟨a2, c2, rfl⟩ := z2.form
      have Z2 := Lib.hid z2
      have hmem := List.mem_of_getElem? hx
      obtain ⟨hid, hex⟩ := HP.out.ids x hmem
      have hbal := HP.out.bals x hmem
      have HS := Lib.hid (lefts_snoc hx)
      clear hy z1 z2 hmem hx
      obtain ⟨id, ev, un⟩ := x
      simp only at hid hex hbal y1 y2 Z2 HS
      have GX := Lib.hid (fun (W : World) (hb : Below wr.heap.size wr W) => getpack_any (.slice a2 (packL id ev).length c2) W (Z2.out.below hb) hid hex)
      have hid2 : (0 : Int) ≤ (id : Int) ∧ (id : Int) < 4294967296 := ⟨by omega, by omega⟩
      have AX := Lib.hid (fun (W : World) (hb : Below w.heap.size w W) => account_any u (id : Int) W (HE.out.below hb).pow ⟨by omega, by omega⟩ hid2)
      have BX := Lib.hid (fun (W : World) (hb : Below w.heap.size w W) => bal_any (Acct.nameB wPack [(u : Int), (id : Int)]) W (HE.out.below hb) (HM.out.below hb) (by have := pname_size (t := u) (id := (id : Int)) ⟨by omega, by omega⟩ hid2; omega))
      rw [hbal] at BX
      clear hid2 hbal hid hex
      obtain ⟨w4, hw4⟩ : ∃ W, W = wr.alloc (.cells #[.slice a1 (pkey u id).length c1, .slice a2 (packL id ev).length c2] 77) := ⟨_, rfl⟩
      have hb4 : Below wr.heap.size wr w4 := by rw [hw4]; exact below_alloc _ _
      have h4 : w4.heap[wr.heap.size]? = some (.cells #[.slice a1 (pkey u id).length c1, .slice a2 (packL id ev).length c2] 77 (0, 0)) := by rw [hw4]; exact alloc_block _ _ _ _
      have B4r := Lib.hid hb4
      have B4 := Lib.hid (onward hb4 BR.out)
      have q1 : w4.cell? ⟨wr.heap.size, 1, none⟩ = some (.slice a2 (packL id ev).length c2) := by rw [cell_of_row h4]; rfl
      have O4 := Lib.hid (ownsRow_below OR.out hb4)
      clear hb4 h4 OR
      go_upto_region 8 with fail
      rw [← hw4]
      clear hw4
      go_wp2_with fail
      refine (GX.out w4 B4r.out).mono ?_
      rintro e w5 ⟨rfl, hb⟩
      have B5 := Lib.hid (onward hb B4.out)
      have O5 := Lib.hid (ownsRow_below O4.out hb)
      obtain ⟨w6, hw6⟩ : ∃ W, W = w5.alloc (.cells #[.int .u32 id, .int .i64 ev] 32) := ⟨_, rfl⟩
      have hb6 : Below w5.heap.size w5 w6 := by rw [hw6]; exact below_alloc _ _
      have h6 : w6.heap[w5.heap.size]? = some (.cells #[.int .u32 id, .int .i64 ev] 32 (0, 0)) := by rw [hw6]; exact alloc_block _ _ _ _
      have B6 := Lib.hid (onward hb6 B5.out)
      have O6 := Lib.hid (ownsRow_below O5.out hb6)
      have H6 := Lib.hid h6
      have q2 : w6.cell? ⟨w5.heap.size, 0, none⟩ = some (.int .u32 id) := by rw [cell_of_row h6]; rfl
      clear hb hb6 h6 q1 GX O4 O5 B4 B4r
      go_upto_region 9 with fail
      rw [← hw6]
      clear hw6
      go_wp2_with fail
      refine (AX.out w6 (onward B6.out B3.out)).mono ?_
      rintro e w7 ⟨rfl, hb⟩
      have B7 := Lib.hid (onward hb B6.out)
      have O7 := Lib.hid (ownsRow_below O6.out hb)
      have H7 := Lib.hid (stays_block hb H6.out)
      clear hb q2 AX O6 H6 B6
      go_wp2_with fail
      refine (BX.out w7 (onward B7.out B3.out)).mono ?_
      rintro e w8 ⟨rfl, hb⟩
      have B8 := Lib.hid (onward hb B7.out)
      have O8 := Lib.hid (ownsRow_below O7.out hb)
      have h8 := stays_block hb H7.out
      obtain ⟨-, -, e0, e1⟩ := pack_zero h8
      clear hb BX O7 H7 B7 h8
      have hle : w3.heap.size ≤ w8.heap.size := B8.out.size
      go_wp2_with (at_builtin; refine wpList_append_own _ rfl _ _ 24 rfl w3.heap.size 34 i0 _ 3 24 Tryz.underlying24 hi hz0 hz1 hz2 rfl (by decide) _ _ _ rfl (O8.out.alloc _) ⟨w8.heap.size, 0, none⟩ 1 1 [.int .u32 id, .int .i64 ev, .int .i64 un] rfl rfl (new_cells _ _ _) (by intro u hu; simp only [List.mem_cons, List.not_mem_nil, or_false] at hu; rcases hu with rfl | rfl | rfl <;> rfl) (by unfold maxLen; omega) (by omega) (by simp; omega) ?_)
      intro v' w9 hown9 hgrow9 _
      have BR9 : Hid (Below w3.heap.size w3 w9) := owned_below (O8.out.alloc _) (B8.out.alloc B8.out.size _) hgrow9
      have O9 : Hid (w9.ownsRow w3.heap.size 34 3 v' (i + 1) (leftsC (lefts (P.take (i + 1))))) := by
        unfold Hid
        rw [HS.out]
        unfold leftsC
        rw [List.flatMap_append]
        exact hown9
      clear hown9 hgrow9 O8 B8 e0 e1 HS L3 y1 y2 Z2
      go_wp2_with fail
      go_roundw
      case rel => exact ⟨i + 1, by omega, by go_num, O9.out, BR9.out⟩
      case measure => simp [intOf]; omega
    · obtain rfl : i = P.length := by omega
      have di : decide ((P.length : Int) < (P.length : Int)) = false := decide_eq_false (by omega)
      go_wp2_with fail
      go_ret2
      exact ⟨_, rfl, by rw [lefts_len]; have := OR.out; rw [List.take_length] at this; exact Go.Joins.ownsRow_le this B3.out.size, onward BR.out B3.out⟩
end Go.Proofs.YtcaihncnmjegoaaGreatDoor

