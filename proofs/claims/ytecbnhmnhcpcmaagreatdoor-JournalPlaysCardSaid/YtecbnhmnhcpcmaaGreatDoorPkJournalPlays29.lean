/- The walks of maps.Clone, and of a store's Commit and Abort. The walk of the law JournalRefuses. -/
import Derived.Test.YtecbnhmnhcpcmaaGreatDoorPkJournalPlays28
/-! The walks of maps.Clone, and of a store's Commit and Abort. -/
namespace Go.Proofs.YtecbnhmnhcpcmaaGreatDoor
open Go.RowKit Go.WideMaps Go.Maps
set_option linter.unusedVariables false
set_option linter.unusedSimpArgs false
set_option maxRecDepth 100000
set_option maxHeartbeats 1000000 in
theorem mclone_any {b n : Nat} {D : DM} (w : World) (hown : OwnM w b n D) : Calls Tryz.prog 45 #[.map (some b)] w fun e w' => e = .returned (.map (some w.heap.size)) ∧ OwnM w' w.heap.size n D ∧ OwnM w' b n D ∧ Below w.heap.size w w' := by
  have hlt := hown.lt
  obtain ⟨es, clock, hb, F, hs, hD⟩ := hown
  have key : Calls Tryz.prog 45 #[.map (some b)] w fun e w' => e = .returned (.map (some w.heap.size)) ∧ w' = w.alloc (.map es clock) := by
    have hq := fun w => run_eql_map_nil_sl (P := Tryz.prog) w 77 _ _ (some b) Tryz.underlying77
    go_enter Tryz.func45, Tryz.ntmps45
    go_wp2_with fail
    rw [run_callFunc_extern Tryz.func74 (by kernel_rfl) (by kernel_rfl) (by kernel_rfl) (e := Extern.MapsClone.clone) (by kernel_rfl), run_maps_clone_sl w 77 hb]
    simp only [Result.andThen]
    rw [Oper.upon_value]
    go_wp2_with fail
    rw [run_typeAssert_map_sl _ 77 20 _ _ _ Tryz.underlying77]
    simp only [Result.andThen]
    rw [Oper.upon_value]
    go_wp2_with fail
    go_ret
    exact ⟨rfl, rfl⟩
  refine key.mono fun e w' ⟨he, hw⟩ => ?_
  subst hw
  have hB : Below w.heap.size w (w.alloc (.map es clock)) := below_alloc _ _
  exact ⟨he, ⟨es, clock, (MapKept.heap_alloc w _).1, F, hs, hD⟩, ⟨es, clock, (Below.heap_alloc _ _ b hlt).trans hb, F, hs, hD⟩, hB⟩
theorem box_set {w : World} {p k : Nat} {x0 x1 x2 : Value} {T : Nat} {u : Value} (h : w.heap[p]? = some (.cells #[x0, x1, x2] T (0, 0))) : (w.setCell ⟨p, k, none⟩ u).heap[p]? = some (.cells (#[x0, x1, x2].setIfInBounds k u) T (0, 0)) := by
  unfold World.setCell
  simp only [Array.getElem?_modify, if_true, h]
  rfl
theorem grown_set {w w1 : World} {p k : Nat} {u : Value} (h : Below w.heap.size w w1) : w.grownBy (w1.setCell ⟨p, k, none⟩ u) (some p) := by
  have k2 := Kept.setCell (S := fun k => k = p) w1 ⟨p, k, none⟩ u rfl
  refine ⟨k2.os.trans h.os, k2.tape.trans h.tape, k2.output.trans h.output, Nat.le_trans h.size k2.size, fun i hi hne => ?_⟩
  rw [k2.block i (Nat.lt_of_lt_of_le hi h.size) (fun e => hne (by rw [e]))]
  exact h.block i hi
theorem heap_set_ne {w : World} {p k b : Nat} {u : Value} (hne : b ≠ p) (hb : b < w.heap.size) : (w.setCell ⟨p, k, none⟩ u).heap[b]? = w.heap[b]? :=
  (Kept.setCell (S := fun k => k = p) w ⟨p, k, none⟩ u rfl).block b hb hne
set_option maxHeartbeats 1000000 in
theorem commit_any {p b1 b2 n : Nat} {room : Int} {D D2 : DM} (w : World) (hM : MemS w p b1 b2 room n D D2) : Calls Tryz.prog 21 #[.pointer (some ⟨p, 0, none⟩)] w fun e w' => e = .returned (.int .i64 0) ∧ MemS w' p b1 w.heap.size room n D D ∧ w.grownBy w' (some p) := by
  have HM := Lib.hid hM
  have CX := Lib.hid (mclone_any w hM.now)
  obtain ⟨-, c1, -⟩ := box3c hM.box
  clear hM
  go_enter Tryz.func21, Tryz.ntmps21
  go_wp2_with fail
  refine CX.out.mono ?_
  rintro e w1 ⟨rfl, ho, ho1, hb⟩
  have BX := stays_block hb HM.out.box
  obtain ⟨-, -, c2⟩ := box3c BX
  have hf : w1.frozen? ⟨p, 2, none⟩ = false := free_of_row BX
  have GW : Hid (w.grownBy (w1.setCell ⟨p, 2, none⟩ (.map (some w.heap.size))) (some p)) := grown_set hb
  have hpl := lt_of_block HM.out.box
  have MW : Hid (MemS (w1.setCell ⟨p, 2, none⟩ (.map (some w.heap.size))) p b1 w.heap.size room n D D) :=
    ⟨box_set BX, ho1.same (heap_set_ne HM.out.ne1.symm ho1.lt), OwnM.same ho (heap_set_ne (by omega) ho.lt), by have := HM.out.now.lt; omega⟩
  clear ho ho1 hb CX BX c1 hpl
  go_wp2_with fail
  go_ret
  exact ⟨rfl, MW.out, GW.out⟩
set_option maxHeartbeats 1000000 in
theorem abort_any {p b1 b2 n : Nat} {room : Int} {D D2 : DM} (w : World) (hM : MemS w p b1 b2 room n D D2) : Calls Tryz.prog 22 #[.pointer (some ⟨p, 0, none⟩)] w fun e w' => e = .returned (.tuple #[]) ∧ MemS w' p w.heap.size b2 room n D2 D2 ∧ w.grownBy w' (some p) := by
  have HM := Lib.hid hM
  have CX := Lib.hid (mclone_any w hM.was)
  obtain ⟨-, -, c2⟩ := box3c hM.box
  clear hM
  go_enter Tryz.func22, Tryz.ntmps22
  go_wp2_with fail
  refine CX.out.mono ?_
  rintro e w1 ⟨rfl, ho, ho1, hb⟩
  have BX := stays_block hb HM.out.box
  obtain ⟨-, c1, -⟩ := box3c BX
  have hf : w1.frozen? ⟨p, 1, none⟩ = false := free_of_row BX
  have GW : Hid (w.grownBy (w1.setCell ⟨p, 1, none⟩ (.map (some w.heap.size))) (some p)) := grown_set hb
  have hpl := lt_of_block HM.out.box
  have MW : Hid (MemS (w1.setCell ⟨p, 1, none⟩ (.map (some w.heap.size))) p w.heap.size b2 room n D2 D2) :=
    ⟨box_set BX, OwnM.same ho (heap_set_ne (by omega) ho.lt), ho1.same (heap_set_ne HM.out.ne2.symm ho1.lt), by have := HM.out.was.lt; omega⟩
  clear ho ho1 hb CX BX c2 hpl
  go_wp2_with fail
  go_end0
  exact ⟨rfl, MW.out, GW.out⟩
theorem pairsR_len {D : DM} (h : IsMap D) : (pairsR D [] []).length = size D := by
  obtain ⟨es, rfl⟩ := h
  unfold pairsR keysR
  rw [List.length_map, List.length_mergeSort, List.filter_eq_self.2 (fun k _ => by cases k <;> rfl)]
  show (es.map _).length = es.length
  rw [List.length_map]
theorem nil_bytes (w : World) : BytesAt 0 w (.slice none 0 0) [] := ⟨none, 0, rfl, fun _ => rfl, fun i hi => by simp at hi⟩
end Go.Proofs.YtecbnhmnhcpcmaaGreatDoor
/-! The walk of the law JournalRefuses. -/
namespace Go.Proofs.YtecbnhmnhcpcmaaGreatDoor
open Go.RowKit Go.WideMaps Go.Maps
set_option linter.unusedVariables false
set_option linter.unusedSimpArgs false
set_option maxRecDepth 100000
theorem last_num {D : DM} {c : Nat} (h : Jn D c) : numAt D [113] = ((c : Int), 0) := by
  obtain ⟨h1, h2, -⟩ := h.wf.num (.inr rfl)
  have h3 := h.last
  unfold lastN at h3
  have h4 : (numAt D [113]).1 = (c : Int) := by omega
  rw [← h4, ← h1]
theorem PairsAt.turned {b : Nat} {w w' : World} {v : Value} {L : List (Bs × Bs)} (h : PairsAt w v L) (ht : Turned b w w') : PairsAt w' v L := by
  obtain ⟨vs, h1, h2, h3⟩ := h
  exact ⟨vs, h1, ht.rows h2 (fun r hr => by obtain ⟨x, -, rfl⟩ := List.mem_map.1 hr; rfl), fun i x y hx hy => ⟨ht.bytes (h3 i x y hx hy).1, ht.bytes (h3 i x y hx hy).2.1, (h3 i x y hx hy).2.2⟩⟩
theorem PairsAt.at {w : World} {v : Value} {L : List (Bs × Bs)} {j : Nat} {y : Bs × Bs} (h : PairsAt w v L) (hy : L[j]? = some y) : ∃ g o c x1 x2, v = .slice (some ⟨g, o, none⟩) L.length c ∧ w.cell? ⟨g, o + j * 2, none⟩ = some x1 ∧ w.cell? ⟨g, o + j * 2 + 1, none⟩ = some x2 ∧ BytesAt 0 w x1 y.1 ∧ BytesAt 0 w x2 y.2 ∧ Roomy x1 := by
  have hj : j < L.length := by
    rcases Nat.lt_or_ge j L.length with h | h
    · exact h
    · rw [List.getElem?_eq_none h] at hy; cases hy
  obtain ⟨a, c, e⟩ := h.slice
  subst e
  obtain ⟨vs, h1, h2, h3⟩ := h
  have hx : vs[j]? = some vs[j] := List.getElem?_eq_getElem (by omega)
  obtain ⟨h4, h5, h6⟩ := h3 j _ y hx hy
  obtain ⟨g, o, rfl, hc⟩ := rows_cell h2 j (by rw [List.length_map]; omega)
  have er : (vs.map fun x => [x.1, x.2]).getD j [] = [vs[j].1, vs[j].2] := by rw [List.getD_eq_getElem?_getD, List.getElem?_map, hx]; rfl
  rw [er] at hc
  exact ⟨g, o, c, _, _, rfl, hc 0 (by omega), by rw [Nat.add_assoc]; exact hc 1 (by omega), h4, h5, h6⟩
set_option maxHeartbeats 1000000 in
theorem refuses_any (lv : Value) (L : List Ac) (t : Int) (tn : Nat) (pa : Option Addr) (pc : Nat) (ps : List Pt) (w : World) (hE : EnvA w) (hl : RowsIn w lv 3 (L.map Ac.cells)) (ho : ∀ a ∈ L, a.ok w)
    (hx : (⟨t, tn, .slice pa ps.length pc, ps⟩ : Ac).ok w) :
    Calls Tryz.prog 4 #[lv, .agg #[.int .i64 t, .int .u32 tn, .slice pa ps.length pc]] w fun e w' => e = .returned (.bool true) ∧ Below w.heap.size w w' := by
  obtain ⟨a, c, rfl⟩ := ac_form hl
  obtain ⟨w1, hw1⟩ : ∃ W, W = w.alloc (.cells #[.int .i64 t, .int .u32 tn, .slice pa ps.length pc] 38) := ⟨_, rfl⟩
  have hb1 : Below w.heap.size w w1 := by rw [hw1]; exact below_alloc _ _
  have hob : w1.heap[w.heap.size]? = some (.cells #[.int .i64 t, .int .u32 tn, .slice pa ps.length pc] 38 (0, 0)) := by rw [hw1]; exact alloc_block _ _ _ _
  obtain ⟨y0, y1, y2⟩ := box3c hob
  have B1 := Lib.hid hb1
  have HE := Lib.hid (hE.below hb1)
  have HL := Lib.hid (hl.below hb1)
  have HO : Hid (∀ a ∈ L, a.ok w1) := fun a ha => (ho a ha).below hb1
  have HX := Lib.hid (hx.below hb1)
  have KX : Hid (∀ W, Below w1.heap.size w1 W → W.cell? ⟨w.heap.size, 0, none⟩ = some (.int .i64 t) ∧ W.cell? ⟨w.heap.size, 1, none⟩ = some (.int .u32 tn) ∧ W.cell? ⟨w.heap.size, 2, none⟩ = some (.slice pa ps.length pc)) := by
    have q0 := y0; have q1 := y1; have q2 := y2
    exact fun W hb => ⟨stays hb q0, stays hb q1, stays hb q2⟩
  clear hl ho hE hx hob hb1
  go_enter Tryz.func4, Tryz.ntmps4
  go_wp2_with fail
  rw [← hw1]
  clear hw1
  refine (great_any _ L w1 HL.out HO.out).mono ?_
  rintro e w1' ⟨b, rfl, hb, rfl⟩
  cases b with
  | true =>
    clear hb
    go_wp2_with fail
    go_ret
    exact ⟨rfl, B1.out⟩
  | false =>
  obtain ⟨h60, hsm⟩ := hb rfl
  have HS := Lib.hid hsm
  have H60 := Lib.hid h60
  clear hb hsm h60
  go_wp2_with fail
  obtain ⟨w2, hw2⟩ : ∃ W, W = w1.alloc (.cells #[.int .i64 t, .int .u32 tn, .slice pa ps.length pc] 38) := ⟨_, rfl⟩
  rw [← hw2]
  have hb2 : Below w1.heap.size w1 w2 := by rw [hw2]; exact below_alloc _ _
  have hob : w2.heap[w1.heap.size]? = some (.cells (⟨t, tn, .slice pa ps.length pc, ps⟩ : Ac).cells.toArray 38 (0, 0)) := by rw [hw2]; exact alloc_block _ _ _ _
  have HX2 := Lib.hid (HX.out.below hb2)
  have GX := Lib.hid (great_any _ [⟨t, tn, .slice pa ps.length pc, ps⟩] w2 (act_row hob) (fun a ha => by simp at ha; subst ha; exact HX2.out))
  have B2 := Lib.hid hb2
  clear hw2 hob hb2 y0 y1 y2
  refine GX.out.mono ?_
  rintro e w2' ⟨b, rfl, hb, rfl⟩
  clear GX
  cases b with
  | true =>
    clear hb
    go_wp2_with fail
    go_ret
    exact ⟨rfl, onward B2.out B1.out⟩
  | false =>
  have H2 : Hid ((⟨t, tn, .slice pa ps.length pc, ps⟩ : Ac).small) := (hb rfl).2 _ (by simp)
  have H40 : Hid (ps.length ≤ 40) := H2.out.1
  have HS2 : Hid (∀ q ∈ ps, q.a.size ≤ 100 ∧ Acct.inInt q.n) := fun q hq => ⟨H2.out.2 q hq, HX.out.2.2.2 q hq⟩
  have HTN : Hid (tn < 4294967296) := by have := HX.out.2.1.2; dsimp only at this; show _ < _; omega
  have HR : Hid (∀ W, Below w1.heap.size w1 W → RowsIn W (.slice pa ps.length pc) 2 (ps.map Pt.cells)) := fun W hb => (HX.out.below hb).1
  clear hb
  go_wp2_with fail
  refine (made_any _ L w2 (HE.out.below B2.out) (HL.out.below B2.out) (fun a ha => (HO.out a ha).below B2.out) H60.out HS.out).mono ?_
  rintro e w3 ⟨p, b1, b2, dv, rfl, hm, -, hb3, hp, hb1, hb2⟩
  have B3 : Hid (Below w1.heap.size w1 w3) := onward hb3 B2.out
  have M3 := Lib.hid hm
  have P3 : Hid (w1.heap.size ≤ b1 ∧ w1.heap.size ≤ b2) := by have := B2.out.size; exact ⟨by omega, by omega⟩
  obtain ⟨c', hc', hj⟩ := made_jn L (.map []) 0 jn_empty (by have := H60.out; omega)
  have HJ := Lib.hid hj
  have HC : Hid (c' ≤ 60) := by have := H60.out; show _ ≤ _; omega
  have JS3 := Lib.hid hm
  have HPP : w1.heap.size ≤ p := by have := B2.out.size; omega
  clear hm hb3 hp hb1 hb2 hc' hj
  generalize (madeD (.map []) L).1 = D at *
  have P3p : Hid (w1.heap.size ≤ p) := HPP
  clear HPP
  go_wp2_with fail
  refine (range_any w3 M3.out (by decide) _ _ [] [] (nil_bytes _) (nil_bytes _)).mono ?_
  rintro e w4 ⟨v4, rfl, hp4, hb4⟩
  obtain ⟨va, vc, e4⟩ := hp4.slice
  rw [pairsR_len HJ.out.isM] at e4
  subst e4
  have A4 := Lib.hid hp4
  have M4 := Lib.hid (M3.out.below hb4)
  have B4 : Hid (Below w1.heap.size w1 w4) := onward hb4 B3.out
  have LX := Lib.hid (last_any w4 (M3.out.below hb4))
  rw [last_num HJ.out] at LX
  clear hp4 hb4 M3
  go_wp2_with fail
  refine LX.out.mono ?_
  rintro e w5 ⟨rfl, hb5⟩
  have A5 := Lib.hid (A4.out.below hb5)
  have B5 : Hid (Below w1.heap.size w1 w5) := onward hb5 B4.out
  have JS : Hid (JnlS w5 p b1 b2 3000 D (.map [])) := ⟨M4.out.below hb5, HJ.out.isM, HJ.out.wf, by rw [HJ.out.last]; have := HC.out; omega⟩
  have PX := Lib.hid (jn_post t tn (.slice pa ps.length pc) ps w5 (HE.out.below B5.out) JS.out (by decide) (HR.out _ B5.out) H40.out HTN.out HS2.out)
  obtain ⟨z0, z1, z2⟩ := KX.out w5 B5.out
  clear hb5 A4 M4 LX JS
  rcases postO_cases HJ.out (by have := HC.out; omega) t tn ps with ⟨er, he, hpo⟩ | ⟨hpo, hj2, g1, g2, g3, g4, g5⟩
  · rw [hpo] at PX
    have hne : er ≠ 0 := by omega
    have HER := Lib.hid he
    clear he hpo
    go_wp2_with fail
    refine PX.out.mono ?_
    rintro e w6 ⟨rfl, hm, ht⟩
    have B6 : Hid (Below w1.heap.size w1 w6) := B5.out.trans (ht.below B5.out.size P3.out.1)
    have M6 : Hid (MemS w6 p b1 b2 (-1) 3042 D (.map [])) := hm
    have A6 := Lib.hid (A5.out.turned ht)
    clear hm ht PX z0 z1 z2 A5
    go_wp2_with fail
    refine (range_any w6 M6.out (by decide) _ _ [] [] (nil_bytes _) (nil_bytes _)).mono ?_
    rintro e w7 ⟨v7, rfl, hp7, hb7⟩
    obtain ⟨vb, vd, e7⟩ := hp7.slice
    rw [pairsR_len HJ.out.isM] at e7
    subst e7
    have C7 := Lib.hid hp7
    have A7 := Lib.hid (A6.out.below hb7)
    have B7 : Hid (Below w1.heap.size w1 w7) := onward hb7 B6.out
    have LX := Lib.hid (last_any w7 (M6.out.below hb7))
    rw [last_num HJ.out] at LX
    clear hp7 hb7 M6 A6
    go_wp2_with fail
    refine LX.out.mono ?_
    rintro e w8 ⟨rfl, hb8⟩
    have C8 := Lib.hid (C7.out.below hb8)
    have A8 := Lib.hid (A7.out.below hb8)
    have B8 : Hid (Below w1.heap.size w1 w8) := onward hb8 B7.out
    have HPL := Lib.hid (pairsR_len HJ.out.isM)
    have HSM : Hid (size D ≤ 3042) := by have := JS3.out.now.size_le; show _ ≤ _; omega
    clear hb8 C7 A7 LX JS3
    generalize size D = sz at *
    go_wp2_with fail
    go_loopw [17] (fun iv wr => ∃ j : Nat, j ≤ sz ∧ iv = .int .i64 j ∧ Hid (Below w8.heap.size w8 wr)) (fun iv _ => sz - (intOf iv).toNat)
    case atStart => exact ⟨0, by omega, rfl, Below.refl _ _⟩
    case round =>
      obtain ⟨j, hj, rfl, BR⟩ := hrel
      have hsm := HSM.out
      by_cases hlt : j < sz
      · have hz : (j : Int) < (sz : Int) := by omega
        obtain ⟨y, hy⟩ : ∃ y, (pairsR D [] [])[j]? = some y := ⟨_, List.getElem?_eq_getElem (by rw [HPL.out]; exact hlt)⟩
        obtain ⟨g, o, ca, x1, x2, e1, xc1, xc2, X1, X2, -⟩ := (A8.out.below BR.out).at hy
        obtain ⟨g', o', cb, y1, y2, e2, yc1, yc2, Y1, Y2, -⟩ := (C8.out.below BR.out).at hy
        rw [HPL.out] at e1 e2
        injection e1 with e1 _ _
        injection e2 with e2 _ _
        subst e1
        subst e2
        have V1 : ∀ m, (convert 61 9 x1).run Tryz.prog (wr.drewN m) = .ok (.string ⟨y.1.toArray⟩) (wr.drewN m) := fun m => conv_bytes (X1.below (World.below_drewN (Below.refl _ _) m))
        have V2 : ∀ m, (convert 61 9 x2).run Tryz.prog (wr.drewN m) = .ok (.string ⟨y.2.toArray⟩) (wr.drewN m) := fun m => conv_bytes (X2.below (World.below_drewN (Below.refl _ _) m))
        have V3 : ∀ m, (convert 61 9 y1).run Tryz.prog (wr.drewN m) = .ok (.string ⟨y.1.toArray⟩) (wr.drewN m) := fun m => conv_bytes (Y1.below (World.below_drewN (Below.refl _ _) m))
        have V4 : ∀ m, (convert 61 9 y2).run Tryz.prog (wr.drewN m) = .ok (.string ⟨y.2.toArray⟩) (wr.drewN m) := fun m => conv_bytes (Y2.below (World.below_drewN (Below.refl _ _) m))
        obtain ⟨k1, k2⟩ := y
        generalize (⟨k1.toArray⟩ : ByteArray) = s1 at *
        generalize (⟨k2.toArray⟩ : ByteArray) = s2 at *
        clear hy X1 X2 Y1 Y2
        go_upto_region 18 with fail
        go_quiet (fail)
        have BQ := Lib.hid (World.below_drewN (Below.refl wr.heap.size wr) nq)
        clear V1 V2 V3 V4 xc1 xc2 yc1 yc2
        go_wp2_with fail
        go_roundw
        case rel => exact ⟨j + 1, by omega, by go_num, onward BQ.out BR.out⟩
        case measure => simp [intOf]; omega
      · have dk : decide ((j : Int) < ((sz : Nat) : Int)) = false := decide_eq_false (by omega)
        have B9 : Hid (Below w1.heap.size w1 wr) := onward BR.out B8.out
        have GO := Lib.hid (posts17_any wr (HE.out.below B9.out))
        rcases HER.out with rfl | rfl | rfl <;>
        · clear hne HER
          go_wp2_with fail
          refine GO.out.mono ?_
          rintro e w10 ⟨rfl, hb⟩
          have B10 := Lib.hid (onward (onward hb B9.out) B1.out)
          clear hb
          go_wp2_with fail
          go_ret
          exact ⟨rfl, B10.out⟩
  · rw [hpo] at PX
    have J2 := Lib.hid hj2
    clear hpo hj2 g1 g2 g3 g4 g5
    go_wp2_with fail
    refine PX.out.mono ?_
    rintro e w6 ⟨rfl, hm, ht⟩
    have B6 : Hid (Below w1.heap.size w1 w6) := B5.out.trans (ht.below B5.out.size P3.out.1)
    have M6 : Hid (MemS w6 p b1 b2 (-1) 3042 (postD D t tn ps) (.map [])) := hm
    clear hm ht PX z0 z1 z2 A5
    go_wp2_with fail
    refine (range_any w6 M6.out (by decide) _ _ [] [] (nil_bytes _) (nil_bytes _)).mono ?_
    rintro e w7 ⟨v7, rfl, hp7, hb7⟩
    have B7 : Hid (Below w1.heap.size w1 w7) := onward hb7 B6.out
    have LX := Lib.hid (last_any w7 (M6.out.below hb7))
    rw [last_num J2.out] at LX
    clear hp7 hb7 M6
    go_wp2_with fail
    refine LX.out.mono ?_
    rintro e w8 ⟨rfl, hb8⟩
    have B8 : Hid (Below w1.heap.size w1 w8) := onward hb8 B7.out
    have GO := Lib.hid (posts17_any w8 (HE.out.below B8.out))
    have hw : IntKind.u64.wrap ((c' : Int) + 1) = (c' : Int) + 1 := IntWalk.u64_in _ (by have := HC.out; omega)
    clear hb8 LX
    go_wp2_with fail
    refine GO.out.mono ?_
    rintro e w10 ⟨rfl, hb⟩
    have B10 := Lib.hid (onward (onward hb B8.out) B1.out)
    clear hb
    go_wp2_with fail
    go_ret
    exact ⟨rfl, B10.out⟩
end Go.Proofs.YtecbnhmnhcpcmaaGreatDoor
