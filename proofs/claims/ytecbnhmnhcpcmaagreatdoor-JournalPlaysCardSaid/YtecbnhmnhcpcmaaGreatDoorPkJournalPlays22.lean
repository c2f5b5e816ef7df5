/- The walk of journal.Post. (Printed by gen_jno.py.) -/
import Derived.Test.YtecbnhmnhcpcmaaGreatDoorPkJournalPlays20
/-! The walk of journal.Post. (Printed by gen_jno.py.) -/
namespace Go.Proofs.YtecbnhmnhcpcmaaGreatDoor
open Go.RowKit Go.WideMaps Go.Maps
set_option linter.unusedVariables false
set_option linter.unusedSimpArgs false
set_option maxRecDepth 100000
theorem four_cells {w : World} {b : Nat} {T : Nat} {x0 x1 x2 x3 : Value} (h : w.heap[b]? = some (.cells #[x0, x1, x2, x3] T (0, 0))) : w.cell? ⟨b, 0, none⟩ = some x0 ∧ w.cell? ⟨b, 1, none⟩ = some x1 ∧ w.cell? ⟨b, 2, none⟩ = some x2 ∧ w.cell? ⟨b, 3, none⟩ = some x3 := post_cells h
theorem int_elem (n : Int) (h : Acct.inInt n) : plainElem (H := Unit) Tryz.prog 2 (.int .i64 n) = some (.lit (.int .i64 n), []) := plainElem_int Tryz.underlying2 (by
  obtain ⟨h1, h2⟩ := h
  have h1' : (-9223372036854775808 : Int) ≤ n := h1
  have h2' : n ≤ (9223372036854775807 : Int) := h2
  simp only [Lit.wf, Bool.and_eq_true, decide_eq_true_eq]
  exact ⟨h1', h2'⟩)
theorem bal_in {D : DM} (s : ByteArray) : Acct.inInt (balV D s).1 := by
  unfold balV Acct.inInt
  split
  · show -9223372036854775808 ≤ wrap64 _ ∧ wrap64 _ ≤ 9223372036854775807
    unfold wrap64
    omega
  · show -9223372036854775808 ≤ (0 : Int) ∧ (0 : Int) ≤ 9223372036854775807
    omega
theorem nb_in {D : DM} (p : Pt) : Acct.inInt (nbV D p).1 := by
  unfold nbV sumE Acct.inInt
  split
  · assumption
  · show -9223372036854775808 ≤ (0 : Int) ∧ (0 : Int) ≤ 9223372036854775807
    omega
noncomputable abbrev nbD (D : DM) (p : Pt) : DM := .lit (.int .i64 (nbV D p).1)
set_option maxHeartbeats 16000000 in
theorem post_any {p b1 b2 n : Nat} {room : Int} {D D2 : DM} (time : Int) (ten : Nat) (lv : Value) (L : List Pt) (w : World) (hE : EnvA w) (hM : MemS w p b1 b2 room n D D2) (hW : WFJ D) (hn : n < 900000) (hlast : lastN D + 1 < 18446744073709551616) (hl : RowsIn w lv 2 (L.map Pt.cells)) (hL : L.length ≤ 40) (ht : ten < 4294967296) (hs : ∀ q ∈ L, q.a.size ≤ 100 ∧ Acct.inInt q.n) :
    Calls Tryz.prog 10 #[memI p, .int .i64 time, .int .u32 ten, lv] w (PostEnd p b1 b2 (n + L.length + 2) room D2 (postF room D time ten L) w) := by
  have HE := Lib.hid hE
  have HM := Lib.hid hM
  have HL := Lib.hid hl
  have HS := Lib.hid hs
  obtain ⟨a, c, rfl⟩ := pt_form hl
  have P1X := Lib.hid (fun (W : World) (hb : Below w.heap.size w W) => putp_any 1 time ten _ L W (hl.below hb) (by omega) ht)
  have P2X := Lib.hid (fun (W : World) (hb : Below w.heap.size w W) => putp_any (lastN D + 1) time ten _ L W (hl.below hb) hlast ht)
  have MX := Lib.hid (fun (W : World) (hb : Below w.heap.size w W) => may_any _ L W (hE.below hb) (hl.below hb) (by omega) (fun q hq => by have := (hs q hq).1; omega))
  have E1X := Lib.hid (fun (W : World) (hb : Below w.heap.size w W) => even_all _ L W (hE.below hb) (hl.below hb) (by omega) (fun q hq => ⟨by have := (hs q hq).1; omega, (hs q hq).2⟩))
  have E2X := Lib.hid (fun (W : World) (hb : Below w.heap.size w W) => even_units _ L W (hE.below hb) (hl.below hb) (by omega) (fun q hq => ⟨by have := (hs q hq).1; omega, (hs q hq).2⟩))
  have BX := Lib.hid (fun (s : ByteArray) (hz : s.size ≤ 100) (W : World) (hb : Below w.heap.size w W) => bal_any s W (hE.below hb) (hM.below hb) (by omega))
  have LX := Lib.hid (fun (W : World) (hb : Below w.heap.size w W) => last_any W (hM.below hb))
  obtain ⟨wl2, wl0, wl1⟩ := hW.num (k := [113]) (.inr rfl)
  have WL2 := Lib.hid wl2
  have WL1 : Hid ((numAt D [113]).1 = ((lastN D : Nat) : Int)) := by show _ = _; unfold lastN; omega
  have WB : Hid (∀ s : ByteArray, accB s = true → (balV D s).2 = 0) := fun s h => by
    unfold balV
    rw [if_pos h]
    exact (hW.num (k := balK s) (.inl rfl)).1
  clear hE hM hl hs hW wl0 wl1 wl2
  have B0 := Lib.hid (below_alloc w (.cells #[.int .u64 1, .int .i64 time, .int .u32 ten, .slice a L.length c] 49))
  have G0 := Lib.hid (heap_alloc_new w (.cells #[.int .u64 1, .int .i64 time, .int .u32 ten, .slice a L.length c] 49))
  go_enter Tryz.func10, Tryz.ntmps10
  go_wp2_with fail
  generalize w.alloc (.cells #[.int .u64 1, .int .i64 time, .int .u32 ten, .slice a L.length c] 49) = W0 at *
  refine (P1X.out _ B0.out).mono ?_
  rintro e w1 ⟨hb, hpp⟩
  have Y1 := Lib.hid hb
  have B1 := Lib.hid (onward hb B0.out)
  clear hb P1X
  cases hp : postsB 1 time L
  · rw [if_neg (by rw [hp]; decide)] at hpp
    subst hpp
    have HR : Hid (postF room D time ten L = (0, 1, D)) := if_pos (fun h => by rw [hp] at h; cases h.1)
    clear hp
    go_wp2_with fail
    go_ret2
    exact PostEnd.same HR.out HM.out B1.out (by omega) rfl
  rw [if_pos hp] at hpp
  obtain ⟨v1, rfl, -⟩ := hpp
  obtain ⟨o1, o2, o3, o4, o5, o6⟩ := posts_yes hp
  go_wp2_with fail
  refine (MX.out _ B1.out).mono ?_
  rintro e w2 ⟨rfl, hb⟩
  have Y2 := Lib.hid (onward hb Y1.out)
  have B2 := Lib.hid (onward hb B1.out)
  clear hb MX Y1 B1
  cases hm : mayJ L
  · have HR : Hid (postF room D time ten L = (0, 1, D)) := if_pos (fun h => by rw [hm] at h; cases h.2)
    clear hm hp
    go_wp2_with fail
    go_ret2
    exact PostEnd.same HR.out HM.out B2.out (by omega) rfl
  have hmay := hm
  unfold mayJ at hm
  rw [Bool.and_eq_true, Bool.and_eq_true] at hm
  have HACC : Hid (∀ q ∈ L, accB q.a = true) := fun q hq => by simpa using List.all_eq_true.1 hm.1 q hq
  have HAP := Lib.hid hm.2.2
  clear hm
  go_wp2_with fail
  refine (E1X.out _ B2.out).mono ?_
  rintro e w3 ⟨rfl, hb⟩
  have Y3 := Lib.hid (onward hb Y2.out)
  have B3 := Lib.hid (onward hb B2.out)
  clear hb E1X Y2 B2
  cases he1 : evenB allP L
  · have HR : Hid (postF room D time ten L = (0, 32, D)) := by
      show _ = _
      unfold postF
      rw [if_neg (by simp [hp, hmay]), if_pos (by simp [he1])]
    clear he1 hp hmay
    go_wp2_with fail
    go_ret2
    exact PostEnd.same HR.out HM.out B3.out (by omega) rfl
  go_wp2_with fail
  refine (E2X.out _ B3.out).mono ?_
  rintro e w4 ⟨rfl, hb⟩
  have Y4 := Lib.hid (onward hb Y3.out)
  have B4 := Lib.hid (onward hb B3.out)
  clear hb E2X Y3 B3
  cases he2 : evenB unitP L
  · have HR : Hid (postF room D time ten L = (0, 32, D)) := by
      show _ = _
      unfold postF
      rw [if_neg (by simp [hp, hmay]), if_pos (by simp [he2])]
    clear he1 he2 hp hmay
    go_wp2_with fail
    go_ret2
    exact PostEnd.same HR.out HM.out B4.out (by omega) rfl
  have HP2 : Hid (postF room D time ten L = if L.any (overB D) = true then (0, 30, D)
      else if putE room D (106 :: big8 (lastN D + 1)) (postL (lastN D + 1) time ten L) ≠ 0 then (0, putE room D (106 :: big8 (lastN D + 1)) (postL (lastN D + 1) time ten L), D)
      else if (setAll room (pt D (106 :: big8 (lastN D + 1)) (postL (lastN D + 1) time ten L)) (L.map fun p => (balK p.a, toU (nbV D p).1))).1 ≠ 0 then (0, setAll room (pt D (106 :: big8 (lastN D + 1)) (postL (lastN D + 1) time ten L)) (L.map fun p => (balK p.a, toU (nbV D p).1)))
      else (((lastN D + 1 : Nat) : Int), setE room (setAll room (pt D (106 :: big8 (lastN D + 1)) (postL (lastN D + 1) time ten L)) (L.map fun p => (balK p.a, toU (nbV D p).1))).2 [113] (lastN D + 1), setD room (setAll room (pt D (106 :: big8 (lastN D + 1)) (postL (lastN D + 1) time ten L)) (L.map fun p => (balK p.a, toU (nbV D p).1))).2 [113] (lastN D + 1))) := by
    show _ = _
    unfold postF
    rw [if_neg (by simp [hp, hmay]), if_neg (by simp [he1, he2])]
  have HPB : Hid (postsB (lastN D + 1) time L = true) := by
    show _ = _
    have h := hp
    unfold postsB at h ⊢
    rw [Bool.and_eq_true] at h ⊢
    refine ⟨decide_eq_true ⟨by omega, ?_⟩, h.2⟩
    exact (of_decide_eq_true h.1).2
  clear he1 he2 hp hmay
  have hmm := @run_makeMap Tryz.prog
  have O5 := Lib.hid (World.ownsMap_made (H := Unit) w4 Tryz.prog 9 (plainElem Tryz.prog 2))
  have ba := below_alloc w4 (.map #[] 0)
  have Y5 := Lib.hid (onward ba Y4.out)
  have B5 := Lib.hid (onward ba B4.out)
  have hm4 : w.heap.size ≤ w4.heap.size := B4.out.size
  have hW0 : Hid (W0.heap.size ≤ w4.heap.size) := Y4.out.size
  have hq4 : w.heap.size < w4.heap.size := Nat.lt_of_lt_of_le (lt_of_block G0.out) Y4.out.size
  clear ba Y4 B4
  go_wp2_with fail
  generalize w4.alloc (.map #[] 0) = W5 at *
  go_loopw [53] (fun iv wr => ∃ k : Nat, k ≤ L.length ∧ iv = .int .i64 k ∧ Hid ((L.take k).any (overB D) = false) ∧ Hid (wr.ownsMap Tryz.prog 9 (plainElem Tryz.prog 2) w4.heap.size k (putAll (nbD D) (L.take k))) ∧ Hid (Below W0.heap.size W0 wr) ∧ Hid (Below w.heap.size w wr)) (fun iv _ => L.length - (intOf iv).toNat)
  case atStart => exact ⟨0, by omega, rfl, rfl, O5.out, Y5.out, B5.out⟩
  case round =>
    obtain ⟨k, hk, rfl, HA, OR, YR, BR⟩ := hrel
    by_cases hlt : k < L.length
    · obtain ⟨g, o, rfl, y0, y1⟩ := pt_cells (HL.out.below BR.out) k hlt
      have hz : (k : Int) < L.length := by omega
      obtain ⟨h1, h2⟩ := HS.out L[k] (List.getElem_mem hlt)
      have ha := HACC.out L[k] (List.getElem_mem hlt)
      have HT : Hid ((L.take (k + 1)).any (overB D) = overB D L[k]) := by
        show _ = _
        rw [List.take_succ_eq_append_getElem hlt, List.any_append, HA.out]
        simp
      have HK : Hid (putAll (nbD D) (L.take (k + 1)) = (putAll (nbD D) (L.take k)).put (keyP L[k]) (nbD D L[k])) := by
        show _ = _
        rw [List.take_succ_eq_append_getElem hlt, putAll_snoc]
      have HF : Hid (overB D L[k] = true → postF room D time ten L = (0, 30, D)) := fun h => by
        rw [HP2.out]
        exact if_pos (List.any_eq_true.2 ⟨L[k], List.getElem_mem hlt, h⟩)
      generalize L[k] = q at *
      obtain ⟨s, m⟩ := q
      dsimp only at y0 y1 h1 h2 ha
      have hb0 := WB.out s ha
      have hbi := bal_in (D := D) s
      have ba := below_alloc wr (.cells #[.string s, .int .i64 m] 41)
      have P1 := Lib.hid (heap_alloc_new wr (.cells #[.string s, .int .i64 m] 41))
      have BV := Lib.hid (onward ba BR.out)
      have YV := Lib.hid (onward ba YR.out)
      have OV := Lib.hid (OR.out.alloc (.cells #[.string s, .int .i64 m] 41))
      clear ba BR YR OR ha
      go_wp2_with fail
      generalize wr.alloc (.cells #[.string s, .int .i64 m] 41) = V at *
      refine (BX.out s h1 _ BV.out).mono ?_
      rintro e w6 ⟨rfl, hb⟩
      have B6 := Lib.hid (onward hb BV.out)
      have Y6 := Lib.hid (onward hb YV.out)
      have O6 := Lib.hid (OV.out.kept (row := none) ⟨hb.os, hb.tape, hb.output, hb.size, fun k hk _ => hb.block k hk⟩ (by simp))
      have P6 := Lib.hid (stays_block hb P1.out)
      obtain ⟨q0, q1⟩ := part_cells2 P6.out
      rw [hb0]
      clear hb OV P1 BV YV hb0
      go_wp2_with fail
      refine (addm_any (balV D s).1 m _ hbi h2).mono ?_
      have hnb : sumE [(balV D s).1, m] = nbV D ⟨s, m⟩ := rfl
      rw [hnb]
      have hni := nb_in (D := D) ⟨s, m⟩
      have HO : Hid (overB D ⟨s, m⟩ = decide ((nbV D ⟨s, m⟩).2 ≠ 0 ∨ (nbV D ⟨s, m⟩).1 < -4611686018427387904 ∨ 4611686018427387904 < (nbV D ⟨s, m⟩).1)) := rfl
      have HKD : Hid (nbD D ⟨s, m⟩ = .lit (.int .i64 (nbV D ⟨s, m⟩).1)) := rfl
      clear hnb q0 q1
      rintro e w7 ⟨rfl, hb⟩
      have B7 := Lib.hid (onward hb B6.out)
      have Y7 := Lib.hid (onward hb Y6.out)
      have O7 := Lib.hid (O6.out.kept (row := none) ⟨hb.os, hb.tape, hb.output, hb.size, fun k hk _ => hb.block k hk⟩ (by simp))
      obtain ⟨q0, q1⟩ := part_cells2 (stays_block hb P6.out)
      generalize nbV D ⟨s, m⟩ = nb at *
      obtain ⟨z, er⟩ := nb
      dsimp only at hni HO HKD
      clear hb O6 P6 B6 Y6
      by_cases hov : er ≠ 0 ∨ z < -4611686018427387904 ∨ 4611686018427387904 < z
      · have HR := Lib.hid (HF.out (by rw [HO.out]; exact decide_eq_true hov))
        have hcase : er ≠ 0 ∨ (er = 0 ∧ z < -4611686018427387904) ∨ (er = 0 ∧ -4611686018427387904 ≤ z ∧ 4611686018427387904 < z) := by omega
        clear hov HF HO HT HK
        rcases hcase with h | ⟨rfl, h⟩ | ⟨rfl, h, h'⟩
        · have d1 : (er != 0) = true := by rw [bne_iff_ne]; exact h
          go_wp2_with fail
          go_ret2
          exact PostEnd.same HR.out HM.out B7.out (by omega) rfl
        · have d2 : decide (z < -4611686018427387904) = true := decide_eq_true h
          go_wp2_with fail
          go_ret2
          exact PostEnd.same HR.out HM.out B7.out (by omega) rfl
        · have d2 : decide (z < -4611686018427387904) = false := decide_eq_false (by omega)
          have d3 : decide (4611686018427387904 < z) = true := decide_eq_true h'
          go_wp2_with fail
          go_ret2
          exact PostEnd.same HR.out HM.out B7.out (by omega) rfl
      · have HT2 : Hid ((L.take (k + 1)).any (overB D) = false) := by show _ = _; rw [HT.out, HO.out]; exact decide_eq_false hov
        obtain ⟨rfl, h, h'⟩ : er = 0 ∧ -4611686018427387904 ≤ z ∧ z ≤ 4611686018427387904 := by omega
        have d2 : decide (z < -4611686018427387904) = false := decide_eq_false (by omega)
        have d3 : decide (4611686018427387904 < z) = false := decide_eq_false (by omega)
        clear hov HF HO HT
        go_wp2_with (at_mapUpdate; refine wpList_mapUpdate_in _ rfl (.tmp 84) (.tmp 86) (.tmp 87) 86 rfl 9 2 keyStr Tryz.underlying86 (plainElem Tryz.prog 2) w4.heap.size k _ rfl O7.out (by unfold maxLen; omega) (.string s) (.int .i64 z) (.string s.data.toList) rfl rfl (key_ba s (by omega)) (.lit (.int .i64 z)) [] (int_elem z hni) ?_)
        intro w8 ho ht
        have O8 : Hid (w8.ownsMap Tryz.prog 9 (plainElem Tryz.prog 2) w4.heap.size (k + 1) (putAll (nbD D) (L.take (k + 1)))) := by
          show World.ownsMap _ _ _ _ _ _ _
          rw [HK.out, HKD.out]
          exact ho
        have B8 : Hid (Below w.heap.size w w8) := B7.out.grown ht.grown B7.out.size (fun k hk => by injection hk with hk; omega)
        have Y8 : Hid (Below W0.heap.size W0 w8) := Y7.out.grown ht.grown Y7.out.size (fun k hk => by injection hk with hk; rw [← hk]; exact hW0.out)
        clear ho ht O7 HK HKD
        go_wp2_with fail
        go_roundw
        case rel => exact ⟨k + 1, by omega, by go_num, HT2.out, O8.out, Y8.out, B8.out⟩
        case measure => simp [intOf]; omega
    · obtain rfl : k = L.length := by omega
      have HA2 := HA.out
      have OR2 := OR.out
      rw [List.take_length] at HA2 OR2
      have HP3 : Hid (postF room D time ten L = if putE room D (106 :: big8 (lastN D + 1)) (postL (lastN D + 1) time ten L) ≠ 0 then (0, putE room D (106 :: big8 (lastN D + 1)) (postL (lastN D + 1) time ten L), D)
          else if (setAll room (pt D (106 :: big8 (lastN D + 1)) (postL (lastN D + 1) time ten L)) (L.map fun p => (balK p.a, toU (nbV D p).1))).1 ≠ 0 then (0, setAll room (pt D (106 :: big8 (lastN D + 1)) (postL (lastN D + 1) time ten L)) (L.map fun p => (balK p.a, toU (nbV D p).1)))
          else (((lastN D + 1 : Nat) : Int), setE room (setAll room (pt D (106 :: big8 (lastN D + 1)) (postL (lastN D + 1) time ten L)) (L.map fun p => (balK p.a, toU (nbV D p).1))).2 [113] (lastN D + 1), setD room (setAll room (pt D (106 :: big8 (lastN D + 1)) (postL (lastN D + 1) time ten L)) (L.map fun p => (balK p.a, toU (nbV D p).1))).2 [113] (lastN D + 1))) := by
        show _ = _
        rw [HP2.out, if_neg (by rw [HA2]; decide)]
      have OM := Lib.hid OR2
      clear HA OR HA2 OR2 HP2 hlt
      have hwl : IntKind.u64.wrap (((lastN D : Nat) : Int) + 1) = ((lastN D + 1 : Nat) : Int) := by
        have e : IntKind.u64.wrap (((lastN D : Nat) : Int) + 1) = (((lastN D : Nat) : Int) + 1) % 18446744073709551616 := rfl
        rw [e]
        omega
      go_wp2_with fail
      refine (LX.out _ BR.out).mono ?_
      rw [WL2.out, WL1.out]
      rintro e w6 ⟨rfl, hb⟩
      have B6 := Lib.hid (onward hb BR.out)
      have Y6 := Lib.hid (onward hb YR.out)
      have O6 := Lib.hid (OM.out.kept (row := none) ⟨hb.os, hb.tape, hb.output, hb.size, fun k hk _ => hb.block k hk⟩ (by simp))
      have G6 := Lib.hid (stays_block Y6.out G0.out)
      clear hb LX BR YR OM
      obtain ⟨sq, hsq⟩ : ∃ sq, lastN D + 1 = sq := ⟨_, rfl⟩
      rw [hsq] at hwl HP3 P2X HPB hlast
      obtain ⟨z0, -, -, -⟩ := post_cells G6.out
      have hf : w6.frozen? ⟨w.heap.size, 0, none⟩ = false := free_of_row G6.out
      have G7 : Hid ((w6.setCell ⟨w.heap.size, 0, none⟩ (.int .u64 sq)).heap[w.heap.size]? = some (.cells #[.int .u64 sq, .int .i64 time, .int .u32 ten, .slice a L.length c] 49 (0, 0))) := set_block G6.out
      have B7 := Lib.hid (B6.out.setCell (Nat.le_refl _) (.int .u64 sq) : Below w.heap.size w (w6.setCell ⟨w.heap.size, 0, none⟩ (.int .u64 sq)))
      have O7 := Lib.hid (O6.out.setCell (a := ⟨w.heap.size, 0, none⟩) (by show w4.heap.size ≠ w.heap.size; omega) (.int .u64 sq))
      obtain ⟨x0, x1, x2, x3⟩ := post_cells G7.out
      clear G6 B6 Y6 O6
      go_wp2_with fail
      clear x0 x1 x2 x3 z0 hf
      generalize w6.setCell ⟨w.heap.size, 0, none⟩ (.int .u64 sq) = W7 at *
      refine (P2X.out _ B7.out).mono ?_
      rintro e w8 ⟨hb, hpp⟩
      rw [if_pos HPB.out] at hpp
      obtain ⟨v8, rfl, hv8⟩ := hpp
      obtain ⟨a8, c8, rfl⟩ := hv8.form
      have V8 := Lib.hid hv8
      have B8 := Lib.hid (onward hb B7.out)
      have G8 := Lib.hid (stays_block hb G7.out)
      have O8 := Lib.hid (O7.out.kept (row := none) ⟨hb.os, hb.tape, hb.output, hb.size, fun k hk _ => hb.block k hk⟩ (by simp))
      have hpl : (postL sq time ten L).length ≤ 1000000 := by
        unfold postL
        rw [List.length_append, headL_len]
        have := parts_len L (fun q hq => (o6 q hq).2.1)
        omega
      clear hb hv8 P2X B7 G7 O7
      have KS : Hid (∀ W, Below w8.heap.size w8 W → W.cell? ⟨w.heap.size, 0, none⟩ = some (.int .u64 sq)) := fun W hb => (post_cells (stays_block hb G8.out)).1
      have hmf : ∀ (fn : Fn) (first cap : Array Value) (w : World), (Instr.makeFunc fn first cap).run Tryz.prog w = .ok (.func fn first cap) w := fun _ _ _ _ => rfl
      have hna := nil_put p
      go_upto_region 24 with fail
      refine wp_region_held_drew (S := (fun W => W.cell? ⟨w.heap.size, 0, none⟩ = some (.int .u64 sq))) (by kernel_rfl) ?_ (fun hHeld => ?_)
      · (try dsimp only)
        exact KS.out _ (Below.refl _ _).drew
      refine Plan.start (plan := [0, 1, 2, 5, 6, 7, 8]) (fuel := 4) (by decide +kernel) (by assumption) ?_
      refine Plan.free (i := 0) (ds := some 105) (v := ?_) rfl rfl rfl ?_ (fun _ _ _ h => h) ?_
      rotate_left
      · (intro w hSw; (try dsimp only at hSw); go_simp; first | done | with_reducible rfl)
      (try simp only [Act.put, List.setIfInBounds_toArray, List.set_cons_zero, List.set_cons_succ])
      refine Plan.free (i := 1) (ds := some 106) (v := ?_) rfl rfl rfl ?_ (fun _ _ _ h => h) ?_
      rotate_left
      · (intro w hSw; (try dsimp only at hSw); go_simp; first | done | with_reducible rfl)
      (try simp only [Act.put, List.setIfInBounds_toArray, List.set_cons_zero, List.set_cons_succ])
      refine Plan.free (i := 2) (ds := some 107) (v := ?_) rfl rfl rfl ?_ (fun _ _ _ h => h) ?_
      rotate_left
      · (intro w hSw; (try dsimp only at hSw); go_simp; first | done | with_reducible rfl)
      (try simp only [Act.put, List.setIfInBounds_toArray, List.set_cons_zero, List.set_cons_succ])
      refine Plan.free (i := 5) (ds := some 110) (v := ?_) rfl rfl rfl ?_ (fun _ _ _ h => h) ?_
      rotate_left
      · (intro w hSw; (try dsimp only at hSw); go_simp; first | done | with_reducible rfl)
      (try simp only [Act.put, List.setIfInBounds_toArray, List.set_cons_zero, List.set_cons_succ])
      refine Plan.free (i := 6) (ds := some 111) (v := ?_) rfl rfl rfl ?_ (fun _ _ _ h => h) ?_
      rotate_left
      · (intro w hSw; (try dsimp only at hSw); go_simp; first | done | with_reducible rfl)
      (try simp only [Act.put, List.setIfInBounds_toArray, List.set_cons_zero, List.set_cons_succ])
      refine Plan.free (i := 7) (ds := some 112) (v := ?_) rfl rfl rfl ?_ (fun _ _ _ h => h) ?_
      rotate_left
      · (intro w hSw; (try dsimp only at hSw); go_simp; first | done | with_reducible rfl)
      (try simp only [Act.put, List.setIfInBounds_toArray, List.set_cons_zero, List.set_cons_succ])
      refine Plan.free (i := 8) (ds := some 113) (v := ?_) rfl rfl rfl ?_ (fun _ _ _ h => h) ?_
      rotate_left
      · (intro w hSw; (try dsimp only at hSw); go_simp; first | done | with_reducible rfl)
      (try simp only [Act.put, List.setIfInBounds_toArray, List.set_cons_zero, List.set_cons_succ])
      refine Plan.stop (fun hHeld => ?_)
      refine wpAnyH_ready (rs := [3]) (by decide +kernel) (by simp) ?_
      refine AllReadyH.cons (o := _) rfl ?_ AllReadyH.nil
      intro K hK
      rw [if_pos (wanted_none (by rfl))]
      (go_simp; have Y9 := Lib.hid (onward (below_alloc w8.drew (.cells #[.int .u64 sq] 23)) (Below.refl _ _).drew); have N9 : Hid ((w8.drew.alloc (.cells #[.int .u64 sq] 23)).cell? ⟨w8.heap.size, 0, none⟩ = some (.int .u64 sq)) := cell_of_row (heap_alloc_new w8.drew _))
      refine hK.out _ _ ?_ (fun hHeld => ?_)
      · (try dsimp only)
        exact KS.out _ Y9.out
      clear hK K
      (try simp only [Act.put, List.setIfInBounds_toArray, List.set_cons_zero, List.set_cons_succ])
      refine wpAnyH_ready (rs := [4]) (by decide +kernel) (by simp) ?_
      refine AllReadyH.cons (o := _) rfl ?_ AllReadyH.nil
      intro K hK
      rw [if_pos (wanted_none (by rfl))]
      (go_simp; go_at_call 36; refine (key1_any 106 sq w8.heap.size _ hlast N9.out).mono ?_; rintro e w10 ⟨v10, rfl, hK, hb⟩; have K10 := Lib.hid hK; have Y10 := Lib.hid (onward hb Y9.out); clear hb hK)
      refine hK.out _ _ ?_ (fun hHeld => ?_)
      · (try dsimp only)
        exact KS.out _ Y10.out
      clear hK K
      (try simp only [Act.put, List.setIfInBounds_toArray, List.set_cons_zero, List.set_cons_succ])
      refine wpAnyH_ready (rs := [9]) (by decide +kernel) (by simp) ?_
      refine AllReadyH.cons (o := _) rfl ?_ AllReadyH.nil
      intro K hK
      rw [if_pos (wanted_none (by rfl))]
      (go_simp; have B10 := Lib.hid (onward Y10.out B8.out); refine (put_any w10 (HM.out.below B10.out) (by omega) _ _ (106 :: big8 sq) (postL sq time ten L) K10.out (V8.out.below Y10.out) (by simp [big8]) hpl).mono ?_; rintro e w11 ⟨rfl, hm, ht⟩; have M11 := Lib.hid hm; have T10 := Lib.hid ht; have T11 := Lib.hid ((Turned.of_below B10.out HM.out.now.isM).trans ht); clear hm ht)
      refine hK.out _ _ ?_ (fun hHeld => ?_)
      · (try dsimp only)
        exact T10.out.cell (KS.out _ Y10.out)
      clear hK K
      (try simp only [Act.put, List.setIfInBounds_toArray, List.set_cons_zero, List.set_cons_succ])
      refine Plan.start (plan := [10]) (fuel := 0) (by decide +kernel) (by assumption) ?_
      refine Plan.free (i := 10) (ds := some 22) (v := ?_) rfl rfl rfl ?_ (fun _ _ _ h => h) ?_
      rotate_left
      · (intro w hSw; (try dsimp only at hSw); go_simp; first | done | with_reducible rfl)
      (try simp only [Act.put, List.setIfInBounds_toArray, List.set_cons_zero, List.set_cons_succ])
      refine Plan.stop (fun hHeld => ?_)
      refine wpAnyH_done (by decide +kernel) ?_ _
      have HP4 := HP3.out
      by_cases hpe : putE room D (106 :: big8 sq) (postL sq time ten L) = 0
      case neg =>
        rw [if_pos hpe] at HP4
        have HR := Lib.hid HP4
        have HD : Hid (putD room D (106 :: big8 sq) (postL sq time ten L) = D) := if_neg hpe
        have M12 : Hid (MemS w11 p b1 b2 room (n + 1) D D2) := by rw [← HD.out]; exact M11.out
        have hne : (putE room D (106 :: big8 sq) (postL sq time ten L) != 0) = true := by rw [bne_iff_ne]; exact hpe
        clear HP4 HP3 HD M11 hpe
        generalize putE room D (106 :: big8 sq) (postL sq time ten L) = pe at *
        go_wp2_with fail
        go_ret2
        exact PostEnd.mk HR.out (M12.out.mono (by omega)) T11.out rfl
      rw [if_neg (by rw [hpe]; decide)] at HP4
      have HP5 := Lib.hid HP4
      have HD : Hid (putD room D (106 :: big8 sq) (postL sq time ten L) = pt D (106 :: big8 sq) (postL sq time ten L)) := if_pos hpe
      have M12 : Hid (MemS w11 p b1 b2 room (n + 1) (pt D (106 :: big8 sq) (postL sq time ten L)) D2) := by rw [← HD.out]; exact M11.out
      rw [hpe]
      have G11 := Lib.hid (T10.out.block (stays_block Y10.out G8.out))
      have hb1 : b1 < w.heap.size := HM.out.now.lt
      have O11 : Hid (w11.ownsMap Tryz.prog 9 (plainElem Tryz.prog 2) w4.heap.size L.length (putAll (nbD D) L)) := (O8.out.kept (row := none) ⟨Y10.out.os, Y10.out.tape, Y10.out.output, Y10.out.size, fun k hk _ => Y10.out.block k hk⟩ (by simp)).kept T10.out.grown (by intro e; injection e with e; omega)
      clear HP4 HP3 HD M11 hpe G8 O8 KS V8 K10 Y9 N9 Y10 B10 T10 B8
      generalize hD1 : pt D (106 :: big8 sq) (postL sq time ten L) = D1 at *
      clear hD1
      go_wp2_with fail
      go_loopw [120] (fun iv wr => ∃ (k : Nat) (Dk : DM), k ≤ L.length ∧ iv = .int .i64 k ∧ Hid (setAll room D1 (L.map fun p => (balK p.a, toU (nbV D p).1)) = setAll room Dk ((L.drop k).map fun p => (balK p.a, toU (nbV D p).1))) ∧ Hid (MemS wr p b1 b2 room (n + 1 + k) Dk D2) ∧ Hid (Turned b1 w wr) ∧ Hid (wr.heap[w.heap.size]? = some (.cells #[.int .u64 sq, .int .i64 time, .int .u32 ten, .slice a L.length c] 49 (0, 0))) ∧ Hid (wr.ownsMap Tryz.prog 9 (plainElem Tryz.prog 2) w4.heap.size L.length (putAll (nbD D) L))) (fun iv _ => L.length - (intOf iv).toNat)
      case atStart => exact ⟨0, D1, by omega, rfl, rfl, M12.out, T11.out, G11.out, O11.out⟩
      case round =>
        obtain ⟨k, Dk, hk, rfl, HSA, MR, TR, GR, OR⟩ := hrel
        by_cases hlt : k < L.length
        · obtain ⟨g, o, rfl, y0, y1⟩ := pt_cells (TR.out.rows HL.out (pt_rows L)) k hlt
          have hz : (k : Int) < L.length := by omega
          obtain ⟨h1, h2⟩ := HS.out L[k] (List.getElem_mem hlt)
          have hnv := bal_look OR.out HAP.out (List.getElem_mem hlt) h1
          have HST : Hid ((L.drop k).map (fun p => (balK p.a, toU (nbV D p).1)) = (balK L[k].a, toU (nbV D L[k]).1) :: (L.drop (k + 1)).map (fun p => (balK p.a, toU (nbV D p).1))) := by
            show _ = _
            rw [List.drop_eq_getElem_cons hlt, List.map_cons]
          have hni := nb_in (D := D) L[k]
          generalize L[k] = q at *
          generalize hzz : (nbV D q).1 = z at *
          clear hzz
          obtain ⟨s, m⟩ := q
          dsimp only at y0 y1 h1 h2 hnv HST
          have hu : IntKind.u64.wrap z = ((toU z : Nat) : Int) := by
            have e : IntKind.u64.wrap z = z % 18446744073709551616 := rfl
            rw [e]
            unfold toU
            omega
          have ba := below_alloc wr (.cells #[.string s, .int .i64 m] 41)
          have P1 := Lib.hid (heap_alloc_new wr (.cells #[.string s, .int .i64 m] 41))
          have MV := Lib.hid (MR.out.below ba)
          have TV := Lib.hid (TR.out.trans (Turned.of_below ba MR.out.now.isM))
          have GV := Lib.hid (stays_block ba GR.out)
          have LV : Hid (∀ W, W.heap[w4.heap.size]? = wr.heap[w4.heap.size]? → (Instr.lookup 86 (.map (some w4.heap.size)) (.string s) false).run Tryz.prog W = .ok (.int .i64 z) W) := hnv
          have om := OR.out.lt
          have OV := Lib.hid (OR.out.alloc (.cells #[.string s, .int .i64 m] 41))
          have LV2 : Hid (∀ W, Below (wr.alloc (.cells #[.string s, .int .i64 m] 41)).heap.size (wr.alloc (.cells #[.string s, .int .i64 m] 41)) W → (Instr.lookup 86 (.map (some w4.heap.size)) (.string s) false).run Tryz.prog W = .ok (.int .i64 z) W) := fun W hb => LV.out W ((onward hb ba).block _ om)
          have BA := Lib.hid ba
          have hvs : (wr.alloc (.cells #[.string s, .int .i64 m] 41)).heap.size = wr.heap.size + 1 := by simp
          clear ba MR TR GR OR hnv
          go_upto_region 30 with fail
          generalize wr.alloc (.cells #[.string s, .int .i64 m] 41) = V at *
          have KT : Hid (∀ W, Below V.heap.size V W → W.cell? ⟨wr.heap.size, 0, none⟩ = some (.string s) ∧ (Instr.lookup 86 (.map (some w4.heap.size)) (.string s) false).run Tryz.prog W = .ok (.int .i64 z) W) := fun W hb => ⟨(part_cells2 (stays_block hb P1.out)).1, LV2.out W hb⟩
          refine wp_region_held_drew (S := (fun W => W.cell? ⟨wr.heap.size, 0, none⟩ = some (.string s) ∧ (Instr.lookup 86 (.map (some w4.heap.size)) (.string s) false).run Tryz.prog W = .ok (.int .i64 z) W)) (by kernel_rfl) ?_ (fun hHeld => ?_)
          · (try dsimp only)
            exact KT.out _ (Below.refl _ _).drew
          refine Plan.start (plan := [0, 1, 2, 4, 5, 6, 7, 8]) (fuel := 3) (by decide +kernel) (by assumption) ?_
          refine Plan.free (i := 0) (ds := some 124) (v := ?_) rfl rfl rfl ?_ (fun _ _ _ h => h) ?_
          rotate_left
          · (intro w hSw; (try dsimp only at hSw); go_simp; first | done | with_reducible rfl)
          (try simp only [Act.put, List.setIfInBounds_toArray, List.set_cons_zero, List.set_cons_succ])
          refine Plan.free (i := 1) (ds := some 125) (v := ?_) rfl rfl rfl ?_ (fun _ _ _ h => h) ?_
          rotate_left
          · (intro w hSw; (try dsimp only at hSw); go_simp; first | done | with_reducible rfl)
          (try simp only [Act.put, List.setIfInBounds_toArray, List.set_cons_zero, List.set_cons_succ])
          refine Plan.free (i := 2) (ds := some 126) (v := ?_) rfl rfl rfl ?_ (fun _ _ _ h => h) ?_
          rotate_left
          · (intro w hSw; (try dsimp only at hSw); go_simp; first | done | with_reducible rfl)
          (try simp only [Act.put, List.setIfInBounds_toArray, List.set_cons_zero, List.set_cons_succ])
          refine Plan.free (i := 4) (ds := some 128) (v := ?_) rfl rfl rfl ?_ (fun _ _ _ h => h) ?_
          rotate_left
          · (intro w hSw; (try dsimp only at hSw); go_simp; first | done | with_reducible rfl)
          (try simp only [Act.put, List.setIfInBounds_toArray, List.set_cons_zero, List.set_cons_succ])
          refine Plan.free (i := 5) (ds := some 129) (v := ?_) rfl rfl rfl ?_ (fun _ _ _ h => h) ?_
          rotate_left
          · (intro w hSw; (try dsimp only at hSw); go_simp; first | done | with_reducible rfl)
          (try simp only [Act.put, List.setIfInBounds_toArray, List.set_cons_zero, List.set_cons_succ])
          refine Plan.free (i := 6) (ds := some 130) (v := ?_) rfl rfl rfl ?_ (fun _ _ _ h => h) ?_
          rotate_left
          · (intro w hSw; (try dsimp only at hSw); go_simp; first | done | with_reducible rfl)
          (try simp only [Act.put, List.setIfInBounds_toArray, List.set_cons_zero, List.set_cons_succ])
          refine Plan.free (i := 7) (ds := some 131) (v := ?_) rfl rfl rfl ?_ (fun _ _ _ h => h) ?_
          rotate_left
          · (intro w hSw; (try dsimp only at hSw); go_simp; first | done | with_reducible rfl)
          (try simp only [Act.put, List.setIfInBounds_toArray, List.set_cons_zero, List.set_cons_succ])
          refine Plan.free (i := 8) (ds := some 132) (v := ?_) rfl rfl rfl ?_ (fun _ _ _ h => h) ?_
          rotate_left
          · (intro w hSw; (try dsimp only at hSw); go_simp; first | done | with_reducible rfl)
          (try simp only [Act.put, List.setIfInBounds_toArray, List.set_cons_zero, List.set_cons_succ])
          refine Plan.stop (fun hHeld => ?_)
          refine wpAnyH_ready (rs := [3]) (by decide +kernel) (by simp) ?_
          refine AllReadyH.cons (o := _) rfl ?_ AllReadyH.nil
          intro K hK
          rw [if_pos (wanted_none (by rfl))]
          (go_simp; go_at_call 38; refine (jkey_any s _ (by omega)).mono ?_; rintro e w13 ⟨v13, rfl, hK, hb⟩; have K13 := Lib.hid hK; have Y13 := Lib.hid (onward hb (Below.refl _ _).drew); clear hb hK)
          refine hK.out _ _ ?_ (fun hHeld => ?_)
          · (try dsimp only)
            exact KT.out _ Y13.out
          clear hK K
          (try simp only [Act.put, List.setIfInBounds_toArray, List.set_cons_zero, List.set_cons_succ])
          refine wpAnyH_ready (rs := [9]) (by decide +kernel) (by simp) ?_
          refine AllReadyH.cons (o := _) rfl ?_ AllReadyH.nil
          intro K hK
          rw [if_pos (wanted_none (by rfl))]
          (go_simp; go_at_call 37; refine (set_any w13 (MV.out.below Y13.out) (by omega) v13 (balK s) (toU z) K13.out (balK_len s (by omega)) (toU_lt z)).mono ?_; rintro e w14 ⟨rfl, hm, ht⟩; have M14 := Lib.hid hm; have T13 := Lib.hid ht; have T14 := Lib.hid ((TV.out.trans (Turned.of_below Y13.out MV.out.now.isM)).trans ht); have G14 := Lib.hid (ht.block (stays_block Y13.out GV.out)); have O13 := Lib.hid (OV.out.kept (row := none) ⟨Y13.out.os, Y13.out.tape, Y13.out.output, Y13.out.size, fun k hk _ => Y13.out.block k hk⟩ (by simp)); have O14 := Lib.hid (O13.out.kept ht.grown (by intro e; injection e with e; omega)); clear hm ht)
          refine hK.out _ _ ?_ (fun hHeld => ?_)
          · (try dsimp only)
            exact ⟨T13.out.cell (KT.out _ Y13.out).1, LV.out _ ((T13.out.grown.block _ (Nat.lt_of_lt_of_le om (Nat.le_trans (by omega) Y13.out.size)) (by intro e; injection e with e; omega)).trans ((onward Y13.out BA.out).block _ om))⟩
          clear hK K
          (try simp only [Act.put, List.setIfInBounds_toArray, List.set_cons_zero, List.set_cons_succ])
          refine Plan.start (plan := [10]) (fuel := 0) (by decide +kernel) (by assumption) ?_
          refine Plan.free (i := 10) (ds := some 25) (v := ?_) rfl rfl rfl ?_ (fun _ _ _ h => h) ?_
          rotate_left
          · (intro w hSw; (try dsimp only at hSw); go_simp; first | done | with_reducible rfl)
          (try simp only [Act.put, List.setIfInBounds_toArray, List.set_cons_zero, List.set_cons_succ])
          refine Plan.stop (fun hHeld => ?_)
          refine wpAnyH_done (by decide +kernel) ?_ _
          by_cases hse : setE room Dk (balK s) (toU z) = 0
          case neg =>
            have hsa : setAll room D1 (L.map fun p => (balK p.a, toU (nbV D p).1)) = (setE room Dk (balK s) (toU z), setD room Dk (balK s) (toU z)) := by
              rw [HSA.out, HST.out]
              exact if_pos hse
            have HP6 := HP5.out
            rw [hsa] at HP6
            rw [if_pos hse] at HP6
            have HR := Lib.hid HP6
            have hne : (setE room Dk (balK s) (toU z) != 0) = true := by rw [bne_iff_ne]; exact hse
            clear HSA hsa HP6 HP5 hse HST
            generalize setE room Dk (balK s) (toU z) = pe at *
            go_wp2_with fail
            go_ret2
            exact PostEnd.mk HR.out (M14.out.mono (by omega)) T14.out rfl
          have HSA2 : Hid (setAll room D1 (L.map fun p => (balK p.a, toU (nbV D p).1)) = setAll room (setD room Dk (balK s) (toU z)) ((L.drop (k + 1)).map fun p => (balK p.a, toU (nbV D p).1))) := by
            show _ = _
            rw [HSA.out, HST.out]
            exact if_neg (by rw [hse]; decide)
          rw [hse]
          clear HSA HST hse
          go_wp2_with fail
          go_roundw
          case rel => exact ⟨k + 1, _, by omega, by go_num, HSA2.out, M14.out, T14.out, G14.out, O14.out⟩
          case measure => simp [intOf]; omega
        · obtain rfl : k = L.length := by omega
          have HSB := HSA.out
          rw [List.drop_length] at HSB
          have hsa : setAll room D1 (L.map fun p => (balK p.a, toU (nbV D p).1)) = (0, Dk) := HSB
          have HP6 := HP5.out
          rw [hsa] at HP6
          rw [if_neg (fun h => h rfl)] at HP6
          have HR := Lib.hid HP6
          clear HSA HSB hsa HP6 HP5 hlt
          have KS : Hid (∀ W, Below wr.heap.size wr W → W.cell? ⟨w.heap.size, 0, none⟩ = some (.int .u64 sq)) := fun W hb => (post_cells (stays_block hb GR.out)).1
          go_upto_region 34 with fail
          refine wp_region_held_drew (S := (fun W => W.cell? ⟨w.heap.size, 0, none⟩ = some (.int .u64 sq))) (by kernel_rfl) ?_ (fun hHeld => ?_)
          · (try dsimp only)
            exact KS.out _ (Below.refl _ _).drew
          refine Plan.start (plan := [0, 1, 2, 4, 5]) (fuel := 4) (by decide +kernel) (by assumption) ?_
          refine Plan.free (i := 0) (ds := some 138) (v := ?_) rfl rfl rfl ?_ (fun _ _ _ h => h) ?_
          rotate_left
          · (intro w hSw; (try dsimp only at hSw); go_simp; first | done | with_reducible rfl)
          (try simp only [Act.put, List.setIfInBounds_toArray, List.set_cons_zero, List.set_cons_succ])
          refine Plan.free (i := 1) (ds := some 139) (v := ?_) rfl rfl rfl ?_ (fun _ _ _ h => h) ?_
          rotate_left
          · (intro w hSw; (try dsimp only at hSw); go_simp; first | done | with_reducible rfl)
          (try simp only [Act.put, List.setIfInBounds_toArray, List.set_cons_zero, List.set_cons_succ])
          refine Plan.free (i := 2) (ds := some 140) (v := ?_) rfl rfl rfl ?_ (fun _ _ _ h => h) ?_
          rotate_left
          · (intro w hSw; (try dsimp only at hSw); go_simp; first | done | with_reducible rfl)
          (try simp only [Act.put, List.setIfInBounds_toArray, List.set_cons_zero, List.set_cons_succ])
          refine Plan.free (i := 4) (ds := some 142) (v := ?_) rfl rfl rfl ?_ (fun _ _ _ h => h) ?_
          rotate_left
          · (intro w hSw; (try dsimp only at hSw); go_simp; first | done | with_reducible rfl)
          (try simp only [Act.put, List.setIfInBounds_toArray, List.set_cons_zero, List.set_cons_succ])
          refine Plan.free (i := 5) (ds := some 143) (v := ?_) rfl rfl rfl ?_ (fun _ _ _ h => h) ?_
          rotate_left
          · (intro w hSw; (try dsimp only at hSw); go_simp; first | done | with_reducible rfl)
          (try simp only [Act.put, List.setIfInBounds_toArray, List.set_cons_zero, List.set_cons_succ])
          refine Plan.stop (fun hHeld => ?_)
          refine wpAnyH_ready (rs := [3]) (by decide +kernel) (by simp) ?_
          refine AllReadyH.cons (o := _) rfl ?_ AllReadyH.nil
          intro K hK
          rw [if_pos (wanted_none (by rfl))]
          (go_simp; go_at_call 36; refine (key0_any 113 _).mono ?_; rintro e w15 ⟨v15, rfl, hK, hb⟩; have K15 := Lib.hid hK; have Y15 := Lib.hid (onward hb (Below.refl _ _).drew); clear hb hK)
          refine hK.out _ _ ?_ (fun hHeld => ?_)
          · (try dsimp only)
            exact KS.out _ Y15.out
          clear hK K
          (try simp only [Act.put, List.setIfInBounds_toArray, List.set_cons_zero, List.set_cons_succ])
          refine wpAnyH_ready (rs := [6]) (by decide +kernel) (by simp) ?_
          refine AllReadyH.cons (o := _) rfl ?_ AllReadyH.nil
          intro K hK
          rw [if_pos (wanted_none (by rfl))]
          (go_simp; go_at_call 37; refine (set_any w15 (MR.out.below Y15.out) (by omega) v15 [113] sq K15.out (by simp) hlast).mono ?_; rintro e w16 ⟨rfl, hm, ht⟩; have M16 := Lib.hid hm; have T15 := Lib.hid ht; have T16 := Lib.hid ((TR.out.trans (Turned.of_below Y15.out MR.out.now.isM)).trans ht); clear hm ht)
          refine hK.out _ _ ?_ (fun hHeld => ?_)
          · (try dsimp only)
            exact T15.out.cell (KS.out _ Y15.out)
          clear hK K
          (try simp only [Act.put, List.setIfInBounds_toArray, List.set_cons_zero, List.set_cons_succ])
          refine Plan.start (plan := [7, 8]) (fuel := 0) (by decide +kernel) (by assumption) ?_
          refine Plan.free (i := 7) (ds := some 8) (v := ?_) rfl rfl rfl ?_ (fun _ _ _ h => h) ?_
          rotate_left
          · (intro w hSw; (try dsimp only at hSw); go_simp; first | done | with_reducible rfl)
          (try simp only [Act.put, List.setIfInBounds_toArray, List.set_cons_zero, List.set_cons_succ])
          refine Plan.free (i := 8) (ds := some 9) (v := ?_) rfl rfl rfl ?_ (fun _ _ _ h => h) ?_
          rotate_left
          · (intro w hSw; (try dsimp only at hSw); go_simp; first | done | with_reducible rfl)
          (try simp only [Act.put, List.setIfInBounds_toArray, List.set_cons_zero, List.set_cons_succ])
          refine Plan.stop (fun hHeld => ?_)
          refine wpAnyH_done (by decide +kernel) ?_ _
          go_wp2_with fail
          go_ret2
          exact PostEnd.mk HR.out (M16.out.mono (by omega)) T16.out rfl
end Go.Proofs.YtecbnhmnhcpcmaaGreatDoor
