/- The walks of civil's text functions (digits, Text, Parse). -/
import Derived.Test.YtmppkhjjlgngkaaGreatDoorCivB
import Derived.Test.YtmppkhjjlgngkaaGreatDoorCivS
import Derived.Test.YtmppkhjjlgngkaaGreatDoorShelf
import Derived.ShutString
import Derived.WalkSpells
import Derived.Lib.AppendIntMem
import Derived.Deep.RegionHeld3
namespace Go.Proofs.YtmppkhjjlgngkaaGreatDoor
open Go.RowKit Go.Shelf Civ
set_option linter.unusedVariables false
set_option linter.unusedSimpArgs false
/-- what lies in memory: the tables and errors that the calls read -/
structure Env (w : World) : Prop where
  lens : Lens w
  pow : Lib.TabIs Tryz.prog w "internal/strconv.uint64pow10" .u64 Lib.pow10Tab
  syn : ∃ t p, w.cell? ⟨3, 0, none⟩ = some (.iface t p)
  ran : ∃ t p, w.cell? ⟨4, 0, none⟩ = some (.iface t p)
theorem Env.below {w w' : World} (h : Env w) (hb : Below w.heap.size w w') : Env w' := by
  obtain ⟨h1, h2, ⟨t, p, h3⟩, ⟨t', p', h4⟩⟩ := h
  exact ⟨h1.below hb, Lib.tabBelow_of_tabIs h2 _ hb, ⟨t, p, (hb.cell (World.block_lt_of_cell? w _ h3)).trans h3⟩, ⟨t', p', (hb.cell (World.block_lt_of_cell? w _ h4)).trans h4⟩⟩
theorem Env.alloc {w : World} (h : Env w) (o : Obj) : Env (w.alloc o) := h.below ((Below.refl _ _).alloc (Nat.le_refl _) o)
theorem Env.drewN {w : World} (h : Env w) (n : Nat) : Env (w.drewN n) := h.below (World.below_drewN (Below.refl _ _) n)
theorem itoa_any (n : Int) (w : World) (hE : Env w) (h0 : -9223372036854775808 ≤ n) (h1 : n ≤ 9223372036854775807) :
    Calls Tryz.prog 47 #[.int .i64 n] w fun e w' => e = .returned (.string ⟨(Lib.itoa n).toArray⟩) ∧ Below w.heap.size w w' :=
  (Tryz.strconv_Itoa n h0 h1 w hE.pow).mono fun _ _ ⟨he, k, os, hw⟩ => ⟨he, hw ▸ Lib.below_grow _ w (Nat.le_refl _) k os⟩
set_option maxHeartbeats 400000 in
theorem digits_any (n : Nat) (wide : Nat) (res : List UInt8) (w : World) (hE : Env w) (hn : n < 10000) (hw : wide ≤ 4) (hl : (Lib.decDigits n).length ≤ wide) (hr : Lib.repeatL [48] (wide - (Lib.decDigits n).length) ++ Lib.decDigits n = res) :
    Calls Tryz.prog 26 #[.int .i64 n, .int .i64 wide] w fun e w' => e = .returned (.string ⟨res.toArray⟩) ∧ Below w.heap.size w w' := by
  have HR := Lib.hid hr
  have HI := Lib.hid (itoa_nat n)
  have HE := Lib.hid hE
  clear hr hE
  go_enter Tryz.func26, Tryz.ntmps26
  go_wp2_with fail
  refine (itoa_any _ _ HE.out (by omega) (by omega)).mono ?_
  rintro e w1 ⟨rfl, hb⟩
  rw [HI.out]
  have HB := Lib.hid hb
  clear hb
  generalize Lib.decDigits n = ds at *
  go_wp2_with fail
  rw [show max 0 ((wide : Int) - (ds.length : Int)) = ((wide - ds.length : Nat) : Int) from by omega]
  refine (Tryz.strings_Repeat ⟨#[48]⟩ (wide - ds.length) _ (by omega) (by show 1 * _ ≤ _; omega)).mono ?_
  rintro e w2 ⟨rfl, hb⟩
  have HB2 : Hid (Below w.heap.size w w2) := HB.out.trans (hb.mono HB.out.size)
  clear hb
  have hlen : (Lib.repeatL [48] (wide - ds.length)).length ≤ 4 := by rw [Lib.repeatL_length]; simp; omega
  go_wp2
  go_ret
  refine ⟨?_, HB2.out⟩
  exact ret_str (by rw [bcat, HR.out])
theorem dg_two {n : Nat} (h : n < 100) (w : World) (hE : Env w) : Calls Tryz.prog 26 #[.int .i64 n, .int .i64 2] w fun e w' => e = .returned (.string ⟨(dg2 n).toArray⟩) ∧ Below w.heap.size w w' :=
  digits_any n 2 _ w hE (by omega) (by omega) (pad2 h).1 (pad2 h).2
theorem dg_four {n : Nat} (h : n < 10000) (w : World) (hE : Env w) : Calls Tryz.prog 26 #[.int .i64 n, .int .i64 4] w fun e w' => e = .returned (.string ⟨(dg4 n).toArray⟩) ∧ Below w.heap.size w w' :=
  digits_any n 4 _ w hE (by omega) (by omega) (pad4 h).1 (pad4 h).2
set_option maxHeartbeats 400000 in
theorem text_no (y m d : Int) (w : World) (hE : Env w) (hv : vldB y m d = false) : Calls Tryz.prog 11 #[.agg #[.int .i64 y, .int .i64 m, .int .i64 d]] w fun e w' => e = .returned (.string ⟨#[]⟩) ∧ Below w.heap.size w w' := by
  have HE := Lib.hid (hE.alloc (.cells #[.int .i64 y, .int .i64 m, .int .i64 d] 33))
  clear hE
  have HV := Lib.hid hv
  clear hv
  go_enter Tryz.func11, Tryz.ntmps11
  go_wp2_with (go_at_call 25; refine (valid_any _ _ _ _ HE.out.lens).mono ?_; rintro e w' ⟨rfl, hb⟩; rw [HV.out]; have HB := Lib.hid (below_box hb); clear hb)
  go_ret
  exact ⟨rfl, Hid.out (by assumption)⟩
set_option maxHeartbeats 800000 in
theorem text_yes (y m d : Int) (w : World) (hE : Env w) (hv : Vld y m d) : Calls Tryz.prog 11 #[.agg #[.int .i64 y, .int .i64 m, .int .i64 d]] w fun e w' => e = .returned (.string ⟨(txtL y m d).toArray⟩) ∧ Below w.heap.size w w' := by
  have HE := Lib.hid (hE.alloc (.cells #[.int .i64 y, .int .i64 m, .int .i64 d] 33))
  clear hE
  have HV := Lib.hid (vldB_t.2 hv)
  have h31 := hv.d31
  have HT : Hid (txtL y m d = dg4 y.toNat ++ [45] ++ dg2 m.toNat ++ [45] ++ dg2 d.toNat) := rfl
  obtain ⟨c1, c2, c3, c4, c5, c6⟩ := hv
  clear c6
  obtain ⟨a, rfl⟩ : ∃ a : Nat, y = a := ⟨y.toNat, by omega⟩
  obtain ⟨b, rfl⟩ : ∃ b : Nat, m = b := ⟨m.toNat, by omega⟩
  obtain ⟨c, rfl⟩ : ∃ c : Nat, d = c := ⟨d.toNat, by omega⟩
  simp only [Int.toNat_natCast] at HT
  go_enter Tryz.func11, Tryz.ntmps11
  go_wp2_with (go_at_call 25; refine (valid_any _ _ _ _ HE.out.lens).mono ?_; rintro e w' ⟨rfl, hb⟩; rw [HV.out]; have HB := Lib.hid (below_box hb); have HE1 := Lib.hid (HE.out.below hb); have c0 := (bcell hb).1 w.heap.size 0 (by simp); have c1 := (bcell hb).1 w.heap.size 1 (by simp); have c2 := (bcell hb).1 w.heap.size 2 (by simp); clear hb)
  have HB : Hid (Below w.heap.size w w') := by assumption
  have HE1 : Hid (Env w') := by assumption
  replace c0 : w'.cell? ⟨w.heap.size, 0, none⟩ = some (.int .i64 a) := c0.trans (by simp)
  replace c1 : w'.cell? ⟨w.heap.size, 1, none⟩ = some (.int .i64 b) := c1.trans (by simp)
  replace c2 : w'.cell? ⟨w.heap.size, 2, none⟩ = some (.int .i64 c) := c2.trans (by simp)
  have B0 := Below.refl w'.heap.size w'
  have l4 : (dg4 a).length = 4 := rfl
  have l2 : (dg2 b).length = 2 := rfl
  have l2' : (dg2 c).length = 2 := rfl
  go_region_held3 (fun W => W.cell? ⟨w.heap.size, 0, none⟩ = some (.int .i64 a) ∧ W.cell? ⟨w.heap.size, 1, none⟩ = some (.int .i64 b) ∧ W.cell? ⟨w.heap.size, 2, none⟩ = some (.int .i64 c) ∧ Below w'.heap.size w' W)
    (first | exact ⟨c0, c1, c2, World.below_drewN B0 _⟩ | (go_split_ands; exact ⟨stays (by assumption) (by assumption), stays (by assumption) (by assumption), stays (by assumption) (by assumption), onward (by assumption) (by assumption)⟩))
    (first | (go_at_call 26; go_split_ands; ((with_reducible refine (dg_four (n := a) (by omega) _ (HE1.out.below (by assumption))).mono ?_); rintro e w1 ⟨rfl, hb⟩)) | (go_at_call 26; go_split_ands; ((with_reducible refine (dg_two (n := b) (by omega) _ (HE1.out.below (by assumption))).mono ?_); rintro e w1 ⟨rfl, hb⟩)) | (go_at_call 26; go_split_ands; ((with_reducible refine (dg_two (n := c) (by omega) _ (HE1.out.below (by assumption))).mono ?_); rintro e w1 ⟨rfl, hb⟩)))
  go_split_ands
  have HZ : Hid (Below w.heap.size w _) := HB.out.trans (Below.mono (w' := w1) (by assumption) HB.out.size)
  clear c0 c1 c2 B0
  go_wp2
  go_ret
  exact ⟨ret_str (by rw [bcat, bcat, bcat, bcat, HT.out]), HZ.out⟩
theorem text_any (y m d : Int) (w : World) (hE : Env w) : Calls Tryz.prog 11 #[.agg #[.int .i64 y, .int .i64 m, .int .i64 d]] w fun e w' => e = .returned (.string (txtB y m d)) ∧ Below w.heap.size w w' := by
  cases hv : vldB y m d
  · exact (text_no y m d w hE hv).mono fun _ _ ⟨h, hb⟩ => ⟨h.trans (by simp [txtB, hv]), hb⟩
  · exact (text_yes y m d w hE (vldB_t.1 hv)).mono fun _ _ ⟨h, hb⟩ => ⟨h.trans (by simp [txtB, hv]), hb⟩
/-- strconv.Atoi, at whatever string: a number and no error, or an error. -/
theorem atoi_any (s : ByteArray) (w : World) (hE : Env w) (hs : s.size ≤ 281474976710656) : Calls Tryz.prog 68 #[.string s] w fun e w' => ∃ v ev, e = .returned (.tuple #[.int .i64 v, ev]) ∧ Below w.heap.size w w' ∧
    ((ev = .nilIface ∧ Lib.atoiAll s.data.toList = .ok v) ∨ ∃ t p, ev = .iface t p ∧ ∀ u, Lib.atoiAll s.data.toList ≠ .ok u) := by
  obtain ⟨t1, p1, h1⟩ := hE.syn
  obtain ⟨t2, p2, h2⟩ := hE.ran
  cases ha : Lib.atoiAll s.data.toList
  · rename_i v
    refine (Tryz.strconv_Atoi_ok s (by omega) v ha w).mono ?_
    rintro e w' ⟨he, hw⟩
    refine ⟨v, _, he, ?_, .inl ⟨rfl, rfl⟩⟩
    rcases hw with rfl | ⟨t, rfl⟩
    · exact Below.refl _ _
    · exact Lib.bytesWorld_below w _ _
  · refine (Any.strconv_Atoi_syntax Tryz.laysC172 s hs ha _ w h1 (.inr ⟨_, _, rfl⟩)).mono ?_
    rintro e w' ⟨N, he, _, _, hb⟩
    exact ⟨_, _, he, hb, .inr ⟨_, _, rfl, fun u h => by cases h⟩⟩
  · refine (Any.strconv_Atoi_range Tryz.laysC172 s hs ha _ w h2 (.inr ⟨_, _, rfl⟩)).mono ?_
    rintro e w' ⟨N, he, _, _, hb⟩
    exact ⟨_, _, he, hb, .inr ⟨_, _, rfl, fun u h => by cases h⟩⟩
def ParseEnd (s : ByteArray) (w : World) (e : Ending) (w' : World) : Prop :=
  Below w.heap.size w w' ∧ ((∃ y m d, Vld y m d ∧ s.data.toList = txtL y m d ∧ e = .returned (.tuple #[.agg #[.int .i64 y, .int .i64 m, .int .i64 d], .int .i64 0])) ∨
    ((∀ y m d, Vld y m d → s.data.toList ≠ txtL y m d) ∧ e = .returned (.tuple #[.agg #[.int .i64 0, .int .i64 0, .int .i64 0], .int .i64 21])))
theorem no_one {l : List UInt8} (h : ∀ u, Lib.atoiAll (l.take 4) ≠ .ok u) : ∀ y m d, Vld y m d → l ≠ txtL y m d := fun y m d hv e => by
  subst e
  obtain ⟨h1, h2, h3, h4, h5, h6⟩ := hv
  exact h y (by rw [txt_take, atoi_dg4 (by omega), toNat_v (by omega)])
theorem no_two {l : List UInt8} (h : ∀ u, Lib.atoiAll ((l.drop 5).take 2) ≠ .ok u) : ∀ y m d, Vld y m d → l ≠ txtL y m d := fun y m d hv e => by
  subst e
  obtain ⟨h1, h2, h3, h4, h5, h6⟩ := hv
  exact h m (by rw [txt_mid, atoi_dg2 (by omega), toNat_v (by omega)])
theorem no_three {l : List UInt8} (h : ∀ u, Lib.atoiAll (l.drop 8) ≠ .ok u) : ∀ y m d, Vld y m d → l ≠ txtL y m d := fun y m d hv e => by
  subst e
  have k := hv.d31
  obtain ⟨h1, h2, h3, h4, h5, h6⟩ := hv
  exact h d (by rw [txt_end, atoi_dg2 (by omega), toNat_v (by omega)])
set_option maxHeartbeats 1000000 in
theorem parse_ten (s : ByteArray) (w : World) (hE : Env w) (hs : s.size = 10) : Calls Tryz.prog 51 #[.string s] w (ParseEnd s w) := by
  have HE := Lib.hid (hE.alloc (.cells #[.int .i64 0, .int .i64 0, .int .i64 0] 33))
  clear hE
  have W0 : Hid (Below w.heap.size w (w.alloc (.cells #[.int .i64 0, .int .i64 0, .int .i64 0] 33))) := (Below.refl _ _).alloc (Nat.le_refl _) _
  go_enter Tryz.func51, Tryz.ntmps51
  go_wp2_with fail
  refine (atoi_any _ _ HE.out (by rw [ByteArray.size_extract]; omega)).mono ?_
  rintro e w1 ⟨v1, e1, rfl, hb1, r1⟩
  rw [ext_take] at r1
  have HE1 := Lib.hid (HE.out.below hb1)
  have R1 := Lib.hid r1
  have B1 := Lib.hid hb1
  clear hb1 r1
  go_wp2_with fail
  refine (atoi_any _ _ HE1.out (by rw [ByteArray.size_extract]; omega)).mono ?_
  rintro e w2 ⟨v2, e2, rfl, hb2, r2⟩
  rw [ext_mid] at r2
  have HE2 := Lib.hid (HE1.out.below hb2)
  have R2 := Lib.hid r2
  have B2 := Lib.hid (onward hb2 B1.out)
  clear hb2 r2 HE1
  go_wp2_with fail
  refine (atoi_any _ _ HE2.out (by rw [ByteArray.size_extract]; omega)).mono ?_
  rintro e w3 ⟨v3, e3, rfl, hb3, r3⟩
  have HE3 := Lib.hid (HE2.out.below hb3)
  have R3 := Lib.hid r3
  have b3 := onward hb3 B2.out
  obtain ⟨hc, hf⟩ := bcell b3
  have B3 : Hid (Below w.heap.size w w3) := below_box b3
  have Z3 : w.heap.size < w3.heap.size := by have := b3.size; simp at this; omega
  clear hb3 r3 HE2 B2 B1 b3
  have hfr : w3.frozen? ⟨w.heap.size, 0, none⟩ = false ∧ w3.frozen? ⟨w.heap.size, 1, none⟩ = false ∧ w3.frozen? ⟨w.heap.size, 2, none⟩ = false := ⟨(hf _ _ (by simp)).trans (by simp), (hf _ _ (by simp)).trans (by simp), (hf _ _ (by simp)).trans (by simp)⟩
  have hce : w3.cell? ⟨w.heap.size, 0, none⟩ = some (.int .i64 0) ∧ w3.cell? ⟨w.heap.size, 1, none⟩ = some (.int .i64 0) ∧ w3.cell? ⟨w.heap.size, 2, none⟩ = some (.int .i64 0) := ⟨(hc _ _ (by simp)).trans (by simp), (hc _ _ (by simp)).trans (by simp), (hc _ _ (by simp)).trans (by simp)⟩
  obtain ⟨f0, f1, f2⟩ := hfr
  obtain ⟨g0, g1, g2⟩ := hce
  clear hc hf
  have NOS : Hid ((e1 ≠ .nilIface ∨ e2 ≠ .nilIface ∨ e3 ≠ .nilIface) → ∀ y m d, Vld y m d → s.data.toList ≠ txtL y m d) := by
    intro h
    rcases R1.out with ⟨q1, a1⟩ | ⟨t, p, q1, a1⟩
    · rcases R2.out with ⟨q2, a2⟩ | ⟨t, p, q2, a2⟩
      · rcases R3.out with ⟨q3, a3⟩ | ⟨t, p, q3, a3⟩
        · simp [q1, q2, q3] at h
        · refine no_three fun u => ?_
          have e : (s.extract 8 10).data.toList = s.data.toList.drop 8 := by have := ext_end s 8; rwa [hs] at this
          rw [← e]; exact a3 u
      · exact no_two a2
    · exact no_one a1
  have hq : (∃ t p, e1 = .iface t p) ∨ (e1 = .nilIface ∧ ∃ t p, e2 = .iface t p) ∨ (e1 = .nilIface ∧ e2 = .nilIface ∧ ∃ t p, e3 = .iface t p) ∨ (e1 = .nilIface ∧ e2 = .nilIface ∧ e3 = .nilIface) := by
    rcases R1.out with ⟨q1, a1⟩ | ⟨t, p, q1, a1⟩ <;> rcases R2.out with ⟨q2, a2⟩ | ⟨t', p', q2, a2⟩ <;> rcases R3.out with ⟨q3, a3⟩ | ⟨t'', p'', q3, a3⟩ <;> simp [q1, q2, q3]
  rcases hq with ⟨t, p, rfl⟩ | ⟨rfl, t, p, rfl⟩ | ⟨rfl, rfl, t, p, rfl⟩ | ⟨rfl, rfl, rfl⟩
  case inr.inr.inr =>
    have a1 : Hid (Lib.atoiAll (s.data.toList.take 4) = .ok v1) := by
      rcases R1.out with ⟨_, a⟩ | ⟨_, _, q, _⟩
      · exact a
      · cases q
    have a2 : Hid (Lib.atoiAll ((s.data.toList.drop 5).take 2) = .ok v2) := by
      rcases R2.out with ⟨_, a⟩ | ⟨_, _, q, _⟩
      · exact a
      · cases q
    have a3 : Hid (Lib.atoiAll (s.data.toList.drop 8) = .ok v3) := by
      rcases R3.out with ⟨_, a⟩ | ⟨_, _, q, _⟩
      · have e : (s.extract 8 10).data.toList = s.data.toList.drop 8 := by have := ext_end s 8; rwa [hs] at this
        rw [← e]; exact a
      · cases q
    clear R1 R2 R3 NOS
    go_wp2_with fail
    refine (text_any _ _ _ _ (HE3.out.alloc _)).mono ?_
    rintro e w4 ⟨rfl, hb4⟩
    obtain ⟨hc, hf⟩ := bcell hb4
    have i0 : w4.cell? ⟨w3.heap.size, 0, none⟩ = some (.int .i64 v1) ∧ w4.cell? ⟨w3.heap.size, 1, none⟩ = some (.int .i64 v2) ∧ w4.cell? ⟨w3.heap.size, 2, none⟩ = some (.int .i64 v3) := ⟨(hc _ _ (by simp)).trans (by simp), (hc _ _ (by simp)).trans (by simp), (hc _ _ (by simp)).trans (by simp)⟩
    have hfr : w4.frozen? ⟨w.heap.size, 0, none⟩ = false ∧ w4.frozen? ⟨w.heap.size, 1, none⟩ = false ∧ w4.frozen? ⟨w.heap.size, 2, none⟩ = false := ⟨(hf _ _ (by simp; omega)).trans (by simp [go_sem, Z3, f0]), (hf _ _ (by simp; omega)).trans (by simp [go_sem, Z3, f1]), (hf _ _ (by simp; omega)).trans (by simp [go_sem, Z3, f2])⟩
    have hce : w4.cell? ⟨w.heap.size, 0, none⟩ = some (.int .i64 0) ∧ w4.cell? ⟨w.heap.size, 1, none⟩ = some (.int .i64 0) ∧ w4.cell? ⟨w.heap.size, 2, none⟩ = some (.int .i64 0) := ⟨(hc _ _ (by simp; omega)).trans (by simp [go_sem, Z3, g0]), (hc _ _ (by simp; omega)).trans (by simp [go_sem, Z3, g1]), (hc _ _ (by simp; omega)).trans (by simp [go_sem, Z3, g2])⟩
    have B4 : Hid (Below w.heap.size w w4) := B3.out.trans ((below_box hb4).mono B3.out.size)
    clear hc hf f0 f1 f2 g0 g1 g2 hb4
    obtain ⟨f0, f1, f2⟩ := hfr
    obtain ⟨g0, g1, g2⟩ := hce
    obtain ⟨i0, i1, i2⟩ := i0
    by_cases hq : txtB v1 v2 v3 = s
    · have hv : vldB v1 v2 v3 = true := by
        cases hv : vldB v1 v2 v3
        · rw [txtB, hv] at hq; rw [← hq] at hs; cases hs
        · rfl
      have hl : s.data.toList = txtL v1 v2 v3 := by rw [← hq, txtB, if_pos hv]
      have YES := Lib.hid (And.intro (vldB_t.1 hv) hl)
      rw [hq]
      clear hq hv hl a1 a2 a3
      go_wp2
      refine bodyPost_ret (v := .tuple #[.agg #[.int .i64 v1, .int .i64 v2, .int .i64 v3], .int .i64 0]) (by simp [results, Tryz.results51, go_sem, Z3, g0, g1, g2]) rfl ⟨?_, .inl ⟨v1, v2, v3, YES.out.1, YES.out.2, rfl⟩⟩
      exact (((B4.out.setCell (Nat.le_refl _) _).setCell (Nat.le_refl _) _).setCell (Nat.le_refl _) _)
    · have NO : Hid (∀ y m d, Vld y m d → s.data.toList ≠ txtL y m d) := by
        intro y m d hv he
        have k := hv.d31
        have hv' := hv
        obtain ⟨h1, h2, h3, h4, h5, h6⟩ := hv
        have b1 := a1.out
        have b2 := a2.out
        have b3 := a3.out
        rw [he, txt_take, atoi_dg4 (by omega), toNat_v (by omega)] at b1
        rw [he, txt_mid, atoi_dg2 (by omega), toNat_v (by omega)] at b2
        rw [he, txt_end, atoi_dg2 (by omega), toNat_v (by omega)] at b3
        injection b1 with b1
        injection b2 with b2
        injection b3 with b3
        subst b1 b2 b3
        refine hq ?_
        rw [txtB, if_pos (vldB_t.2 hv'), ← he]
      have hn := toList_ne hq
      clear a1 a2 a3 hq
      go_wp2
      refine bodyPost_ret (v := .tuple #[.agg #[.int .i64 0, .int .i64 0, .int .i64 0], .int .i64 21]) (by simp [results, Tryz.results51, go_sem, Z3, g0, g1, g2]) rfl ⟨?_, .inr ⟨NO.out, rfl⟩⟩
      exact (((B4.out.setCell (Nat.le_refl _) _).setCell (Nat.le_refl _) _).setCell (Nat.le_refl _) _)
  all_goals
    have NO := Lib.hid (NOS.out (by simp))
    clear R1 R2 R3 NOS
    go_wp2
    refine bodyPost_ret (v := .tuple #[.agg #[.int .i64 0, .int .i64 0, .int .i64 0], .int .i64 21]) (by simp [results, Tryz.results51, go_sem, Z3, g0, g1, g2]) rfl ⟨?_, .inr ⟨NO.out, rfl⟩⟩
    exact (((B3.out.setCell (Nat.le_refl _) _).setCell (Nat.le_refl _) _).setCell (Nat.le_refl _) _).alloc (by simp; omega) _
set_option maxHeartbeats 400000 in
theorem parse_short (s : ByteArray) (w : World) (hs : s.size ≠ 10) : Calls Tryz.prog 51 #[.string s] w (ParseEnd s w) := by
  have NO : Hid (∀ y m d, Vld y m d → s.data.toList ≠ txtL y m d) := by
    intro y m d _ he
    have := congrArg List.length he
    rw [txtL_length, Array.length_toList] at this
    exact hs this
  have hn : ((s.size : Int) == 10) = false := by simp; omega
  have hn' : ((s.size : Int) != 10) = true := by simp; omega
  clear hs
  go_enter Tryz.func51, Tryz.ntmps51
  go_wp2
  refine bodyPost_ret (v := .tuple #[.agg #[.int .i64 0, .int .i64 0, .int .i64 0], .int .i64 21]) (by simp [results, Tryz.results51, go_sem]) rfl ⟨?_, .inr ⟨NO.out, rfl⟩⟩
  exact (Below.refl _ _).alloc (Nat.le_refl _) _
theorem parse_any (s : ByteArray) (w : World) (hE : Env w) : Calls Tryz.prog 51 #[.string s] w (ParseEnd s w) := by
  by_cases h : s.size = 10
  · exact parse_ten s w hE h
  · exact parse_short s w h
end Go.Proofs.YtmppkhjjlgngkaaGreatDoor
