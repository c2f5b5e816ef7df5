/- The walks of the document's Text (quitrentref24.Text) and of RenderTexts. (Printed by gen_rnw.py.) -/
import Derived.Test.YtmppkhjjlgngkaaGreatDoorRnP
import Derived.Test.YtmppkhjjlgngkaaGreatDoorCivO
import Derived.Test.YtmppkhjjlgngkaaGreatDoorRnX
namespace Go.Proofs.YtmppkhjjlgngkaaGreatDoor
open Go.RowKit Civ Ren Go.Shelf
set_option linter.unusedVariables false
set_option linter.unusedSimpArgs false
set_option maxRecDepth 100000
def nB (n : Int) : ByteArray := ⟨(Lib.itoa n).toArray⟩
theorem nB_size (n : Int) (h : Acct.inInt n) : (nB n).size ≤ 20 := by
  show (Lib.itoa n).toArray.size ≤ 20
  rw [List.size_toArray]
  exact itoa_len n h
theorem n_any (n : Int) (w : World) (h : Acct.inInt n) : Calls Tryz.prog 18 #[.int .i64 n] w fun e w' => e = .returned (.string (nB n)) ∧ w = w' := by
  go_enter Tryz.func18, Tryz.ntmps18
  go_wp2_with fail
  refine (decimal_any n _ h).mono ?_
  rintro e w2 ⟨rfl, rfl⟩
  go_wp2_with fail
  go_ret
  exact ⟨rfl, rfl⟩
theorem rof_first (m : Int) (w : World) (h1 : 12 ≤ m) (h2 : m < 120000) : Calls Tryz.prog 17 #[.int .i64 (firstM m)] w fun e w' => e = .returned (.tuple #[.agg #[.int .i64 (m / 12), .int .i64 (m % 12 + 1), .int .i64 1], .int .i64 0]) ∧ Below w.heap.size w w' := by
  have hv := vld_first h1 h2
  have hn : numD (m / 12) (m % 12 + 1) 1 = firstM m := by
    unfold numD
    rw [show 12 * (m / 12) + (m % 12 + 1) - 1 = m from by omega]
    omega
  have hb := numD_bd hv
  rw [hn] at hb
  refine (rof_any (firstM m) w (by omega) (by omega)).mono ?_
  rintro e w' ⟨hb', h'⟩
  rcases h' with ⟨h3, _⟩ | ⟨y', m', d', h3, h4, he⟩
  · omega
  · obtain ⟨rfl, rfl, rfl⟩ := numD_inj h3 hv (h4.trans hn.symm)
    exact ⟨he, hb'⟩
theorem acc_head (v : Ren.Inv) (T : ByteArray) (hT : T = ⟨(txtL (v.mo / 12) (v.mo % 12 + 1) 1).toArray⟩) : ((((((⟨#[105, 110, 118, 111, 105, 99, 101, 32]⟩ : ByteArray) ++ nB v.no) ++ ⟨#[10, 116, 101, 110, 97, 110, 116, 32]⟩) ++ nB v.te) ++ ⟨#[10, 109, 111, 110, 116, 104, 32]⟩) ++ T.extract 0 7) ++ ⟨#[10]⟩ = ⟨(headT v).toArray⟩ := by
  subst hT
  rw [baTake]
  apply ByteArray.ext
  apply Array.toList_inj.1
  simp [nB, headT, nl, sp, monL]
theorem acc_base (A : List UInt8) (p d u a : Int) : ((((((((⟨A.toArray⟩ : ByteArray) ++ ⟨#[98, 97, 115, 101, 32, 112, 108, 97, 110, 32]⟩) ++ nB p) ++ ⟨#[32, 100, 97, 121, 115, 32]⟩) ++ nB d) ++ ⟨#[32, 97, 109, 111, 117, 110, 116, 32]⟩) ++ nB a) ++ ⟨#[10]⟩) = ⟨(A ++ nl (lineW ⟨1, p, d, u, a⟩)).toArray⟩ := by
  apply ByteArray.ext
  apply Array.toList_inj.1
  simp [nB, nl, sp, lineW]
theorem acc_pack (A : List UInt8) (p d u a : Int) : ((((⟨A.toArray⟩ : ByteArray) ++ ⟨#[112, 97, 99, 107, 32, 117, 110, 105, 116, 115, 32]⟩) ++ nB u) ++ ⟨#[10]⟩) = ⟨(A ++ nl (lineW ⟨2, p, d, u, a⟩)).toArray⟩ := by
  apply ByteArray.ext
  apply Array.toList_inj.1
  simp [nB, nl, sp, lineW]
theorem acc_over (A : List UInt8) (p d u a : Int) : ((((((((⟨A.toArray⟩ : ByteArray) ++ ⟨#[111, 118, 101, 114, 32, 112, 108, 97, 110, 32]⟩) ++ nB p) ++ ⟨#[32, 117, 110, 105, 116, 115, 32]⟩) ++ nB u) ++ ⟨#[32, 97, 109, 111, 117, 110, 116, 32]⟩) ++ nB a) ++ ⟨#[10]⟩) = ⟨(A ++ nl (lineW ⟨3, p, d, u, a⟩)).toArray⟩ := by
  apply ByteArray.ext
  apply Array.toList_inj.1
  simp [nB, nl, sp, lineW]
theorem acc_total (A : List UInt8) (n : Int) : ((((⟨A.toArray⟩ : ByteArray) ++ ⟨#[116, 111, 116, 97, 108, 32]⟩) ++ nB n) ++ ⟨#[10]⟩) = ⟨(A ++ nl [wTotal, Lib.itoa n]).toArray⟩ := by
  apply ByteArray.ext
  apply Array.toList_inj.1
  simp [nB, nl, sp]
theorem acc_cred (A : List UInt8) (n : Int) : ((((⟨A.toArray⟩ : ByteArray) ++ ⟨#[99, 114, 101, 100, 105, 116, 101, 100, 32]⟩) ++ nB n) ++ ⟨#[10]⟩) = ⟨(A ++ nl [wCredited, Lib.itoa n]).toArray⟩ := by
  apply ByteArray.ext
  apply Array.toList_inj.1
  simp [nB, nl, sp]
def accL (v : Ren.Inv) (k : Nat) : List UInt8 := headT v ++ (v.ls.take k).flatMap (fun l => nl (lineW l))
theorem accL_len (v : Ren.Inv) (hok : v.ok) (k : Nat) : (accL v k).length ≤ 150 + 100 * k := by
  have h1 := head_len v hok
  have h2 := lines_len (v.ls.take k) (fun l hl => hok.2.2.2.2.2 l (List.mem_of_mem_take hl))
  have h3 : (v.ls.take k).length ≤ k := by rw [List.length_take]; omega
  unfold accL
  rw [List.length_append]
  omega
theorem accL_step (v : Ren.Inv) (k : Nat) (h : k < v.ls.length) : accL v (k + 1) = accL v k ++ nl (lineW v.ls[k]) := by
  unfold accL
  rw [List.take_succ_eq_append_getElem h, List.flatMap_append]
  simp [List.append_assoc]
theorem accL_end (v : Ren.Inv) : bodyL v = (accL v v.ls.length ++ nl [wTotal, Lib.itoa v.tot]) ++ footT v := by
  rw [body_rows]
  unfold accL
  rw [List.take_length]
theorem date3 {w : World} {b : Nat} {T : Nat} {x0 x1 x2 : Value} (h : w.heap[b]? = some (.cells #[x0, x1, x2] T (0, 0))) : w.cell? ⟨b, 0, none⟩ = some x0 ∧ w.cell? ⟨b, 1, none⟩ = some x1 ∧ w.cell? ⟨b, 2, none⟩ = some x2 := by
  refine ⟨?_, ?_, ?_⟩ <;> simp [World.cell?, h]
set_option maxHeartbeats 16000000 in
set_option maxRecDepth 1000000 in
theorem rtextR_any (v : Ren.Inv) (lv : Value) (w : World) (hl : RowsIn w lv 5 (v.ls.map Ren.Ln.cells)) (hok : v.ok) (hm : mayB v = true) : Calls Tryz.prog 7 #[v.val lv] w fun e w' => e = .returned (.string ⟨(textL v).toArray⟩) ∧ Below w.heap.size w w' := by
  have HEND : Hid ((⟨(textL v).toArray⟩ : ByteArray) = ⟨((accL v v.ls.length ++ nl [wTotal, Lib.itoa v.tot]) ++ footT v).toArray⟩) := by
    show _ = _
    rw [text_may hm, accL_end]
  have HALL : Hid (∀ l ∈ v.ls, lnB l = true ∧ l.ok) := fun l h => by
    unfold mayB at hm
    rw [Bool.and_eq_true] at hm
    exact ⟨List.all_eq_true.1 hm.1 l h, hok.2.2.2.2.2 l h⟩
  have hmm : 12 ≤ v.mo ∧ v.mo < 120000 ∧ v.ls.length ≤ 28 := by
    unfold mayB at hm
    rw [Bool.and_eq_true] at hm
    have := of_decide_eq_true hm.2
    omega
  have HK := Lib.hid hok
  have HL := Lib.hid hl
  obtain ⟨a1, c1, rfl⟩ := ln_form hl
  have hac := accL_len v hok
  have HAC := Lib.hid hac
  have HAH : Hid (∀ (T : ByteArray) (hT : T = ⟨(txtL (v.mo / 12) (v.mo % 12 + 1) 1).toArray⟩), ((((((⟨#[105, 110, 118, 111, 105, 99, 101, 32]⟩ : ByteArray) ++ nB v.no) ++ ⟨#[10, 116, 101, 110, 97, 110, 116, 32]⟩) ++ nB v.te) ++ ⟨#[10, 109, 111, 110, 116, 104, 32]⟩) ++ T.extract 0 7) ++ ⟨#[10]⟩ = ⟨(accL v 0).toArray⟩) := fun T hT => by
    rw [acc_head v T hT]
    unfold accL
    simp
  have HST := Lib.hid (accL_step v)
  clear hl hok hm hac
  obtain ⟨no, te, mo, ls, tot, cr⟩ := v
  dsimp only at hmm HL HALL
  obtain ⟨m1, m2, m3⟩ := hmm
  obtain ⟨u1, u2, -, u4, u5, -⟩ := HK.out
  dsimp only at u1 u2 u4 u5
  have HN1 := Lib.hid (u32_int u1)
  have HN2 := Lib.hid (u32_int u2)
  have HN4 := Lib.hid u4
  have HN5 := Lib.hid u5
  have z1 := nB_size no HN1.out
  have z2 := nB_size te HN2.out
  have hw1 : IntKind.i64.wrap no = no := IntWalk.i64_in _ (by unfold u32 at u1; omega)
  have hw2 : IntKind.i64.wrap te = te := IntWalk.i64_in _ (by unfold u32 at u2; omega)
  clear u1 u2 u4 u5
  show Calls Tryz.prog 7 #[.agg #[.int .u32 no, .int .u32 te, .int .i64 mo, .slice a1 ls.length c1, .int .i64 tot, .int .i64 cr]] w _
  have B0 := Lib.hid (below_alloc w (.cells #[.int .u32 no, .int .u32 te, .int .i64 mo, .slice a1 ls.length c1, .int .i64 tot, .int .i64 cr] 25))
  have G0 := Lib.hid (heap_alloc_new w (.cells #[.int .u32 no, .int .u32 te, .int .i64 mo, .slice a1 ls.length c1, .int .i64 tot, .int .i64 cr] 25))
  go_enter Tryz.func7, Tryz.ntmps7
  go_wp2_with fail
  generalize w.alloc (.cells #[.int .u32 no, .int .u32 te, .int .i64 mo, .slice a1 ls.length c1, .int .i64 tot, .int .i64 cr] 25) = W0 at *
  refine (rfirst_yes mo _ m1 m2).mono ?_
  rintro e w1 ⟨rfl, hb⟩
  have Y1 := Lib.hid hb
  clear hb
  go_wp2_with fail
  refine (rof_first mo _ m1 m2).mono ?_
  rintro e w2 ⟨rfl, hb⟩
  have ba := below_alloc w2 (.cells #[.int .i64 (mo / 12), .int .i64 (mo % 12 + 1), .int .i64 1] 33)
  have Y3 := Lib.hid (onward ba (onward hb Y1.out))
  have P3 := Lib.hid (heap_alloc_new w2 (.cells #[.int .i64 (mo / 12), .int .i64 (mo % 12 + 1), .int .i64 1] 33))
  clear hb ba Y1
  have G3 := Lib.hid (stays_block Y3.out G0.out)
  go_upto_region 3 with fail
  generalize w2.alloc (.cells #[.int .i64 (mo / 12), .int .i64 (mo % 12 + 1), .int .i64 1] 33) = W3 at *
  have KS : Hid (∀ W, Below W3.heap.size W3 W → W.cell? ⟨w.heap.size, 0, none⟩ = some (.int .u32 no) ∧ W.cell? ⟨w.heap.size, 1, none⟩ = some (.int .u32 te) ∧ W.cell? ⟨w2.heap.size, 0, none⟩ = some (.int .i64 (mo / 12)) ∧ W.cell? ⟨w2.heap.size, 1, none⟩ = some (.int .i64 (mo % 12 + 1)) ∧ W.cell? ⟨w2.heap.size, 2, none⟩ = some (.int .i64 1)) := fun W hb => by
    obtain ⟨-, q0, q1, -, -, -, -⟩ := cells6 (stays_block hb G3.out)
    obtain ⟨r0, r1, r2⟩ := date3 (stays_block hb P3.out)
    exact ⟨q0, q1, r0, r1, r2⟩
  obtain ⟨T, hT⟩ : ∃ T : ByteArray, T = ⟨(txtL (mo / 12) (mo % 12 + 1) 1).toArray⟩ := ⟨_, rfl⟩
  have HX0 := Lib.hid (HAH.out T hT)
  try dsimp only at HX0
  have hts : T.size = 10 := by
    rw [hT]
    show (txtL (mo / 12) (mo % 12 + 1) 1).toArray.size = _
    rw [List.size_toArray]
    exact txtL_length _ _ _
  have TX : Hid (∀ W : World, Calls Tryz.prog 19 #[.agg #[.int .i64 (mo / 12), .int .i64 (mo % 12 + 1), .int .i64 1]] W fun e w' => e = .returned (.string T) ∧ Below W.heap.size W w') := fun W => by
    rw [hT]
    exact rtext_yes _ _ _ _ (vld_first m1 m2)
  clear hT HAH
  refine wp_region_held_drew (S := (fun W => W.cell? ⟨w.heap.size, 0, none⟩ = some (.int .u32 no) ∧ W.cell? ⟨w.heap.size, 1, none⟩ = some (.int .u32 te) ∧ W.cell? ⟨w2.heap.size, 0, none⟩ = some (.int .i64 (mo / 12)) ∧ W.cell? ⟨w2.heap.size, 1, none⟩ = some (.int .i64 (mo % 12 + 1)) ∧ W.cell? ⟨w2.heap.size, 2, none⟩ = some (.int .i64 1))) (by kernel_rfl) ?_ (fun hHeld => ?_)
  · (try dsimp only)
    exact KS.out _ (Below.refl _ _).drew
  refine Plan.start (plan := [0, 1, 2, 6, 7, 8, 12]) (fuel := 11) (by decide +kernel) (by assumption) ?_
  refine Plan.free (i := 0) (ds := some 21) (v := ?_) rfl rfl rfl ?_ (fun _ _ _ h => h) ?_
  rotate_left
  · (intro w hSw; (try dsimp only at hSw); go_simp; (try rw [if_neg (by omega)]); first | done | with_reducible rfl)
  (try simp only [Act.put, List.setIfInBounds_toArray, List.set_cons_zero, List.set_cons_succ])
  refine Plan.free (i := 1) (ds := some 22) (v := ?_) rfl rfl rfl ?_ (fun _ _ _ h => h) ?_
  rotate_left
  · (intro w hSw; (try dsimp only at hSw); go_simp; (try rw [if_neg (by omega)]); first | done | with_reducible rfl)
  (try simp only [Act.put, List.setIfInBounds_toArray, List.set_cons_zero, List.set_cons_succ])
  refine Plan.free (i := 2) (ds := some 23) (v := ?_) rfl rfl rfl ?_ (fun _ _ _ h => h) ?_
  rotate_left
  · (intro w hSw; (try dsimp only at hSw); go_simp; (try rw [if_neg (by omega)]); first | done | with_reducible rfl)
  (try simp only [Act.put, List.setIfInBounds_toArray, List.set_cons_zero, List.set_cons_succ])
  refine Plan.free (i := 6) (ds := some 27) (v := ?_) rfl rfl rfl ?_ (fun _ _ _ h => h) ?_
  rotate_left
  · (intro w hSw; (try dsimp only at hSw); go_simp; (try rw [if_neg (by omega)]); first | done | with_reducible rfl)
  (try simp only [Act.put, List.setIfInBounds_toArray, List.set_cons_zero, List.set_cons_succ])
  refine Plan.free (i := 7) (ds := some 28) (v := ?_) rfl rfl rfl ?_ (fun _ _ _ h => h) ?_
  rotate_left
  · (intro w hSw; (try dsimp only at hSw); go_simp; (try rw [if_neg (by omega)]); first | done | with_reducible rfl)
  (try simp only [Act.put, List.setIfInBounds_toArray, List.set_cons_zero, List.set_cons_succ])
  refine Plan.free (i := 8) (ds := some 29) (v := ?_) rfl rfl rfl ?_ (fun _ _ _ h => h) ?_
  rotate_left
  · (intro w hSw; (try dsimp only at hSw); go_simp; (try rw [if_neg (by omega)]); first | done | with_reducible rfl)
  (try simp only [Act.put, List.setIfInBounds_toArray, List.set_cons_zero, List.set_cons_succ])
  refine Plan.free (i := 12) (ds := some 33) (v := ?_) rfl rfl rfl ?_ (fun _ _ _ h => h) ?_
  rotate_left
  · (intro w hSw; (try dsimp only at hSw); go_simp; (try rw [if_neg (by omega)]); first | done | with_reducible rfl)
  (try simp only [Act.put, List.setIfInBounds_toArray, List.set_cons_zero, List.set_cons_succ])
  refine Plan.stop (fun hHeld => ?_)
  refine wpAnyH_ready (rs := [3]) (by decide +kernel) (by simp) ?_
  refine AllReadyH.cons (o := _) rfl ?_ AllReadyH.nil
  intro K hK
  rw [if_pos (wanted_none (by rfl))]
  (go_simp; go_at_call 18; refine (n_any no _ HN1.out).mono ?_; rintro e _ ⟨rfl, rfl⟩)
  refine hK.out _ _ ?_ (fun hHeld => ?_)
  · (try dsimp only)
    exact KS.out _ (Below.refl _ _).drew
  clear hK K
  (try simp only [Act.put, List.setIfInBounds_toArray, List.set_cons_zero, List.set_cons_succ])
  refine Plan.start (plan := [4, 5]) (fuel := 8) (by decide +kernel) (by assumption) ?_
  refine Plan.free (i := 4) (ds := some 25) (v := ?_) rfl rfl rfl ?_ (fun _ _ _ h => h) ?_
  rotate_left
  · (intro w hSw; (try dsimp only at hSw); go_simp; (try rw [if_neg (by omega)]); first | done | with_reducible rfl)
  (try simp only [Act.put, List.setIfInBounds_toArray, List.set_cons_zero, List.set_cons_succ])
  refine Plan.free (i := 5) (ds := some 26) (v := ?_) rfl rfl rfl ?_ (fun _ _ _ h => h) ?_
  rotate_left
  · (intro w hSw; (try dsimp only at hSw); go_simp; (try rw [if_neg (by omega)]); first | done | with_reducible rfl)
  (try simp only [Act.put, List.setIfInBounds_toArray, List.set_cons_zero, List.set_cons_succ])
  refine Plan.stop (fun hHeld => ?_)
  refine wpAnyH_ready (rs := [9]) (by decide +kernel) (by simp) ?_
  refine AllReadyH.cons (o := _) rfl ?_ AllReadyH.nil
  intro K hK
  rw [if_pos (wanted_none (by rfl))]
  (go_simp; go_at_call 18; refine (n_any te _ HN2.out).mono ?_; rintro e _ ⟨rfl, rfl⟩)
  refine hK.out _ _ ?_ (fun hHeld => ?_)
  · (try dsimp only)
    exact KS.out _ (Below.refl _ _).drew
  clear hK K
  (try simp only [Act.put, List.setIfInBounds_toArray, List.set_cons_zero, List.set_cons_succ])
  refine Plan.start (plan := [10, 11]) (fuel := 5) (by decide +kernel) (by assumption) ?_
  refine Plan.free (i := 10) (ds := some 31) (v := ?_) rfl rfl rfl ?_ (fun _ _ _ h => h) ?_
  rotate_left
  · (intro w hSw; (try dsimp only at hSw); go_simp; (try rw [if_neg (by omega)]); first | done | with_reducible rfl)
  (try simp only [Act.put, List.setIfInBounds_toArray, List.set_cons_zero, List.set_cons_succ])
  refine Plan.free (i := 11) (ds := some 32) (v := ?_) rfl rfl rfl ?_ (fun _ _ _ h => h) ?_
  rotate_left
  · (intro w hSw; (try dsimp only at hSw); go_simp; (try rw [if_neg (by omega)]); first | done | with_reducible rfl)
  (try simp only [Act.put, List.setIfInBounds_toArray, List.set_cons_zero, List.set_cons_succ])
  refine Plan.stop (fun hHeld => ?_)
  refine wpAnyH_ready (rs := [13]) (by decide +kernel) (by simp) ?_
  refine AllReadyH.cons (o := _) rfl ?_ AllReadyH.nil
  intro K hK
  rw [if_pos (wanted_none (by rfl))]
  (go_simp; go_at_call 19; refine (TX.out _).mono ?_; rintro e w5 ⟨rfl, hb⟩; have Y5 := Lib.hid (onward hb (Below.refl _ _).drew); clear hb)
  refine hK.out _ _ ?_ (fun hHeld => ?_)
  · (try dsimp only)
    exact KS.out _ Y5.out
  clear hK K
  (try simp only [Act.put, List.setIfInBounds_toArray, List.set_cons_zero, List.set_cons_succ])
  refine Plan.start (plan := [14, 15, 16, 17]) (fuel := 0) (by decide +kernel) (by assumption) ?_
  refine Plan.free (i := 14) (ds := some 35) (v := ?_) rfl rfl rfl ?_ (fun _ _ _ h => h) ?_
  rotate_left
  · (intro w hSw; (try dsimp only at hSw); go_simp; (try rw [if_neg (by omega)]); first | done | with_reducible rfl)
  (try simp only [Act.put, List.setIfInBounds_toArray, List.set_cons_zero, List.set_cons_succ])
  refine Plan.free (i := 15) (ds := some 36) (v := ?_) rfl rfl rfl ?_ (fun _ _ _ h => h) ?_
  rotate_left
  · (intro w hSw; (try dsimp only at hSw); go_simp; (try rw [if_neg (by omega)]); first | done | with_reducible rfl)
  (try simp only [Act.put, List.setIfInBounds_toArray, List.set_cons_zero, List.set_cons_succ])
  refine Plan.free (i := 16) (ds := some 37) (v := ?_) rfl rfl rfl ?_ (fun _ _ _ h => h) ?_
  rotate_left
  · (intro w hSw; (try dsimp only at hSw); go_simp; (try rw [if_neg (by omega)]); first | done | with_reducible rfl)
  (try simp only [Act.put, List.setIfInBounds_toArray, List.set_cons_zero, List.set_cons_succ])
  refine Plan.free (i := 17) (ds := some 7) (v := ?_) rfl rfl rfl ?_ (fun _ _ _ h => h) ?_
  rotate_left
  · (intro w hSw; (try dsimp only at hSw); go_simp; (try rw [if_neg (by omega)]); first | done | with_reducible rfl)
  (try simp only [Act.put, List.setIfInBounds_toArray, List.set_cons_zero, List.set_cons_succ])
  refine Plan.stop (fun hHeld => ?_)
  refine wpAnyH_done (by decide +kernel) ?_ _
  have Y4 := Lib.hid (onward Y5.out Y3.out)
  clear KS P3 G3 Y3 Y5 TX
  go_wp2_with fail
  have BD0 : Hid (∀ n, Below W0.heap.size W0 (w5.drewN n)) := fun n => World.below_drewN Y4.out n
  go_loopw [7, 8] (fun nv iv wr => ∃ (k : Nat) (X : ByteArray), k ≤ ls.length ∧ iv = .int .i64 k ∧ nv = .string X ∧ Hid (X = ⟨(accL ⟨no, te, mo, ls, tot, cr⟩ k).toArray⟩) ∧ Hid (Below W0.heap.size W0 wr)) (fun _ iv _ => ls.length - (intOf iv).toNat)
  case atStart => exact ⟨0, _, by omega, rfl, rfl, HX0.out, Y4.out⟩
  case round =>
    obtain ⟨k, X, hk, rfl, rfl, HX, BR⟩ := hrel
    obtain ⟨-, -, -, -, x3, x4, x5⟩ := cells6 (stays_block BR.out G0.out)
    have hXs : X.size ≤ 5000 := by
      have h := HAC.out k
      rw [HX.out]
      show (accL ⟨no, te, mo, ls, tot, cr⟩ k).toArray.size ≤ 5000
      rw [List.size_toArray]
      omega
    by_cases hlt : k < ls.length
    · obtain ⟨q, o, rfl, y0, y1, y2, y3, y4⟩ := ln_cells (HL.out.below (onward BR.out B0.out)) k hlt
      have hz : (k : Int) < ls.length := by omega
      have HS2 := Lib.hid (HST.out k hlt)
      obtain ⟨hln, hlk⟩ := HALL.out ls[k] (List.getElem_mem hlt)
      try dsimp only at HS2
      generalize ls[k] = l at *
      obtain ⟨kk, p, d, u, am⟩ := l
      obtain ⟨-, j1, j2, j3, j4⟩ := hlk
      dsimp only at j1 j2 j3 j4 y0 y1 y2 y3 y4
      have J1 := Lib.hid (u32_int j1)
      have J2 := Lib.hid j2
      have J3 := Lib.hid j3
      have J4 := Lib.hid j4
      have q1 := nB_size p J1.out
      have q2 := nB_size d J2.out
      have q3 := nB_size u J3.out
      have q4 := nB_size am J4.out
      have hwp : IntKind.i64.wrap p = p := IntWalk.i64_in _ (by unfold u32 at j1; omega)
      have P4 := Lib.hid (heap_alloc_new wr (.cells #[.int .u8 kk, .int .u32 p, .int .i64 d, .int .i64 u, .int .i64 am] 39))
      have B4 := Lib.hid (onward (below_alloc wr (.cells #[.int .u8 kk, .int .u32 p, .int .i64 d, .int .i64 u, .int .i64 am] 39)) BR.out)
      have hkind : kk = 1 ∨ kk = 2 ∨ kk = 3 := by
        unfold lnB at hln
        have := of_decide_eq_true hln
        dsimp only at this
        omega
      clear j1 j2 j3 j4 hln
      rcases hkind with rfl | rfl | rfl
      · go_upto_region 10 with fail
        generalize wr.alloc (.cells #[.int .u8 1, .int .u32 p, .int .i64 d, .int .i64 u, .int .i64 am] 39) = V at *
        have KS : Hid (∀ W, Below V.heap.size V W → W.cell? ⟨wr.heap.size, 1, none⟩ = some (.int .u32 p) ∧ W.cell? ⟨wr.heap.size, 2, none⟩ = some (.int .i64 d) ∧ W.cell? ⟨wr.heap.size, 3, none⟩ = some (.int .i64 u) ∧ W.cell? ⟨wr.heap.size, 4, none⟩ = some (.int .i64 am)) := fun W hb => by
          obtain ⟨-, -, c1, c2, c3, c4⟩ := cells5 (stays_block hb P4.out)
          exact ⟨c1, c2, c3, c4⟩
        have BD : Hid (∀ n, Below W0.heap.size W0 (V.drewN n)) := fun n => World.below_drewN B4.out n
        refine wp_region_held_drew (S := (fun W => W.cell? ⟨wr.heap.size, 1, none⟩ = some (.int .u32 p) ∧ W.cell? ⟨wr.heap.size, 2, none⟩ = some (.int .i64 d) ∧ W.cell? ⟨wr.heap.size, 3, none⟩ = some (.int .i64 u) ∧ W.cell? ⟨wr.heap.size, 4, none⟩ = some (.int .i64 am))) (by kernel_rfl) ?_ (fun hHeld => ?_)
        · (try dsimp only)
          exact KS.out _ (Below.refl _ _).drew
        refine Plan.start (plan := [0, 1, 2, 3, 4, 8, 9, 13, 14]) (fuel := 10) (by decide +kernel) (by assumption) ?_
        refine Plan.free (i := 0) (ds := some 54) (v := ?_) rfl rfl rfl ?_ (fun _ _ _ h => h) ?_
        rotate_left
        · (intro w hSw; (try dsimp only at hSw); go_simp; (try rw [if_neg (by omega)]); first | done | with_reducible rfl)
        (try simp only [Act.put, List.setIfInBounds_toArray, List.set_cons_zero, List.set_cons_succ])
        refine Plan.free (i := 1) (ds := some 55) (v := ?_) rfl rfl rfl ?_ (fun _ _ _ h => h) ?_
        rotate_left
        · (intro w hSw; (try dsimp only at hSw); go_simp; (try rw [if_neg (by omega)]); first | done | with_reducible rfl)
        (try simp only [Act.put, List.setIfInBounds_toArray, List.set_cons_zero, List.set_cons_succ])
        refine Plan.free (i := 2) (ds := some 56) (v := ?_) rfl rfl rfl ?_ (fun _ _ _ h => h) ?_
        rotate_left
        · (intro w hSw; (try dsimp only at hSw); go_simp; (try rw [if_neg (by omega)]); first | done | with_reducible rfl)
        (try simp only [Act.put, List.setIfInBounds_toArray, List.set_cons_zero, List.set_cons_succ])
        refine Plan.free (i := 3) (ds := some 57) (v := ?_) rfl rfl rfl ?_ (fun _ _ _ h => h) ?_
        rotate_left
        · (intro w hSw; (try dsimp only at hSw); go_simp; (try rw [if_neg (by omega)]); first | done | with_reducible rfl)
        (try simp only [Act.put, List.setIfInBounds_toArray, List.set_cons_zero, List.set_cons_succ])
        refine Plan.free (i := 4) (ds := some 58) (v := ?_) rfl rfl rfl ?_ (fun _ _ _ h => h) ?_
        rotate_left
        · (intro w hSw; (try dsimp only at hSw); go_simp; (try rw [if_neg (by omega)]); first | done | with_reducible rfl)
        (try simp only [Act.put, List.setIfInBounds_toArray, List.set_cons_zero, List.set_cons_succ])
        refine Plan.free (i := 8) (ds := some 62) (v := ?_) rfl rfl rfl ?_ (fun _ _ _ h => h) ?_
        rotate_left
        · (intro w hSw; (try dsimp only at hSw); go_simp; (try rw [if_neg (by omega)]); first | done | with_reducible rfl)
        (try simp only [Act.put, List.setIfInBounds_toArray, List.set_cons_zero, List.set_cons_succ])
        refine Plan.free (i := 9) (ds := some 63) (v := ?_) rfl rfl rfl ?_ (fun _ _ _ h => h) ?_
        rotate_left
        · (intro w hSw; (try dsimp only at hSw); go_simp; (try rw [if_neg (by omega)]); first | done | with_reducible rfl)
        (try simp only [Act.put, List.setIfInBounds_toArray, List.set_cons_zero, List.set_cons_succ])
        refine Plan.free (i := 13) (ds := some 67) (v := ?_) rfl rfl rfl ?_ (fun _ _ _ h => h) ?_
        rotate_left
        · (intro w hSw; (try dsimp only at hSw); go_simp; (try rw [if_neg (by omega)]); first | done | with_reducible rfl)
        (try simp only [Act.put, List.setIfInBounds_toArray, List.set_cons_zero, List.set_cons_succ])
        refine Plan.free (i := 14) (ds := some 68) (v := ?_) rfl rfl rfl ?_ (fun _ _ _ h => h) ?_
        rotate_left
        · (intro w hSw; (try dsimp only at hSw); go_simp; (try rw [if_neg (by omega)]); first | done | with_reducible rfl)
        (try simp only [Act.put, List.setIfInBounds_toArray, List.set_cons_zero, List.set_cons_succ])
        refine Plan.stop (fun hHeld => ?_)
        refine wpAnyH_ready (rs := [5]) (by decide +kernel) (by simp) ?_
        refine AllReadyH.cons (o := _) rfl ?_ AllReadyH.nil
        intro K hK
        rw [if_pos (wanted_none (by rfl))]
        (go_simp; go_at_call 18; refine (n_any p _ J1.out).mono ?_; rintro e _ ⟨rfl, rfl⟩)
        refine hK.out _ _ ?_ (fun hHeld => ?_)
        · (try dsimp only)
          exact KS.out _ (Below.refl _ _).drew
        clear hK K
        (try simp only [Act.put, List.setIfInBounds_toArray, List.set_cons_zero, List.set_cons_succ])
        refine Plan.start (plan := [6, 7]) (fuel := 7) (by decide +kernel) (by assumption) ?_
        refine Plan.free (i := 6) (ds := some 60) (v := ?_) rfl rfl rfl ?_ (fun _ _ _ h => h) ?_
        rotate_left
        · (intro w hSw; (try dsimp only at hSw); go_simp; (try rw [if_neg (by omega)]); first | done | with_reducible rfl)
        (try simp only [Act.put, List.setIfInBounds_toArray, List.set_cons_zero, List.set_cons_succ])
        refine Plan.free (i := 7) (ds := some 61) (v := ?_) rfl rfl rfl ?_ (fun _ _ _ h => h) ?_
        rotate_left
        · (intro w hSw; (try dsimp only at hSw); go_simp; (try rw [if_neg (by omega)]); first | done | with_reducible rfl)
        (try simp only [Act.put, List.setIfInBounds_toArray, List.set_cons_zero, List.set_cons_succ])
        refine Plan.stop (fun hHeld => ?_)
        refine wpAnyH_ready (rs := [10]) (by decide +kernel) (by simp) ?_
        refine AllReadyH.cons (o := _) rfl ?_ AllReadyH.nil
        intro K hK
        rw [if_pos (wanted_none (by rfl))]
        (go_simp; go_at_call 18; refine (n_any d _ J2.out).mono ?_; rintro e _ ⟨rfl, rfl⟩)
        refine hK.out _ _ ?_ (fun hHeld => ?_)
        · (try dsimp only)
          exact KS.out _ (Below.refl _ _).drew
        clear hK K
        (try simp only [Act.put, List.setIfInBounds_toArray, List.set_cons_zero, List.set_cons_succ])
        refine Plan.start (plan := [11, 12]) (fuel := 4) (by decide +kernel) (by assumption) ?_
        refine Plan.free (i := 11) (ds := some 65) (v := ?_) rfl rfl rfl ?_ (fun _ _ _ h => h) ?_
        rotate_left
        · (intro w hSw; (try dsimp only at hSw); go_simp; (try rw [if_neg (by omega)]); first | done | with_reducible rfl)
        (try simp only [Act.put, List.setIfInBounds_toArray, List.set_cons_zero, List.set_cons_succ])
        refine Plan.free (i := 12) (ds := some 66) (v := ?_) rfl rfl rfl ?_ (fun _ _ _ h => h) ?_
        rotate_left
        · (intro w hSw; (try dsimp only at hSw); go_simp; (try rw [if_neg (by omega)]); first | done | with_reducible rfl)
        (try simp only [Act.put, List.setIfInBounds_toArray, List.set_cons_zero, List.set_cons_succ])
        refine Plan.stop (fun hHeld => ?_)
        refine wpAnyH_ready (rs := [15]) (by decide +kernel) (by simp) ?_
        refine AllReadyH.cons (o := _) rfl ?_ AllReadyH.nil
        intro K hK
        rw [if_pos (wanted_none (by rfl))]
        (go_simp; go_at_call 18; refine (n_any am _ J4.out).mono ?_; rintro e _ ⟨rfl, rfl⟩)
        refine hK.out _ _ ?_ (fun hHeld => ?_)
        · (try dsimp only)
          exact KS.out _ (Below.refl _ _).drew
        clear hK K
        (try simp only [Act.put, List.setIfInBounds_toArray, List.set_cons_zero, List.set_cons_succ])
        refine Plan.start (plan := [16, 17, 18]) (fuel := 0) (by decide +kernel) (by assumption) ?_
        refine Plan.free (i := 16) (ds := some 70) (v := ?_) rfl rfl rfl ?_ (fun _ _ _ h => h) ?_
        rotate_left
        · (intro w hSw; (try dsimp only at hSw); go_simp; (try rw [if_neg (by omega)]); first | done | with_reducible rfl)
        (try simp only [Act.put, List.setIfInBounds_toArray, List.set_cons_zero, List.set_cons_succ])
        refine Plan.free (i := 17) (ds := some 71) (v := ?_) rfl rfl rfl ?_ (fun _ _ _ h => h) ?_
        rotate_left
        · (intro w hSw; (try dsimp only at hSw); go_simp; (try rw [if_neg (by omega)]); first | done | with_reducible rfl)
        (try simp only [Act.put, List.setIfInBounds_toArray, List.set_cons_zero, List.set_cons_succ])
        refine Plan.free (i := 18) (ds := some 7) (v := ?_) rfl rfl rfl ?_ (fun _ _ _ h => h) ?_
        rotate_left
        · (intro w hSw; (try dsimp only at hSw); go_simp; (try rw [if_neg (by omega)]); first | done | with_reducible rfl)
        (try simp only [Act.put, List.setIfInBounds_toArray, List.set_cons_zero, List.set_cons_succ])
        refine Plan.stop (fun hHeld => ?_)
        refine wpAnyH_done (by decide +kernel) ?_ _
        go_wp2_with fail
        go_roundw
        case rel => exact ⟨k + 1, _, by omega, by go_num, rfl, by (show _ = _); rw [HS2.out, HX.out]; exact acc_base _ p d u am, BD.out _⟩
        case measure => simp [intOf]; omega
      · go_wp2_with fail
        refine (n_any u _ J3.out).mono ?_
        rintro e _ ⟨rfl, rfl⟩
        go_wp2_with fail
        go_roundw
        case rel => exact ⟨k + 1, _, by omega, by go_num, rfl, by (show _ = _); rw [HS2.out, HX.out]; exact acc_pack _ p d u am, B4.out⟩
        case measure => simp [intOf]; omega
      · go_upto_region 14 with fail
        generalize wr.alloc (.cells #[.int .u8 3, .int .u32 p, .int .i64 d, .int .i64 u, .int .i64 am] 39) = V at *
        have KS : Hid (∀ W, Below V.heap.size V W → W.cell? ⟨wr.heap.size, 1, none⟩ = some (.int .u32 p) ∧ W.cell? ⟨wr.heap.size, 2, none⟩ = some (.int .i64 d) ∧ W.cell? ⟨wr.heap.size, 3, none⟩ = some (.int .i64 u) ∧ W.cell? ⟨wr.heap.size, 4, none⟩ = some (.int .i64 am)) := fun W hb => by
          obtain ⟨-, -, c1, c2, c3, c4⟩ := cells5 (stays_block hb P4.out)
          exact ⟨c1, c2, c3, c4⟩
        have BD : Hid (∀ n, Below W0.heap.size W0 (V.drewN n)) := fun n => World.below_drewN B4.out n
        refine wp_region_held_drew (S := (fun W => W.cell? ⟨wr.heap.size, 1, none⟩ = some (.int .u32 p) ∧ W.cell? ⟨wr.heap.size, 2, none⟩ = some (.int .i64 d) ∧ W.cell? ⟨wr.heap.size, 3, none⟩ = some (.int .i64 u) ∧ W.cell? ⟨wr.heap.size, 4, none⟩ = some (.int .i64 am))) (by kernel_rfl) ?_ (fun hHeld => ?_)
        · (try dsimp only)
          exact KS.out _ (Below.refl _ _).drew
        refine Plan.start (plan := [0, 1, 2, 3, 4, 8, 9, 13, 14]) (fuel := 10) (by decide +kernel) (by assumption) ?_
        refine Plan.free (i := 0) (ds := some 83) (v := ?_) rfl rfl rfl ?_ (fun _ _ _ h => h) ?_
        rotate_left
        · (intro w hSw; (try dsimp only at hSw); go_simp; (try rw [if_neg (by omega)]); first | done | with_reducible rfl)
        (try simp only [Act.put, List.setIfInBounds_toArray, List.set_cons_zero, List.set_cons_succ])
        refine Plan.free (i := 1) (ds := some 84) (v := ?_) rfl rfl rfl ?_ (fun _ _ _ h => h) ?_
        rotate_left
        · (intro w hSw; (try dsimp only at hSw); go_simp; (try rw [if_neg (by omega)]); first | done | with_reducible rfl)
        (try simp only [Act.put, List.setIfInBounds_toArray, List.set_cons_zero, List.set_cons_succ])
        refine Plan.free (i := 2) (ds := some 85) (v := ?_) rfl rfl rfl ?_ (fun _ _ _ h => h) ?_
        rotate_left
        · (intro w hSw; (try dsimp only at hSw); go_simp; (try rw [if_neg (by omega)]); first | done | with_reducible rfl)
        (try simp only [Act.put, List.setIfInBounds_toArray, List.set_cons_zero, List.set_cons_succ])
        refine Plan.free (i := 3) (ds := some 86) (v := ?_) rfl rfl rfl ?_ (fun _ _ _ h => h) ?_
        rotate_left
        · (intro w hSw; (try dsimp only at hSw); go_simp; (try rw [if_neg (by omega)]); first | done | with_reducible rfl)
        (try simp only [Act.put, List.setIfInBounds_toArray, List.set_cons_zero, List.set_cons_succ])
        refine Plan.free (i := 4) (ds := some 87) (v := ?_) rfl rfl rfl ?_ (fun _ _ _ h => h) ?_
        rotate_left
        · (intro w hSw; (try dsimp only at hSw); go_simp; (try rw [if_neg (by omega)]); first | done | with_reducible rfl)
        (try simp only [Act.put, List.setIfInBounds_toArray, List.set_cons_zero, List.set_cons_succ])
        refine Plan.free (i := 8) (ds := some 91) (v := ?_) rfl rfl rfl ?_ (fun _ _ _ h => h) ?_
        rotate_left
        · (intro w hSw; (try dsimp only at hSw); go_simp; (try rw [if_neg (by omega)]); first | done | with_reducible rfl)
        (try simp only [Act.put, List.setIfInBounds_toArray, List.set_cons_zero, List.set_cons_succ])
        refine Plan.free (i := 9) (ds := some 92) (v := ?_) rfl rfl rfl ?_ (fun _ _ _ h => h) ?_
        rotate_left
        · (intro w hSw; (try dsimp only at hSw); go_simp; (try rw [if_neg (by omega)]); first | done | with_reducible rfl)
        (try simp only [Act.put, List.setIfInBounds_toArray, List.set_cons_zero, List.set_cons_succ])
        refine Plan.free (i := 13) (ds := some 96) (v := ?_) rfl rfl rfl ?_ (fun _ _ _ h => h) ?_
        rotate_left
        · (intro w hSw; (try dsimp only at hSw); go_simp; (try rw [if_neg (by omega)]); first | done | with_reducible rfl)
        (try simp only [Act.put, List.setIfInBounds_toArray, List.set_cons_zero, List.set_cons_succ])
        refine Plan.free (i := 14) (ds := some 97) (v := ?_) rfl rfl rfl ?_ (fun _ _ _ h => h) ?_
        rotate_left
        · (intro w hSw; (try dsimp only at hSw); go_simp; (try rw [if_neg (by omega)]); first | done | with_reducible rfl)
        (try simp only [Act.put, List.setIfInBounds_toArray, List.set_cons_zero, List.set_cons_succ])
        refine Plan.stop (fun hHeld => ?_)
        refine wpAnyH_ready (rs := [5]) (by decide +kernel) (by simp) ?_
        refine AllReadyH.cons (o := _) rfl ?_ AllReadyH.nil
        intro K hK
        rw [if_pos (wanted_none (by rfl))]
        (go_simp; go_at_call 18; refine (n_any p _ J1.out).mono ?_; rintro e _ ⟨rfl, rfl⟩)
        refine hK.out _ _ ?_ (fun hHeld => ?_)
        · (try dsimp only)
          exact KS.out _ (Below.refl _ _).drew
        clear hK K
        (try simp only [Act.put, List.setIfInBounds_toArray, List.set_cons_zero, List.set_cons_succ])
        refine Plan.start (plan := [6, 7]) (fuel := 7) (by decide +kernel) (by assumption) ?_
        refine Plan.free (i := 6) (ds := some 89) (v := ?_) rfl rfl rfl ?_ (fun _ _ _ h => h) ?_
        rotate_left
        · (intro w hSw; (try dsimp only at hSw); go_simp; (try rw [if_neg (by omega)]); first | done | with_reducible rfl)
        (try simp only [Act.put, List.setIfInBounds_toArray, List.set_cons_zero, List.set_cons_succ])
        refine Plan.free (i := 7) (ds := some 90) (v := ?_) rfl rfl rfl ?_ (fun _ _ _ h => h) ?_
        rotate_left
        · (intro w hSw; (try dsimp only at hSw); go_simp; (try rw [if_neg (by omega)]); first | done | with_reducible rfl)
        (try simp only [Act.put, List.setIfInBounds_toArray, List.set_cons_zero, List.set_cons_succ])
        refine Plan.stop (fun hHeld => ?_)
        refine wpAnyH_ready (rs := [10]) (by decide +kernel) (by simp) ?_
        refine AllReadyH.cons (o := _) rfl ?_ AllReadyH.nil
        intro K hK
        rw [if_pos (wanted_none (by rfl))]
        (go_simp; go_at_call 18; refine (n_any u _ J3.out).mono ?_; rintro e _ ⟨rfl, rfl⟩)
        refine hK.out _ _ ?_ (fun hHeld => ?_)
        · (try dsimp only)
          exact KS.out _ (Below.refl _ _).drew
        clear hK K
        (try simp only [Act.put, List.setIfInBounds_toArray, List.set_cons_zero, List.set_cons_succ])
        refine Plan.start (plan := [11, 12]) (fuel := 4) (by decide +kernel) (by assumption) ?_
        refine Plan.free (i := 11) (ds := some 94) (v := ?_) rfl rfl rfl ?_ (fun _ _ _ h => h) ?_
        rotate_left
        · (intro w hSw; (try dsimp only at hSw); go_simp; (try rw [if_neg (by omega)]); first | done | with_reducible rfl)
        (try simp only [Act.put, List.setIfInBounds_toArray, List.set_cons_zero, List.set_cons_succ])
        refine Plan.free (i := 12) (ds := some 95) (v := ?_) rfl rfl rfl ?_ (fun _ _ _ h => h) ?_
        rotate_left
        · (intro w hSw; (try dsimp only at hSw); go_simp; (try rw [if_neg (by omega)]); first | done | with_reducible rfl)
        (try simp only [Act.put, List.setIfInBounds_toArray, List.set_cons_zero, List.set_cons_succ])
        refine Plan.stop (fun hHeld => ?_)
        refine wpAnyH_ready (rs := [15]) (by decide +kernel) (by simp) ?_
        refine AllReadyH.cons (o := _) rfl ?_ AllReadyH.nil
        intro K hK
        rw [if_pos (wanted_none (by rfl))]
        (go_simp; go_at_call 18; refine (n_any am _ J4.out).mono ?_; rintro e _ ⟨rfl, rfl⟩)
        refine hK.out _ _ ?_ (fun hHeld => ?_)
        · (try dsimp only)
          exact KS.out _ (Below.refl _ _).drew
        clear hK K
        (try simp only [Act.put, List.setIfInBounds_toArray, List.set_cons_zero, List.set_cons_succ])
        refine Plan.start (plan := [16, 17, 18]) (fuel := 0) (by decide +kernel) (by assumption) ?_
        refine Plan.free (i := 16) (ds := some 99) (v := ?_) rfl rfl rfl ?_ (fun _ _ _ h => h) ?_
        rotate_left
        · (intro w hSw; (try dsimp only at hSw); go_simp; (try rw [if_neg (by omega)]); first | done | with_reducible rfl)
        (try simp only [Act.put, List.setIfInBounds_toArray, List.set_cons_zero, List.set_cons_succ])
        refine Plan.free (i := 17) (ds := some 100) (v := ?_) rfl rfl rfl ?_ (fun _ _ _ h => h) ?_
        rotate_left
        · (intro w hSw; (try dsimp only at hSw); go_simp; (try rw [if_neg (by omega)]); first | done | with_reducible rfl)
        (try simp only [Act.put, List.setIfInBounds_toArray, List.set_cons_zero, List.set_cons_succ])
        refine Plan.free (i := 18) (ds := some 7) (v := ?_) rfl rfl rfl ?_ (fun _ _ _ h => h) ?_
        rotate_left
        · (intro w hSw; (try dsimp only at hSw); go_simp; (try rw [if_neg (by omega)]); first | done | with_reducible rfl)
        (try simp only [Act.put, List.setIfInBounds_toArray, List.set_cons_zero, List.set_cons_succ])
        refine Plan.stop (fun hHeld => ?_)
        refine wpAnyH_done (by decide +kernel) ?_ _
        go_wp2_with fail
        go_roundw
        case rel => exact ⟨k + 1, _, by omega, by go_num, rfl, by (show _ = _); rw [HS2.out, HX.out]; exact acc_over _ p d u am, BD.out _⟩
        case measure => simp [intOf]; omega
    · have hke : k = ls.length := by omega
      have dk : decide ((k : Int) < (ls.length : Int)) = false := decide_eq_false (by omega)
      have HF : Hid ((⟨(textL ⟨no, te, mo, ls, tot, cr⟩).toArray⟩ : ByteArray) = ⟨(((accL ⟨no, te, mo, ls, tot, cr⟩ k) ++ nl [wTotal, Lib.itoa tot]) ++ footT ⟨no, te, mo, ls, tot, cr⟩).toArray⟩) := by
        show _ = _
        rw [HEND.out, hke]
      have z4 := nB_size tot HN4.out
      have z5 := nB_size cr HN5.out
      clear HEND hke HALL HST HL
      go_wp2_with fail
      refine (n_any tot _ HN4.out).mono ?_
      rintro e _ ⟨rfl, rfl⟩
      by_cases hcr : 0 < cr
      · have HF2 : Hid (footT ⟨no, te, mo, ls, tot, cr⟩ = nl [wCredited, Lib.itoa cr]) := if_pos hcr
        go_wp2_with fail
        refine (n_any cr _ HN5.out).mono ?_
        rintro e _ ⟨rfl, rfl⟩
        go_wp2_with fail
        go_ret
        exact ⟨ret_str (by rw [HF.out, HF2.out, HX.out, acc_total, acc_cred]), onward BR.out B0.out⟩
      · have HF2 : Hid (footT ⟨no, te, mo, ls, tot, cr⟩ = []) := if_neg hcr
        go_wp2_with fail
        go_ret
        exact ⟨ret_str (by rw [HF.out, HF2.out, HX.out, acc_total, List.append_nil]), onward BR.out B0.out⟩
set_option maxHeartbeats 16000000 in
theorem rtexts_any (v : Ren.Inv) (l1 : Value) (w : World) (hE : EnvR w) (h1 : RowsIn w l1 5 (v.ls.map Ren.Ln.cells)) (k1 : v.ok) : Calls Tryz.prog 3 #[v.val l1] w fun e w' => e = .returned (.bool true) ∧ Below w.heap.size w w' := by
  have M1 := Lib.hid (fun (W : World) (hb : Below w.heap.size w W) => mayR_any v l1 W k1 (h1.below hb))
  have T1 := Lib.hid (fun (W : World) (hb : Below w.heap.size w W) => rtext_any v l1 W (hE.below hb).env (h1.below hb) k1)
  have T2 := Lib.hid (fun (W : World) (hb : Below w.heap.size w W) (hm : mayB v = true) => rtextR_any v l1 W (h1.below hb) k1 hm)
  have GO := Lib.hid (fun (W : World) (hb : Below w.heap.size w W) => goesR_tail w W hE hb)
  have HN : Hid (mayB v = false → textL v = []) := fun h => by unfold textL; rw [h]; rfl
  obtain ⟨a1, c1, rfl⟩ := ln_form h1
  clear h1 hE k1
  obtain ⟨no, te, mo, ls, tot, cr⟩ := v
  show Calls Tryz.prog 3 #[.agg #[.int .u32 no, .int .u32 te, .int .i64 mo, .slice a1 ls.length c1, .int .i64 tot, .int .i64 cr]] w _
  have B0 := Lib.hid (below_alloc w (.cells #[.int .u32 no, .int .u32 te, .int .i64 mo, .slice a1 ls.length c1, .int .i64 tot, .int .i64 cr] 25))
  have G1 := Lib.hid (heap_alloc_new w (.cells #[.int .u32 no, .int .u32 te, .int .i64 mo, .slice a1 ls.length c1, .int .i64 tot, .int .i64 cr] 25))
  by_cases n1 : 80 < ls.length
  · have d1 : decide ((80 : Int) < (ls.length : Int)) = true := decide_eq_true (by omega)
    go_enter Tryz.func3, Tryz.ntmps3
    go_wp2_with fail
    go_ret
    exact ⟨rfl, B0.out⟩
  have d1 : decide ((80 : Int) < (ls.length : Int)) = false := decide_eq_false (by omega)
  go_enter Tryz.func3, Tryz.ntmps3
  go_wp2_with fail
  generalize w.alloc (.cells #[.int .u32 no, .int .u32 te, .int .i64 mo, .slice a1 ls.length c1, .int .i64 tot, .int .i64 cr] 25) = W0 at *
  refine (T1.out _ B0.out).mono ?_
  rintro e w1 ⟨rfl, hb⟩
  have B1 := Lib.hid (onward hb B0.out)
  have Y1 := Lib.hid hb
  clear hb T1
  obtain ⟨-, x0, x1, x2, x3, x4, x5⟩ := cells6 (stays_block Y1.out G1.out)
  cases m1 : mayB ⟨no, te, mo, ls, tot, cr⟩
  · have hn := HN.out m1
    rw [m1] at M1
    rw [hn, if_neg (by decide)]
    clear HN hn m1 T2
    go_wp2_with fail
    refine (M1.out _ B1.out).mono ?_
    rintro e w2 ⟨rfl, hb⟩
    have B2 := Lib.hid (onward hb B1.out)
    clear hb M1
    go_wp2_with fail
    refine (GO.out _ B2.out).mono ?_
    rintro e w9 ⟨rfl, hb⟩
    have B9 := Lib.hid hb
    clear hb
    go_wp2
    go_ret
    exact ⟨rfl, B9.out⟩
  · have T3 := Lib.hid (fun (W : World) (hb : Below w.heap.size w W) => T2.out W hb m1)
    rw [m1] at M1
    rw [if_pos rfl]
    clear HN m1 T2
    generalize (⟨(textL ⟨no, te, mo, ls, tot, cr⟩).toArray⟩ : ByteArray) = u at *
    go_wp2_with fail
    clear x0 x1 x2 x3 x4 x5
    refine (M1.out _ B1.out).mono ?_
    rintro e w2 ⟨rfl, hb⟩
    have B2 := Lib.hid (onward hb B1.out)
    obtain ⟨-, x0, x1, x2, x3, x4, x5⟩ := cells6 (stays_block (onward hb Y1.out) G1.out)
    clear hb M1
    go_wp2_with fail
    clear x0 x1 x2 x3 x4 x5
    refine (T3.out _ B2.out).mono ?_
    rintro e w3 ⟨rfl, hb⟩
    have B3 := Lib.hid (onward hb B2.out)
    clear hb T3
    go_wp2_with fail
    refine (GO.out _ B3.out).mono ?_
    rintro e w9 ⟨rfl, hb⟩
    have B9 := Lib.hid hb
    clear hb
    go_wp2
    go_ret
    exact ⟨rfl, B9.out⟩
end Go.Proofs.YtmppkhjjlgngkaaGreatDoor
