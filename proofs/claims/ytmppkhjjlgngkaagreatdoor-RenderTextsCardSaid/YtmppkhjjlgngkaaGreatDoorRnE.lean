/- The walk of render.Text. (Printed by gen_rne.py.) -/
import Derived.Test.YtmppkhjjlgngkaaGreatDoorRnD
import Derived.Test.YtmppkhjjlgngkaaGreatDoorReg
import Derived.Deep.DeepCutAuto
import Derived.Deep.CutBlock
namespace Go.Proofs.YtmppkhjjlgngkaaGreatDoor
open Go.RowKit Civ Ren
set_option linter.unusedVariables false
set_option linter.unusedSimpArgs false
theorem baApp (a b : List UInt8) : (⟨a.toArray⟩ : ByteArray) ++ ⟨b.toArray⟩ = ⟨(a ++ b).toArray⟩ := by simp [ByteArray.ext_iff]
theorem baTake (a : List UInt8) (n : Nat) : (⟨a.toArray⟩ : ByteArray).extract 0 n = ⟨(a.take n).toArray⟩ := by
  apply ByteArray.ext
  rw [ByteArray.data_extract]
  simp
def headT (v : Ren.Inv) : List UInt8 := nl [wInvoice, Lib.itoa v.no] ++ nl [wTenant, Lib.itoa v.te] ++ nl [wMonth, monL v.mo]
def footT (v : Ren.Inv) : List UInt8 := if 0 < v.cr then nl [wCredited, Lib.itoa v.cr] else []
theorem body_rows (v : Ren.Inv) : bodyL v = headT v ++ v.ls.flatMap (fun l => nl (lineW l)) ++ nl [wTotal, Lib.itoa v.tot] ++ footT v := by
  have h : ∀ ls : List Ren.Ln, (ls.map lineW).flatMap nl = ls.flatMap (fun l => nl (lineW l)) := fun ls => by rw [List.flatMap_map]
  unfold bodyL rowsW headT footT
  rw [List.flatMap_cons, List.flatMap_cons, List.flatMap_cons, List.flatMap_append, List.flatMap_cons, h]
  split <;> simp [List.append_assoc]
theorem two_len (a : List UInt8) (n : Int) (ha : a.length ≤ 20) (hn : Acct.inInt n) : (nl [a, Lib.itoa n]).length ≤ 50 := by
  have := itoa_len n hn
  unfold nl
  simp [sp]
  omega
theorem head_len (v : Ren.Inv) (h : v.ok) : (headT v).length ≤ 150 := by
  have h1 := two_len wInvoice v.no (by decide) (u32_int h.1)
  have h2 := two_len wTenant v.te (by decide) (u32_int h.2.1)
  have h3 : (nl [wMonth, monL v.mo]).length ≤ 50 := by
    have := mon_len v.mo
    unfold nl
    simp [sp]
    omega
  unfold headT
  rw [List.length_append, List.length_append]
  omega
theorem lines_len : ∀ ls : List Ren.Ln, (∀ l ∈ ls, l.ok) → (ls.flatMap (fun l => nl (lineW l))).length ≤ 100 * ls.length
  | [], _ => by simp
  | l :: r, h => by
    have h1 := line_len l (h l (by simp))
    have h2 := lines_len r (fun x hx => h x (List.mem_cons_of_mem _ hx))
    rw [List.flatMap_cons, List.length_append, List.length_cons]
    omega
def wBaseP : List UInt8 := [98, 97, 115, 101, 32, 112, 108, 97, 110]
def wPackU : List UInt8 := [112, 97, 99, 107, 32, 117, 110, 105, 116, 115]
def wOverP : List UInt8 := [111, 118, 101, 114, 32, 112, 108, 97, 110]
theorem iface_cells (w : World) (l : List Value) : (w.alloc (.cells l.toArray 20)).heap[w.heap.size]? = some (.cells l.toArray 20 (0, 0)) := heap_alloc_new _ _
set_option maxHeartbeats 8000000 in
set_option maxRecDepth 10000000 in
theorem text_at (no te mo : Int) (ls : List Ren.Ln) (tot cr : Int) (lv : Value) (w : World) (hE : Env w) (hl : RowsIn w lv 5 (ls.map Ren.Ln.cells)) (hok : Ren.Inv.ok ⟨no, te, mo, ls, tot, cr⟩) (hm : mayB ⟨no, te, mo, ls, tot, cr⟩ = true) :
    Calls Tryz.prog 4 #[.agg #[.int .u32 no, .int .u32 te, .int .i64 mo, lv, .int .i64 tot, .int .i64 cr]] w fun e w' => e = .returned (.tuple #[.string ⟨(bodyL ⟨no, te, mo, ls, tot, cr⟩).toArray⟩, .int .i64 0]) ∧ Below w.heap.size w w' := by
  have hm' := hm
  unfold mayB at hm'
  rw [Bool.and_eq_true] at hm'
  obtain ⟨hall, m⟩ := hm'
  obtain ⟨m1, m2, m3, m4, m5, m6, m7⟩ := of_decide_eq_true m
  dsimp only at m1 m2 m3 m4 m5 m6 m7 hall
  obtain ⟨a, c, rfl, h1, h2⟩ := rows_form hl
  simp only [List.length_map] at hl h1 ⊢
  have hHL := head_len _ hok
  have hB := body_rows ⟨no, te, mo, ls, tot, cr⟩
  obtain ⟨z3, hz3⟩ : ∃ z, z = headT ⟨no, te, mo, ls, tot, cr⟩ := ⟨_, rfl⟩
  rw [← hz3] at hHL hB
  have HZ : Hid (nl [wInvoice, Lib.itoa no] ++ nl [wTenant, Lib.itoa te] ++ nl [wMonth, monL mo] = z3) := hz3.symm
  obtain ⟨ok1, ok2, ok3, ok4, ok5, ok6⟩ := hok
  dsimp only at ok1 ok2 ok3 ok4 ok5 ok6
  have HB := Lib.hid hB
  have HL := Lib.hid hl
  have HE := Lib.hid hE
  have HA := Lib.hid hall
  have OK := Lib.hid ok6
  clear hl hE hall m ok6 hB hz3
  unfold maxLen at h2
  go_enter Tryz.func4, Tryz.ntmps4
  have b0 := below_alloc w (.cells #[.int .u32 no, .int .u32 te, .int .i64 mo, .slice a ls.length c, .int .i64 tot, .int .i64 cr] 25)
  have G0 := Lib.hid (heap_alloc_new w (.cells #[.int .u32 no, .int .u32 te, .int .i64 mo, .slice a ls.length c, .int .i64 tot, .int .i64 cr] 25))
  have B0 := Lib.hid b0
  clear b0
  go_wp2_with fail
  refine (may_any ⟨no, te, mo, ls, tot, cr⟩ _ _ (HE.out.below B0.out).lens (HL.out.below B0.out)).mono ?_
  rintro e w2 ⟨rfl, hb⟩
  rw [hm]
  have G2 := Lib.hid (stays_block hb G0.out)
  have B2 := Lib.hid (onward hb B0.out)
  clear hb G0 B0 hm
  obtain ⟨-, x0, x1, x2, x3, x4, x5⟩ := cells6 G2.out
  go_wp2_with fail
  refine (clamp_yes mo 1 w2 (HE.out.below B2.out).lens m3 m4 (by decide)).mono ?_
  rintro e w3 ⟨rfl, hb⟩
  have hmin : min 1 (lenM mo) = 1 := by have := lenM_bd mo m3 m4; omega
  rw [hmin]
  have bd := below_alloc w3 (.cells #[.int .i64 (mo / 12), .int .i64 (mo % 12 + 1), .int .i64 1] 33)
  have G4 := Lib.hid (stays_block (onward bd hb) G2.out)
  have D4 := Lib.hid (heap_alloc_new w3 (.cells #[.int .i64 (mo / 12), .int .i64 (mo % 12 + 1), .int .i64 1] 33))
  have B4 := Lib.hid (onward (onward bd hb) B2.out)
  clear hb bd G2 B2 x0 x1 x2 x3 x4 x5 hmin
  go_upto_region 4 with fail
  generalize w3.alloc (.cells #[.int .i64 (mo / 12), .int .i64 (mo % 12 + 1), .int .i64 1] 33) = W4 at *
  have HS : Hid (∀ W, Below W4.heap.size W4 W → W.cell? ⟨w.heap.size, 0, none⟩ = some (.int .u32 no) ∧ W.cell? ⟨w.heap.size, 1, none⟩ = some (.int .u32 te) ∧ W.cell? ⟨w3.heap.size, 0, none⟩ = some (.int .i64 (mo / 12)) ∧ W.cell? ⟨w3.heap.size, 1, none⟩ = some (.int .i64 (mo % 12 + 1)) ∧ W.cell? ⟨w3.heap.size, 2, none⟩ = some (.int .i64 1)) := fun W hb => by
    obtain ⟨-, x0, x1, -, -, -, -⟩ := cells6 G4.out
    refine ⟨stays hb x0, stays hb x1, ?_, ?_, ?_⟩
    · rw [cell_of_row (stays_block hb D4.out)]; rfl
    · rw [cell_of_row (stays_block hb D4.out)]; rfl
    · rw [cell_of_row (stays_block hb D4.out)]; rfl
  go_cut [6] (fun s wc => s = .string ⟨z3.toArray⟩ ∧ Hid (Below W4.heap.size W4 wc))
  case first =>
    have hV := vld_first m3 m4
    have h12 : (nl [wInvoice, Lib.itoa no]).length ≤ 50 := two_len _ _ (by decide) (u32_int ok1)
    have h22 : (nl [wTenant, Lib.itoa te]).length ≤ 50 := two_len _ _ (by decide) (u32_int ok2)
    have h32 : (nl [wMonth, monL mo]).length ≤ 50 := by
      have := mon_len mo
      unfold nl
      simp [sp]
      omega
    have T1 : Hid (∀ (W : World) (g : Nat), Below W4.heap.size W4 W → W.heap[g]? = some (.cells #[.iface 9 (.string ⟨wInvoice.toArray⟩), .iface 22 (.int .u32 no)] 20 (0, 0)) → Calls Tryz.prog 10 #[.slice (some ⟨g, 0, none⟩) 2 2] W fun e w' => e = .returned (.string ⟨(nl [wInvoice, Lib.itoa no]).toArray⟩) ∧ Below W.heap.size W w') := fun W g hb hg => told2 (.s wInvoice) (.u no) g W ((HE.out.below (onward hb B4.out)).pow) (by show _ ≤ _; decide) ok1 hg
    have T2 : Hid (∀ (W : World) (g : Nat), Below W4.heap.size W4 W → W.heap[g]? = some (.cells #[.iface 9 (.string ⟨wTenant.toArray⟩), .iface 22 (.int .u32 te)] 20 (0, 0)) → Calls Tryz.prog 10 #[.slice (some ⟨g, 0, none⟩) 2 2] W fun e w' => e = .returned (.string ⟨(nl [wTenant, Lib.itoa te]).toArray⟩) ∧ Below W.heap.size W w') := fun W g hb hg => told2 (.s wTenant) (.u te) g W ((HE.out.below (onward hb B4.out)).pow) (by show _ ≤ _; decide) ok2 hg
    have T3 : Hid (∀ (W : World) (g : Nat), Below W4.heap.size W4 W → W.heap[g]? = some (.cells #[.iface 9 (.string ⟨wMonth.toArray⟩), .iface 9 (.string ⟨(monL mo).toArray⟩)] 20 (0, 0)) → Calls Tryz.prog 10 #[.slice (some ⟨g, 0, none⟩) 2 2] W fun e w' => e = .returned (.string ⟨(nl [wMonth, monL mo]).toArray⟩) ∧ Below W.heap.size W w') := fun W g hb hg => told2 (.s wMonth) (.s (monL mo)) g W ((HE.out.below (onward hb B4.out)).pow) (by show _ ≤ _; decide) (by show (monL mo).length ≤ _; rw [mon_len]; decide) hg
    have TX : Hid (∀ (W : World), Below W4.heap.size W4 W → Calls Tryz.prog 11 #[.agg #[.int .i64 (mo / 12), .int .i64 (mo % 12 + 1), .int .i64 1]] W fun e w' => e = .returned (.string ⟨(txtL (mo / 12) (mo % 12 + 1) 1).toArray⟩) ∧ Below W.heap.size W w') := fun W hb => text_yes _ _ _ W (HE.out.below (onward hb B4.out)) hV
    have hsl : ∀ W, (Instr.sliceAt 9 (.string ⟨(txtL (mo / 12) (mo % 12 + 1) 1).toArray⟩) none (some (.int .i64 7)) none).run Tryz.prog W = .ok (.string ⟨(monL mo).toArray⟩) W := fun W => by
      have hs : (⟨(txtL (mo / 12) (mo % 12 + 1) 1).toArray⟩ : ByteArray).size = 10 := by
        have := txtL_length (mo / 12) (mo % 12 + 1) 1
        simpa [ByteArray.size] using this
      go_simp
      simp [hs, baTake, monL]
    have A12 := baApp (nl [wInvoice, Lib.itoa no]) (nl [wTenant, Lib.itoa te])
    have A3 := baApp (nl [wInvoice, Lib.itoa no] ++ nl [wTenant, Lib.itoa te]) (nl [wMonth, monL mo])
    rw [HZ.out] at A3
    have L12 : ¬ 9223372036854775807 < (nl [wInvoice, Lib.itoa no]).length + (nl [wTenant, Lib.itoa te]).length := by omega
    have L3 : ¬ 9223372036854775807 < (nl [wInvoice, Lib.itoa no] ++ nl [wTenant, Lib.itoa te]).length + (nl [wMonth, monL mo]).length := by rw [List.length_append]; omega
    clear HZ
    generalize nl [wInvoice, Lib.itoa no] ++ nl [wTenant, Lib.itoa te] = z2 at *
    generalize nl [wInvoice, Lib.itoa no] = t1 at *
    generalize nl [wTenant, Lib.itoa te] = t2 at *
    generalize nl [wMonth, monL mo] = t3 at *
    clear hV
    have ZZ : Hid (∀ (C D : Array Value), Below W4.heap.size W4 ((W4.drew.alloc (.cells C 20)).alloc (.cells D 20)) ∧ ((W4.drew.alloc (.cells C 20)).alloc (.cells D 20)).heap[W4.heap.size]? = some (.cells C 20 (0, 0)) ∧ ((W4.drew.alloc (.cells C 20)).alloc (.cells D 20)).heap[W4.heap.size + 1]? = some (.cells D 20 (0, 0))) := fun C D => by
      obtain ⟨h1, h2, h3, h4⟩ := two_blocks W4.drew C D 20 20
      exact ⟨onward h1 (Below.refl _ _).drew, h2, h3⟩
    refine wp_region_held_drew (S := (fun W => W.cell? ⟨w.heap.size, 0, none⟩ = some (.int .u32 no) ∧ W.cell? ⟨w.heap.size, 1, none⟩ = some (.int .u32 te) ∧ W.cell? ⟨w3.heap.size, 0, none⟩ = some (.int .i64 (mo / 12)) ∧ W.cell? ⟨w3.heap.size, 1, none⟩ = some (.int .i64 (mo % 12 + 1)) ∧ W.cell? ⟨w3.heap.size, 2, none⟩ = some (.int .i64 1))) (by kernel_rfl) ?_ (fun hHeld => ?_)
    · (try dsimp only)
      exact HS.out _ (Below.refl _ _).drew
    refine Plan.start (plan := [0, 1, 2, 3, 6, 7, 8, 9, 13, 14]) (fuel := 12) (by decide +kernel) (by assumption) ?_
    refine Plan.free (i := 0) (ds := some 18) (v := ?_) rfl rfl rfl ?_ (fun _ _ _ h => h) ?_
    rotate_left
    · (intro w hSw; (try dsimp only at hSw); go_simp; first | done | with_reducible rfl)
    (try simp only [Act.put, List.setIfInBounds_toArray, List.set_cons_zero, List.set_cons_succ])
    refine Plan.free (i := 1) (ds := some 19) (v := ?_) rfl rfl rfl ?_ (fun _ _ _ h => h) ?_
    rotate_left
    · (intro w hSw; (try dsimp only at hSw); go_simp; first | done | with_reducible rfl)
    (try simp only [Act.put, List.setIfInBounds_toArray, List.set_cons_zero, List.set_cons_succ])
    refine Plan.free (i := 2) (ds := some 20) (v := ?_) rfl rfl rfl ?_ (fun _ _ _ h => h) ?_
    rotate_left
    · (intro w hSw; (try dsimp only at hSw); go_simp; first | done | with_reducible rfl)
    (try simp only [Act.put, List.setIfInBounds_toArray, List.set_cons_zero, List.set_cons_succ])
    refine Plan.free (i := 3) (ds := some 21) (v := ?_) rfl rfl rfl ?_ (fun _ _ _ h => h) ?_
    rotate_left
    · (intro w hSw; (try dsimp only at hSw); go_simp; first | done | with_reducible rfl)
    (try simp only [Act.put, List.setIfInBounds_toArray, List.set_cons_zero, List.set_cons_succ])
    refine Plan.free (i := 6) (ds := some 24) (v := ?_) rfl rfl rfl ?_ (fun _ _ _ h => h) ?_
    rotate_left
    · (intro w hSw; (try dsimp only at hSw); go_simp; first | done | with_reducible rfl)
    (try simp only [Act.put, List.setIfInBounds_toArray, List.set_cons_zero, List.set_cons_succ])
    refine Plan.free (i := 7) (ds := some 25) (v := ?_) rfl rfl rfl ?_ (fun _ _ _ h => h) ?_
    rotate_left
    · (intro w hSw; (try dsimp only at hSw); go_simp; first | done | with_reducible rfl)
    (try simp only [Act.put, List.setIfInBounds_toArray, List.set_cons_zero, List.set_cons_succ])
    refine Plan.free (i := 8) (ds := some 26) (v := ?_) rfl rfl rfl ?_ (fun _ _ _ h => h) ?_
    rotate_left
    · (intro w hSw; (try dsimp only at hSw); go_simp; first | done | with_reducible rfl)
    (try simp only [Act.put, List.setIfInBounds_toArray, List.set_cons_zero, List.set_cons_succ])
    refine Plan.free (i := 9) (ds := some 27) (v := ?_) rfl rfl rfl ?_ (fun _ _ _ h => h) ?_
    rotate_left
    · (intro w hSw; (try dsimp only at hSw); go_simp; first | done | with_reducible rfl)
    (try simp only [Act.put, List.setIfInBounds_toArray, List.set_cons_zero, List.set_cons_succ])
    refine Plan.free (i := 13) (ds := some 31) (v := ?_) rfl rfl rfl ?_ (fun _ _ _ h => h) ?_
    rotate_left
    · (intro w hSw; (try dsimp only at hSw); go_simp; first | done | with_reducible rfl)
    (try simp only [Act.put, List.setIfInBounds_toArray, List.set_cons_zero, List.set_cons_succ])
    refine Plan.free (i := 14) (ds := some 32) (v := ?_) rfl rfl rfl ?_ (fun _ _ _ h => h) ?_
    rotate_left
    · (intro w hSw; (try dsimp only at hSw); go_simp; first | done | with_reducible rfl)
    (try simp only [Act.put, List.setIfInBounds_toArray, List.set_cons_zero, List.set_cons_succ])
    refine Plan.stop (fun hHeld => ?_)
    refine wpAnyH_ready (rs := [4, 10]) (by decide +kernel) (by simp) ?_
    refine AllReadyH.cons (o := _) rfl ?_ ?_
    · intro K hK
      rw [if_pos (wanted_none (by rfl))]
      (go_simp)
      refine hK.out _ _ ?_ (fun hHeld => ?_)
      · (try dsimp only)
        exact HS.out _ (onward (below_alloc _ _) (Below.refl _ _).drew)
      clear hK K
      (try simp only [Act.put, List.setIfInBounds_toArray, List.set_cons_zero, List.set_cons_succ])
      refine wpAnyH_ready (rs := [5, 10]) (by decide +kernel) (by simp) ?_
      refine AllReadyH.cons (o := _) rfl ?_ ?_
      · intro K hK
        rw [if_pos (wanted_none (by rfl))]
        (go_simp; go_at_call 10; refine (T1.out _ _ (onward (below_alloc _ _) (Below.refl _ _).drew) (iface_cells _ [.iface 9 (.string ⟨wInvoice.toArray⟩), .iface 22 (.int .u32 no)])).mono ?_; rintro e w5 ⟨rfl, hb5⟩; have B5 := Lib.hid (onward hb5 (onward (below_alloc _ _) (Below.refl _ _).drew)); clear hb5)
        refine hK.out _ _ ?_ (fun hHeld => ?_)
        · (try dsimp only)
          exact HS.out _ B5.out
        clear hK K
        (try simp only [Act.put, List.setIfInBounds_toArray, List.set_cons_zero, List.set_cons_succ])
        refine wpAnyH_ready (rs := [10]) (by decide +kernel) (by simp) ?_
        refine AllReadyH.cons (o := _) rfl ?_ AllReadyH.nil
        intro K hK
        rw [if_pos (wanted_none (by rfl))]
        (go_simp)
        refine hK.out _ _ ?_ (fun hHeld => ?_)
        · (try dsimp only)
          exact HS.out _ (onward (below_alloc _ _) B5.out)
        clear hK K
        (try simp only [Act.put, List.setIfInBounds_toArray, List.set_cons_zero, List.set_cons_succ])
        refine wpAnyH_ready (rs := [11]) (by decide +kernel) (by simp) ?_
        refine AllReadyH.cons (o := _) rfl ?_ AllReadyH.nil
        intro K hK
        rw [if_pos (wanted_none (by rfl))]
        (go_simp; go_at_call 10; refine (T2.out _ _ (onward (below_alloc _ _) B5.out) (iface_cells _ [.iface 9 (.string ⟨wTenant.toArray⟩), .iface 22 (.int .u32 te)])).mono ?_; rintro e w11 ⟨rfl, hb11⟩; have B11 := Lib.hid (onward hb11 (onward (below_alloc _ _) B5.out)); clear hb11)
        refine hK.out _ _ ?_ (fun hHeld => ?_)
        · (try dsimp only)
          exact HS.out _ B11.out
        clear hK K
        (try simp only [Act.put, List.setIfInBounds_toArray, List.set_cons_zero, List.set_cons_succ])
        refine Plan.start (plan := [12]) (fuel := 7) (by decide +kernel) (by assumption) ?_
        refine Plan.free (i := 12) (ds := some 30) (v := ?_) rfl rfl rfl ?_ (fun _ _ _ h => h) ?_
        rotate_left
        · (intro w hSw; (try dsimp only at hSw); go_simp; first | done | with_reducible rfl)
        (try simp only [Act.put, List.setIfInBounds_toArray, List.set_cons_zero, List.set_cons_succ])
        refine Plan.stop (fun hHeld => ?_)
        refine wpAnyH_ready (rs := [15]) (by decide +kernel) (by simp) ?_
        refine AllReadyH.cons (o := _) rfl ?_ AllReadyH.nil
        intro K hK
        rw [if_pos (wanted_none (by rfl))]
        (go_simp; go_at_call 11; refine (TX.out _ B11.out).mono ?_; rintro e w15 ⟨rfl, hb15⟩; have B15 := Lib.hid (onward hb15 B11.out); clear hb15)
        refine hK.out _ _ ?_ (fun hHeld => ?_)
        · (try dsimp only)
          exact HS.out _ B15.out
        clear hK K
        (try simp only [Act.put, List.setIfInBounds_toArray, List.set_cons_zero, List.set_cons_succ])
        refine Plan.start (plan := [16, 17]) (fuel := 4) (by decide +kernel) (by assumption) ?_
        refine Plan.free (i := 16) (ds := some 34) (v := ?_) rfl rfl rfl ?_ (fun _ _ _ h => h) ?_
        rotate_left
        · (intro w hSw; (try dsimp only at hSw); go_simp; first | done | with_reducible rfl)
        (try simp only [Act.put, List.setIfInBounds_toArray, List.set_cons_zero, List.set_cons_succ])
        refine Plan.free (i := 17) (ds := some 35) (v := ?_) rfl rfl rfl ?_ (fun _ _ _ h => h) ?_
        rotate_left
        · (intro w hSw; (try dsimp only at hSw); go_simp; first | done | with_reducible rfl)
        (try simp only [Act.put, List.setIfInBounds_toArray, List.set_cons_zero, List.set_cons_succ])
        refine Plan.stop (fun hHeld => ?_)
        refine wpAnyH_ready (rs := [18]) (by decide +kernel) (by simp) ?_
        refine AllReadyH.cons (o := _) rfl ?_ AllReadyH.nil
        intro K hK
        rw [if_pos (wanted_none (by rfl))]
        (go_simp)
        refine hK.out _ _ ?_ (fun hHeld => ?_)
        · (try dsimp only)
          exact HS.out _ (onward (below_alloc _ _) B15.out)
        clear hK K
        (try simp only [Act.put, List.setIfInBounds_toArray, List.set_cons_zero, List.set_cons_succ])
        refine wpAnyH_ready (rs := [19]) (by decide +kernel) (by simp) ?_
        refine AllReadyH.cons (o := _) rfl ?_ AllReadyH.nil
        intro K hK
        rw [if_pos (wanted_none (by rfl))]
        (go_simp; go_at_call 10; refine (T3.out _ _ (onward (below_alloc _ _) B15.out) (iface_cells _ [.iface 9 (.string ⟨wMonth.toArray⟩), .iface 9 (.string ⟨(monL mo).toArray⟩)])).mono ?_; rintro e w19 ⟨rfl, hb19⟩; have B19 := Lib.hid (onward hb19 (onward (below_alloc _ _) B15.out)); clear hb19)
        refine hK.out _ _ ?_ (fun hHeld => ?_)
        · (try dsimp only)
          exact HS.out _ B19.out
        clear hK K
        (try simp only [Act.put, List.setIfInBounds_toArray, List.set_cons_zero, List.set_cons_succ])
        refine Plan.start (plan := [20, 21]) (fuel := 0) (by decide +kernel) (by assumption) ?_
        refine Plan.free (i := 20) (ds := some 38) (v := ?_) rfl rfl rfl ?_ (fun _ _ _ h => h) ?_
        rotate_left
        · (intro w hSw; (try dsimp only at hSw); go_simp; first | done | with_reducible rfl)
        (try simp only [Act.put, List.setIfInBounds_toArray, List.set_cons_zero, List.set_cons_succ])
        refine Plan.free (i := 21) (ds := some 6) (v := ?_) rfl rfl rfl ?_ (fun _ _ _ h => h) ?_
        rotate_left
        · (intro w hSw; (try dsimp only at hSw); go_simp; first | done | with_reducible rfl)
        (try simp only [Act.put, List.setIfInBounds_toArray, List.set_cons_zero, List.set_cons_succ])
        refine Plan.stop (fun hHeld => ?_)
        refine wpAnyH_done (by decide +kernel) ?_ _
        go_wp2_with fail
        go_meet
        case rel => exact ⟨rfl, B19⟩
      refine AllReadyH.cons (o := _) rfl ?_ ?_
      · intro K hK
        rw [if_pos (wanted_none (by rfl))]
        (go_simp)
        refine hK.out _ _ ?_ (fun hHeld => ?_)
        · (try dsimp only)
          exact HS.out _ (ZZ.out _ _).1
        clear hK K
        (try simp only [Act.put, List.setIfInBounds_toArray, List.set_cons_zero, List.set_cons_succ])
        refine wpAnyH_ready (rs := [5]) (by decide +kernel) (by simp) ?_
        refine AllReadyH.cons (o := _) rfl ?_ AllReadyH.nil
        intro K hK
        rw [if_pos (wanted_none (by rfl))]
        (obtain ⟨bz, z1, z2⟩ := ZZ.out [.iface 9 (.string ⟨wInvoice.toArray⟩), .iface 22 (.int .u32 no)].toArray [.iface 9 (.string ⟨wTenant.toArray⟩), .iface 22 (.int .u32 te)].toArray; go_simp; go_at_call 10; refine (T1.out _ _ bz z1).mono ?_; rintro e w5 ⟨rfl, hb5⟩; have B5 := Lib.hid (onward hb5 bz); have hb5' := hb5; clear hb5; have Z5 := Lib.hid (stays_block hb5' z2); clear hb5' bz z1 z2)
        refine hK.out _ _ ?_ (fun hHeld => ?_)
        · (try dsimp only)
          exact HS.out _ B5.out
        clear hK K
        (try simp only [Act.put, List.setIfInBounds_toArray, List.set_cons_zero, List.set_cons_succ])
        refine wpAnyH_ready (rs := [11]) (by decide +kernel) (by simp) ?_
        refine AllReadyH.cons (o := _) rfl ?_ AllReadyH.nil
        intro K hK
        rw [if_pos (wanted_none (by rfl))]
        (go_simp; go_at_call 10; refine (T2.out _ _ B5.out Z5.out).mono ?_; rintro e w11 ⟨rfl, hb11⟩; have B11 := Lib.hid (onward hb11 B5.out); clear hb11)
        refine hK.out _ _ ?_ (fun hHeld => ?_)
        · (try dsimp only)
          exact HS.out _ B11.out
        clear hK K
        (try simp only [Act.put, List.setIfInBounds_toArray, List.set_cons_zero, List.set_cons_succ])
        refine Plan.start (plan := [12]) (fuel := 7) (by decide +kernel) (by assumption) ?_
        refine Plan.free (i := 12) (ds := some 30) (v := ?_) rfl rfl rfl ?_ (fun _ _ _ h => h) ?_
        rotate_left
        · (intro w hSw; (try dsimp only at hSw); go_simp; first | done | with_reducible rfl)
        (try simp only [Act.put, List.setIfInBounds_toArray, List.set_cons_zero, List.set_cons_succ])
        refine Plan.stop (fun hHeld => ?_)
        refine wpAnyH_ready (rs := [15]) (by decide +kernel) (by simp) ?_
        refine AllReadyH.cons (o := _) rfl ?_ AllReadyH.nil
        intro K hK
        rw [if_pos (wanted_none (by rfl))]
        (go_simp; go_at_call 11; refine (TX.out _ B11.out).mono ?_; rintro e w15 ⟨rfl, hb15⟩; have B15 := Lib.hid (onward hb15 B11.out); clear hb15)
        refine hK.out _ _ ?_ (fun hHeld => ?_)
        · (try dsimp only)
          exact HS.out _ B15.out
        clear hK K
        (try simp only [Act.put, List.setIfInBounds_toArray, List.set_cons_zero, List.set_cons_succ])
        refine Plan.start (plan := [16, 17]) (fuel := 4) (by decide +kernel) (by assumption) ?_
        refine Plan.free (i := 16) (ds := some 34) (v := ?_) rfl rfl rfl ?_ (fun _ _ _ h => h) ?_
        rotate_left
        · (intro w hSw; (try dsimp only at hSw); go_simp; first | done | with_reducible rfl)
        (try simp only [Act.put, List.setIfInBounds_toArray, List.set_cons_zero, List.set_cons_succ])
        refine Plan.free (i := 17) (ds := some 35) (v := ?_) rfl rfl rfl ?_ (fun _ _ _ h => h) ?_
        rotate_left
        · (intro w hSw; (try dsimp only at hSw); go_simp; first | done | with_reducible rfl)
        (try simp only [Act.put, List.setIfInBounds_toArray, List.set_cons_zero, List.set_cons_succ])
        refine Plan.stop (fun hHeld => ?_)
        refine wpAnyH_ready (rs := [18]) (by decide +kernel) (by simp) ?_
        refine AllReadyH.cons (o := _) rfl ?_ AllReadyH.nil
        intro K hK
        rw [if_pos (wanted_none (by rfl))]
        (go_simp)
        refine hK.out _ _ ?_ (fun hHeld => ?_)
        · (try dsimp only)
          exact HS.out _ (onward (below_alloc _ _) B15.out)
        clear hK K
        (try simp only [Act.put, List.setIfInBounds_toArray, List.set_cons_zero, List.set_cons_succ])
        refine wpAnyH_ready (rs := [19]) (by decide +kernel) (by simp) ?_
        refine AllReadyH.cons (o := _) rfl ?_ AllReadyH.nil
        intro K hK
        rw [if_pos (wanted_none (by rfl))]
        (go_simp; go_at_call 10; refine (T3.out _ _ (onward (below_alloc _ _) B15.out) (iface_cells _ [.iface 9 (.string ⟨wMonth.toArray⟩), .iface 9 (.string ⟨(monL mo).toArray⟩)])).mono ?_; rintro e w19 ⟨rfl, hb19⟩; have B19 := Lib.hid (onward hb19 (onward (below_alloc _ _) B15.out)); clear hb19)
        refine hK.out _ _ ?_ (fun hHeld => ?_)
        · (try dsimp only)
          exact HS.out _ B19.out
        clear hK K
        (try simp only [Act.put, List.setIfInBounds_toArray, List.set_cons_zero, List.set_cons_succ])
        refine Plan.start (plan := [20, 21]) (fuel := 0) (by decide +kernel) (by assumption) ?_
        refine Plan.free (i := 20) (ds := some 38) (v := ?_) rfl rfl rfl ?_ (fun _ _ _ h => h) ?_
        rotate_left
        · (intro w hSw; (try dsimp only at hSw); go_simp; first | done | with_reducible rfl)
        (try simp only [Act.put, List.setIfInBounds_toArray, List.set_cons_zero, List.set_cons_succ])
        refine Plan.free (i := 21) (ds := some 6) (v := ?_) rfl rfl rfl ?_ (fun _ _ _ h => h) ?_
        rotate_left
        · (intro w hSw; (try dsimp only at hSw); go_simp; first | done | with_reducible rfl)
        (try simp only [Act.put, List.setIfInBounds_toArray, List.set_cons_zero, List.set_cons_succ])
        refine Plan.stop (fun hHeld => ?_)
        refine wpAnyH_done (by decide +kernel) ?_ _
        go_wp2_with fail
        go_meet
        case rel => exact ⟨rfl, B19⟩
      exact AllReadyH.nil
    refine AllReadyH.cons (o := _) rfl ?_ ?_
    · intro K hK
      rw [if_pos (wanted_none (by rfl))]
      (go_simp)
      refine hK.out _ _ ?_ (fun hHeld => ?_)
      · (try dsimp only)
        exact HS.out _ (onward (below_alloc _ _) (Below.refl _ _).drew)
      clear hK K
      (try simp only [Act.put, List.setIfInBounds_toArray, List.set_cons_zero, List.set_cons_succ])
      refine wpAnyH_ready (rs := [4]) (by decide +kernel) (by simp) ?_
      refine AllReadyH.cons (o := _) rfl ?_ AllReadyH.nil
      intro K hK
      rw [if_pos (wanted_none (by rfl))]
      (go_simp)
      refine hK.out _ _ ?_ (fun hHeld => ?_)
      · (try dsimp only)
        exact HS.out _ (ZZ.out _ _).1
      clear hK K
      (try simp only [Act.put, List.setIfInBounds_toArray, List.set_cons_zero, List.set_cons_succ])
      refine wpAnyH_ready (rs := [5]) (by decide +kernel) (by simp) ?_
      refine AllReadyH.cons (o := _) rfl ?_ AllReadyH.nil
      intro K hK
      rw [if_pos (wanted_none (by rfl))]
      (obtain ⟨bz, z1, z2⟩ := ZZ.out [.iface 9 (.string ⟨wTenant.toArray⟩), .iface 22 (.int .u32 te)].toArray [.iface 9 (.string ⟨wInvoice.toArray⟩), .iface 22 (.int .u32 no)].toArray; go_simp; go_at_call 10; refine (T1.out _ _ bz z2).mono ?_; rintro e w5 ⟨rfl, hb5⟩; have B5 := Lib.hid (onward hb5 bz); have hb5' := hb5; clear hb5; have Z5 := Lib.hid (stays_block hb5' z1); clear hb5' bz z1 z2)
      refine hK.out _ _ ?_ (fun hHeld => ?_)
      · (try dsimp only)
        exact HS.out _ B5.out
      clear hK K
      (try simp only [Act.put, List.setIfInBounds_toArray, List.set_cons_zero, List.set_cons_succ])
      refine wpAnyH_ready (rs := [11]) (by decide +kernel) (by simp) ?_
      refine AllReadyH.cons (o := _) rfl ?_ AllReadyH.nil
      intro K hK
      rw [if_pos (wanted_none (by rfl))]
      (go_simp; go_at_call 10; refine (T2.out _ _ B5.out Z5.out).mono ?_; rintro e w11 ⟨rfl, hb11⟩; have B11 := Lib.hid (onward hb11 B5.out); clear hb11)
      refine hK.out _ _ ?_ (fun hHeld => ?_)
      · (try dsimp only)
        exact HS.out _ B11.out
      clear hK K
      (try simp only [Act.put, List.setIfInBounds_toArray, List.set_cons_zero, List.set_cons_succ])
      refine Plan.start (plan := [12]) (fuel := 7) (by decide +kernel) (by assumption) ?_
      refine Plan.free (i := 12) (ds := some 30) (v := ?_) rfl rfl rfl ?_ (fun _ _ _ h => h) ?_
      rotate_left
      · (intro w hSw; (try dsimp only at hSw); go_simp; first | done | with_reducible rfl)
      (try simp only [Act.put, List.setIfInBounds_toArray, List.set_cons_zero, List.set_cons_succ])
      refine Plan.stop (fun hHeld => ?_)
      refine wpAnyH_ready (rs := [15]) (by decide +kernel) (by simp) ?_
      refine AllReadyH.cons (o := _) rfl ?_ AllReadyH.nil
      intro K hK
      rw [if_pos (wanted_none (by rfl))]
      (go_simp; go_at_call 11; refine (TX.out _ B11.out).mono ?_; rintro e w15 ⟨rfl, hb15⟩; have B15 := Lib.hid (onward hb15 B11.out); clear hb15)
      refine hK.out _ _ ?_ (fun hHeld => ?_)
      · (try dsimp only)
        exact HS.out _ B15.out
      clear hK K
      (try simp only [Act.put, List.setIfInBounds_toArray, List.set_cons_zero, List.set_cons_succ])
      refine Plan.start (plan := [16, 17]) (fuel := 4) (by decide +kernel) (by assumption) ?_
      refine Plan.free (i := 16) (ds := some 34) (v := ?_) rfl rfl rfl ?_ (fun _ _ _ h => h) ?_
      rotate_left
      · (intro w hSw; (try dsimp only at hSw); go_simp; first | done | with_reducible rfl)
      (try simp only [Act.put, List.setIfInBounds_toArray, List.set_cons_zero, List.set_cons_succ])
      refine Plan.free (i := 17) (ds := some 35) (v := ?_) rfl rfl rfl ?_ (fun _ _ _ h => h) ?_
      rotate_left
      · (intro w hSw; (try dsimp only at hSw); go_simp; first | done | with_reducible rfl)
      (try simp only [Act.put, List.setIfInBounds_toArray, List.set_cons_zero, List.set_cons_succ])
      refine Plan.stop (fun hHeld => ?_)
      refine wpAnyH_ready (rs := [18]) (by decide +kernel) (by simp) ?_
      refine AllReadyH.cons (o := _) rfl ?_ AllReadyH.nil
      intro K hK
      rw [if_pos (wanted_none (by rfl))]
      (go_simp)
      refine hK.out _ _ ?_ (fun hHeld => ?_)
      · (try dsimp only)
        exact HS.out _ (onward (below_alloc _ _) B15.out)
      clear hK K
      (try simp only [Act.put, List.setIfInBounds_toArray, List.set_cons_zero, List.set_cons_succ])
      refine wpAnyH_ready (rs := [19]) (by decide +kernel) (by simp) ?_
      refine AllReadyH.cons (o := _) rfl ?_ AllReadyH.nil
      intro K hK
      rw [if_pos (wanted_none (by rfl))]
      (go_simp; go_at_call 10; refine (T3.out _ _ (onward (below_alloc _ _) B15.out) (iface_cells _ [.iface 9 (.string ⟨wMonth.toArray⟩), .iface 9 (.string ⟨(monL mo).toArray⟩)])).mono ?_; rintro e w19 ⟨rfl, hb19⟩; have B19 := Lib.hid (onward hb19 (onward (below_alloc _ _) B15.out)); clear hb19)
      refine hK.out _ _ ?_ (fun hHeld => ?_)
      · (try dsimp only)
        exact HS.out _ B19.out
      clear hK K
      (try simp only [Act.put, List.setIfInBounds_toArray, List.set_cons_zero, List.set_cons_succ])
      refine Plan.start (plan := [20, 21]) (fuel := 0) (by decide +kernel) (by assumption) ?_
      refine Plan.free (i := 20) (ds := some 38) (v := ?_) rfl rfl rfl ?_ (fun _ _ _ h => h) ?_
      rotate_left
      · (intro w hSw; (try dsimp only at hSw); go_simp; first | done | with_reducible rfl)
      (try simp only [Act.put, List.setIfInBounds_toArray, List.set_cons_zero, List.set_cons_succ])
      refine Plan.free (i := 21) (ds := some 6) (v := ?_) rfl rfl rfl ?_ (fun _ _ _ h => h) ?_
      rotate_left
      · (intro w hSw; (try dsimp only at hSw); go_simp; first | done | with_reducible rfl)
      (try simp only [Act.put, List.setIfInBounds_toArray, List.set_cons_zero, List.set_cons_succ])
      refine Plan.stop (fun hHeld => ?_)
      refine wpAnyH_done (by decide +kernel) ?_ _
      go_wp2_with fail
      go_meet
      case rel => exact ⟨rfl, B19⟩
    exact AllReadyH.nil
  case rest =>
    obtain ⟨rfl, BC⟩ := hcut
    have G5 := Lib.hid (stays_block BC.out G4.out)
    have B5 := Lib.hid (onward BC.out B4.out)
    clear HS D4 G4 BC HZ B4
    obtain ⟨-, -, -, -, x3, -, -⟩ := cells6 G5.out
    go_wp2_with fail
    go_loopw [6, 42] (fun s i wr => ∃ (k : Nat) (o : List UInt8), k ≤ ls.length ∧ i = .int .i64 k ∧ s = .string ⟨o.toArray⟩ ∧ Hid (o = z3 ++ (ls.take k).flatMap (fun l => nl (lineW l))) ∧ o.length ≤ 150 + 100 * k ∧ Hid (Below wc.heap.size wc wr)) (fun _ i _ => ls.length - (intOf i).toNat)
    case atStart => exact ⟨0, z3, by omega, rfl, rfl, (by show _ = _; simp), by omega, Below.refl _ _⟩
    case round =>
      clear x3
      obtain ⟨k, o, hk, rfl, rfl, HO, ho, BR⟩ := hrel
      by_cases hlt : k < ls.length
      · obtain ⟨q, of, rfl, e0, e1, e2, e3, e4⟩ := ln_cells (HL.out.below (onward BR.out B5.out)) k hlt
        have hz : (k : Int) < ls.length := by omega
        have hln : lnB ls[k] = true := List.all_eq_true.1 HA.out _ (List.getElem_mem hlt)
        have hlen := line_len ls[k] (OK.out _ (List.getElem_mem hlt))
        obtain ⟨-, okp, okd, oku, oka⟩ := OK.out ls[k] (List.getElem_mem hlt)
        have HT : Hid (ls.take (k + 1) = ls.take k ++ [ls[k]]) := List.take_succ_eq_append_getElem hlt
        generalize ls[k] = l at *
        obtain ⟨kk, p, d, u, am⟩ := l
        dsimp only at e0 e1 e2 e3 e4 okp okd oku oka
        have hk3 : kk = 1 ∨ kk = 2 ∨ kk = 3 := by unfold lnB at hln; simp at hln; omega
        have BW := Lib.hid (onward BR.out B5.out)
        clear hln
        rcases hk3 with rfl | rfl | rfl
        · obtain ⟨tt, htt⟩ : ∃ tt, tt = nl (lineW ⟨1, p, d, u, am⟩) := ⟨_, rfl⟩
          rw [← htt] at hlen
          obtain ⟨o2, ho2⟩ : ∃ o2, o2 = o ++ tt := ⟨_, rfl⟩
          have A := baApp o tt
          rw [← ho2] at A
          have L : ¬ 9223372036854775807 < o.length + tt.length := by omega
          have HO2 : Hid (o2 = z3 ++ (ls.take (k + 1)).flatMap (fun l => nl (lineW l))) := by
            show _ = _
            rw [HT.out, List.flatMap_append, List.flatMap_cons, List.flatMap_nil, List.append_nil, ho2, HO.out, htt, List.append_assoc]
          have lo2 : o2.length ≤ 150 + 100 * (k + 1) := by rw [ho2, List.length_append]; omega
          have TT : Hid (∀ (W : World) (g : Nat), Below wr.heap.size wr W → W.heap[g]? = some (.cells #[.iface 9 (.string ⟨wBaseP.toArray⟩), .iface 22 (.int .u32 p), .iface 9 (.string ⟨wDays.toArray⟩), .iface 2 (.int .i64 d), .iface 9 (.string ⟨wAmount.toArray⟩), .iface 2 (.int .i64 am)] 20 (0, 0)) → Calls Tryz.prog 10 #[.slice (some ⟨g, 0, none⟩) 6 6] W fun e w' => e = .returned (.string ⟨tt.toArray⟩) ∧ Below W.heap.size W w') := fun W g hb hg => by
            have h := told6 (Tok.s wBaseP) (Tok.u p) (Tok.s wDays) (Tok.i d) (Tok.s wAmount) (Tok.i am) g W (HE.out.below (onward hb BW.out)).pow (by show _ ≤ _; decide) okp (by show _ ≤ _; decide) okd (by show _ ≤ _; decide) oka hg
            rw [htt]
            exact h
          have TH := Lib.hid htt
          have TO := Lib.hid ho2
          obtain ⟨bz, -, z2, -⟩ := two_blocks wr #[.int .u8 1, .int .u32 p, .int .i64 d, .int .i64 u, .int .i64 am] [.iface 9 (.string ⟨wBaseP.toArray⟩), .iface 22 (.int .u32 p), .iface 9 (.string ⟨wDays.toArray⟩), .iface 2 (.int .i64 d), .iface 9 (.string ⟨wAmount.toArray⟩), .iface 2 (.int .i64 am)].toArray 39 20
          have BZ := Lib.hid bz
          have Z2 := Lib.hid z2
          clear htt ho2 HO HT bz z2
          go_wp2_with fail
          refine (TT.out _ _ BZ.out Z2.out).mono ?_
          rintro e w6 ⟨rfl, hb⟩
          have B6 := Lib.hid (onward (onward hb BZ.out) BR.out)
          clear hb TT BZ Z2 e0 e1 e2 e3 e4
          go_wp2_with fail
          go_roundw
          case rel => exact ⟨k + 1, o2, by omega, by go_num, rfl, HO2, lo2, B6⟩
          case measure => simp [intOf]; omega
        · obtain ⟨tt, htt⟩ : ∃ tt, tt = nl (lineW ⟨2, p, d, u, am⟩) := ⟨_, rfl⟩
          rw [← htt] at hlen
          obtain ⟨o2, ho2⟩ : ∃ o2, o2 = o ++ tt := ⟨_, rfl⟩
          have A := baApp o tt
          rw [← ho2] at A
          have L : ¬ 9223372036854775807 < o.length + tt.length := by omega
          have HO2 : Hid (o2 = z3 ++ (ls.take (k + 1)).flatMap (fun l => nl (lineW l))) := by
            show _ = _
            rw [HT.out, List.flatMap_append, List.flatMap_cons, List.flatMap_nil, List.append_nil, ho2, HO.out, htt, List.append_assoc]
          have lo2 : o2.length ≤ 150 + 100 * (k + 1) := by rw [ho2, List.length_append]; omega
          have TT : Hid (∀ (W : World) (g : Nat), Below wr.heap.size wr W → W.heap[g]? = some (.cells #[.iface 9 (.string ⟨wPackU.toArray⟩), .iface 2 (.int .i64 u)] 20 (0, 0)) → Calls Tryz.prog 10 #[.slice (some ⟨g, 0, none⟩) 2 2] W fun e w' => e = .returned (.string ⟨tt.toArray⟩) ∧ Below W.heap.size W w') := fun W g hb hg => by
            have h := told2 (Tok.s wPackU) (Tok.i u) g W (HE.out.below (onward hb BW.out)).pow (by show _ ≤ _; decide) oku hg
            rw [htt]
            exact h
          have TH := Lib.hid htt
          have TO := Lib.hid ho2
          obtain ⟨bz, -, z2, -⟩ := two_blocks wr #[.int .u8 2, .int .u32 p, .int .i64 d, .int .i64 u, .int .i64 am] [.iface 9 (.string ⟨wPackU.toArray⟩), .iface 2 (.int .i64 u)].toArray 39 20
          have BZ := Lib.hid bz
          have Z2 := Lib.hid z2
          clear htt ho2 HO HT bz z2
          go_wp2_with fail
          refine (TT.out _ _ BZ.out Z2.out).mono ?_
          rintro e w6 ⟨rfl, hb⟩
          have B6 := Lib.hid (onward (onward hb BZ.out) BR.out)
          clear hb TT BZ Z2 e0 e1 e2 e3 e4
          go_wp2_with fail
          go_roundw
          case rel => exact ⟨k + 1, o2, by omega, by go_num, rfl, HO2, lo2, B6⟩
          case measure => simp [intOf]; omega
        · obtain ⟨tt, htt⟩ : ∃ tt, tt = nl (lineW ⟨3, p, d, u, am⟩) := ⟨_, rfl⟩
          rw [← htt] at hlen
          obtain ⟨o2, ho2⟩ : ∃ o2, o2 = o ++ tt := ⟨_, rfl⟩
          have A := baApp o tt
          rw [← ho2] at A
          have L : ¬ 9223372036854775807 < o.length + tt.length := by omega
          have HO2 : Hid (o2 = z3 ++ (ls.take (k + 1)).flatMap (fun l => nl (lineW l))) := by
            show _ = _
            rw [HT.out, List.flatMap_append, List.flatMap_cons, List.flatMap_nil, List.append_nil, ho2, HO.out, htt, List.append_assoc]
          have lo2 : o2.length ≤ 150 + 100 * (k + 1) := by rw [ho2, List.length_append]; omega
          have TT : Hid (∀ (W : World) (g : Nat), Below wr.heap.size wr W → W.heap[g]? = some (.cells #[.iface 9 (.string ⟨wOverP.toArray⟩), .iface 22 (.int .u32 p), .iface 9 (.string ⟨wUnits.toArray⟩), .iface 2 (.int .i64 u), .iface 9 (.string ⟨wAmount.toArray⟩), .iface 2 (.int .i64 am)] 20 (0, 0)) → Calls Tryz.prog 10 #[.slice (some ⟨g, 0, none⟩) 6 6] W fun e w' => e = .returned (.string ⟨tt.toArray⟩) ∧ Below W.heap.size W w') := fun W g hb hg => by
            have h := told6 (Tok.s wOverP) (Tok.u p) (Tok.s wUnits) (Tok.i u) (Tok.s wAmount) (Tok.i am) g W (HE.out.below (onward hb BW.out)).pow (by show _ ≤ _; decide) okp (by show _ ≤ _; decide) oku (by show _ ≤ _; decide) oka hg
            rw [htt]
            exact h
          have TH := Lib.hid htt
          have TO := Lib.hid ho2
          obtain ⟨bz, -, z2, -⟩ := two_blocks wr #[.int .u8 3, .int .u32 p, .int .i64 d, .int .i64 u, .int .i64 am] [.iface 9 (.string ⟨wOverP.toArray⟩), .iface 22 (.int .u32 p), .iface 9 (.string ⟨wUnits.toArray⟩), .iface 2 (.int .i64 u), .iface 9 (.string ⟨wAmount.toArray⟩), .iface 2 (.int .i64 am)].toArray 39 20
          have BZ := Lib.hid bz
          have Z2 := Lib.hid z2
          clear htt ho2 HO HT bz z2
          go_wp2_with fail
          refine (TT.out _ _ BZ.out Z2.out).mono ?_
          rintro e w6 ⟨rfl, hb⟩
          have B6 := Lib.hid (onward (onward hb BZ.out) BR.out)
          clear hb TT BZ Z2 e0 e1 e2 e3 e4
          go_wp2_with fail
          go_roundw
          case rel => exact ⟨k + 1, o2, by omega, by go_num, rfl, HO2, lo2, B6⟩
          case measure => simp [intOf]; omega
      · obtain rfl : k = ls.length := by omega
        have hO := HO.out
        rw [List.take_length] at hO
        have ho' : o.length ≤ 3000 := by omega
        have BW := Lib.hid (onward BR.out B5.out)
        have htl : (nl [wTotal, Lib.itoa tot]).length ≤ 50 := two_len _ _ (by decide) ok4
        have hcl : (nl [wCredited, Lib.itoa cr]).length ≤ 50 := two_len _ _ (by decide) ok5
        obtain ⟨tt, htt⟩ : ∃ tt, tt = nl [wTotal, Lib.itoa tot] := ⟨_, rfl⟩
        rw [← htt] at htl
        obtain ⟨o2, ho2⟩ : ∃ o2, o2 = o ++ tt := ⟨_, rfl⟩
        have A := baApp o tt
        rw [← ho2] at A
        have L : ¬ 9223372036854775807 < o.length + tt.length := by omega
        have lo2 : o2.length ≤ 3050 := by rw [ho2, List.length_append]; omega
        have TT : Hid (∀ (W : World) (g : Nat), Below wr.heap.size wr W → W.heap[g]? = some (.cells #[.iface 9 (.string ⟨wTotal.toArray⟩), .iface 2 (.int .i64 tot)] 20 (0, 0)) → Calls Tryz.prog 10 #[.slice (some ⟨g, 0, none⟩) 2 2] W fun e w' => e = .returned (.string ⟨tt.toArray⟩) ∧ Below W.heap.size W w') := fun W g hb hg => by
          have h := told2 (Tok.s wTotal) (Tok.i tot) g W (HE.out.below (onward hb BW.out)).pow (by show _ ≤ _; decide) ok4 hg
          rw [htt]
          exact h
        have HB2 : Hid (bodyL ⟨no, te, mo, ls, tot, cr⟩ = o2 ++ footT ⟨no, te, mo, ls, tot, cr⟩) := by
          show _ = _
          rw [HB.out, ho2, hO, htt]
        have TH := Lib.hid htt
        have TO := Lib.hid ho2
        have GR := Lib.hid (stays_block BR.out G5.out)
        clear htt ho2 hO HO HB hlt
        obtain ⟨-, -, -, -, -, x4, -⟩ := cells6 GR.out
        go_wp2_with fail
        refine (TT.out _ _ (below_alloc wr _) (iface_cells wr [.iface 9 (.string ⟨wTotal.toArray⟩), .iface 2 (.int .i64 tot)])).mono ?_
        rintro e w6 ⟨rfl, hb⟩
        have hb6 := onward hb (below_alloc _ _)
        have B6 := Lib.hid (onward hb6 BW.out)
        have G6 := Lib.hid (stays_block hb6 GR.out)
        clear hb hb6 TT x4 GR
        obtain ⟨-, -, -, -, -, -, x5⟩ := cells6 G6.out
        by_cases hc : 0 < cr
        · have HF : Hid (bodyL ⟨no, te, mo, ls, tot, cr⟩ = o2 ++ nl [wCredited, Lib.itoa cr]) := by
            show _ = _
            rw [HB2.out]
            unfold footT
            rw [if_pos hc]
          obtain ⟨tc, htc⟩ : ∃ tc, tc = nl [wCredited, Lib.itoa cr] := ⟨_, rfl⟩
          rw [← htc] at HF hcl
          obtain ⟨o3, ho3⟩ : ∃ o3, o3 = o2 ++ tc := ⟨_, rfl⟩
          have A' := baApp o2 tc
          rw [← ho3] at A' HF
          have L' : ¬ 9223372036854775807 < o2.length + tc.length := by omega
          have TC : Hid (∀ (W : World) (g : Nat), Below w6.heap.size w6 W → W.heap[g]? = some (.cells #[.iface 9 (.string ⟨wCredited.toArray⟩), .iface 2 (.int .i64 cr)] 20 (0, 0)) → Calls Tryz.prog 10 #[.slice (some ⟨g, 0, none⟩) 2 2] W fun e w' => e = .returned (.string ⟨tc.toArray⟩) ∧ Below W.heap.size W w') := fun W g hb hg => by
            have h := told2 (Tok.s wCredited) (Tok.i cr) g W (HE.out.below (onward hb B6.out)).pow (by show _ ≤ _; decide) ok5 hg
            rw [htc]
            exact h
          have TH2 := Lib.hid htc
          have TO2 := Lib.hid ho3
          clear htc ho3 HB2
          go_wp2_with fail
          refine (TC.out _ _ (below_alloc w6 _) (iface_cells w6 [.iface 9 (.string ⟨wCredited.toArray⟩), .iface 2 (.int .i64 cr)])).mono ?_
          rintro e w7 ⟨rfl, hb⟩
          have B7 := Lib.hid (onward (onward hb (below_alloc _ _)) B6.out)
          clear hb TC x5
          go_wp2_with fail
          exact bodyPost_ret (v := .tuple #[.string ⟨o3.toArray⟩, .int .i64 0]) (by simp [results, Tryz.results4, go_sem]) rfl ⟨by rw [HF.out], B7.out⟩
        · have HF : Hid (bodyL ⟨no, te, mo, ls, tot, cr⟩ = o2) := by
            show _ = _
            rw [HB2.out]
            unfold footT
            rw [if_neg hc, List.append_nil]
          clear HB2
          go_wp2_with fail
          exact bodyPost_ret (v := .tuple #[.string ⟨o2.toArray⟩, .int .i64 0]) (by simp [results, Tryz.results4, go_sem]) rfl ⟨by rw [HF.out], B6.out⟩
set_option maxHeartbeats 8000000 in
set_option maxRecDepth 10000000 in
theorem rtext_any (v : Ren.Inv) (lv : Value) (w : World) (hE : Env w) (hl : RowsIn w lv 5 (v.ls.map Ren.Ln.cells)) (hok : v.ok) :
    Calls Tryz.prog 4 #[v.val lv] w fun e w' => e = .returned (.tuple #[.string ⟨(textL v).toArray⟩, .int .i64 (if mayB v = true then 0 else 1)]) ∧ Below w.heap.size w w' := by
  obtain ⟨no, te, mo, ls, tot, cr⟩ := v
  cases hm : mayB ⟨no, te, mo, ls, tot, cr⟩
  · have ht : textL ⟨no, te, mo, ls, tot, cr⟩ = [] := by unfold textL; rw [hm]; rfl
    rw [ht, if_neg (by decide)]
    simp only [Ren.Inv.val]
    obtain ⟨a, c, rfl, h1, h2⟩ := rows_form hl
    simp only [List.length_map] at hl h1 ⊢
    have HL := Lib.hid hl
    have HE := Lib.hid hE
    clear hl hE
    go_enter Tryz.func4, Tryz.ntmps4
    have b0 := below_alloc w (.cells #[.int .u32 no, .int .u32 te, .int .i64 mo, .slice a ls.length c, .int .i64 tot, .int .i64 cr] 25)
    have B0 := Lib.hid b0
    clear b0
    go_wp2_with fail
    refine (may_any ⟨no, te, mo, ls, tot, cr⟩ _ _ (HE.out.below B0.out).lens (HL.out.below B0.out)).mono ?_
    rintro e w2 ⟨rfl, hb⟩
    rw [hm]
    have B2 := Lib.hid (onward hb B0.out)
    clear hb B0
    go_wp2_with fail
    exact bodyPost_ret (v := .tuple #[.string ⟨#[]⟩, .int .i64 1]) (by simp [results, Tryz.results4, go_sem]) rfl ⟨rfl, B2.out⟩
  · have ht : textL ⟨no, te, mo, ls, tot, cr⟩ = bodyL ⟨no, te, mo, ls, tot, cr⟩ := by unfold textL; rw [hm]; rfl
    rw [ht, if_pos rfl]
    exact text_at no te mo ls tot cr lv w hE hl hok hm
end Go.Proofs.YtmppkhjjlgngkaaGreatDoor
