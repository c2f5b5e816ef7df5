/- The walk of journal.may. -/
import Derived.Test.YtecbnhmnhcpcmaaGreatDoorPkJournalEven22
/-! The walk of journal.may. -/
namespace Go.Proofs.YtecbnhmnhcpcmaaGreatDoor
open Go.RowKit Go.WideMaps Go.Maps
set_option linter.unusedVariables false
set_option linter.unusedSimpArgs false
set_option maxRecDepth 100000
def keyP (p : Pt) : Lit := .string p.a.data.toList
abbrev yesD : DM := .lit (.bool true)
/-- are all accounts different? -/
def apartB (L : List Pt) : Bool := decide (((L.map keyP).foldl addKey []).length = L.length)
/-- may parts be posted, but for their sums? -/
noncomputable def mayJ (L : List Pt) : Bool := L.all (fun p => accB p.a) && (decide (2 ≤ L.length) && apartB L)
theorem key_ba (s : ByteArray) (hs : s.size ≤ 1000000) : keyOf Tryz.prog 9 (.string s) = some (.string s.data.toList) :=
  keyOf_string_mk (P := Tryz.prog) (k := 9) Tryz.underlying9 (by unfold maxLen; omega)
theorem bool_elem (b : Bool) : plainElem (H := Unit) Tryz.prog 4 (.bool b) = some (.lit (.bool b), []) := plainElem_bool Tryz.underlying4 b
set_option maxHeartbeats 4000000 in
theorem may_any (lv : Value) (L : List Pt) (w : World) (hE : EnvA w) (hl : RowsIn w lv 2 (L.map Pt.cells)) (hn : L.length ≤ 1000) (hs : ∀ p ∈ L, p.a.size ≤ 100000) : Calls Tryz.prog 31 #[lv] w fun e w' => e = .returned (.bool (mayJ L)) ∧ Below w.heap.size w w' := by
  have HE := Lib.hid hE
  have HL := Lib.hid hl
  have HS := Lib.hid hs
  obtain ⟨a, c, rfl⟩ := pt_form hl
  have hmm := @run_makeMap Tryz.prog
  have O0 := Lib.hid (World.ownsMap_made (H := Unit) w Tryz.prog 9 (plainElem Tryz.prog 4))
  have B0 := Lib.hid (below_alloc w (.map #[] 0))
  clear hl hE hs
  go_enter Tryz.func31, Tryz.ntmps31
  go_wp2_with fail
  generalize w.alloc (.map #[] 0) = W0 at *
  go_loopw [12] (fun iv wr => ∃ k : Nat, k ≤ L.length ∧ iv = .int .i64 k ∧ Hid ((L.take k).all (fun p => accB p.a) = true) ∧ Hid (wr.ownsMap Tryz.prog 9 (plainElem Tryz.prog 4) w.heap.size k (setOf yesD ((L.take k).map keyP))) ∧ Hid (Below w.heap.size w wr)) (fun iv _ => L.length - (intOf iv).toNat)
  case atStart => exact ⟨0, by omega, rfl, rfl, O0.out, B0.out⟩
  case round =>
    obtain ⟨k, hk, rfl, HA, OR, BR⟩ := hrel
    by_cases hlt : k < L.length
    · obtain ⟨g, o, rfl, y0, y1⟩ := pt_cells (HL.out.below BR.out) k hlt
      have hz : (k : Int) < L.length := by omega
      have h1 := HS.out L[k] (List.getElem_mem hlt)
      have HT : Hid ((L.take (k + 1)).all (fun p => accB p.a) = accB L[k].a) := by
        show _ = _
        rw [List.take_succ_eq_append_getElem hlt, List.all_append, HA.out]
        simp
      have HK : Hid ((L.take (k + 1)).map keyP = (L.take k).map keyP ++ [keyP L[k]]) := by
        show _ = _
        rw [List.take_succ_eq_append_getElem hlt, List.map_append]
        rfl
      have HF : Hid (accB L[k].a = false → mayJ L = false) := fun h => by
        unfold mayJ
        rw [List.all_eq_false.2 ⟨L[k], List.getElem_mem hlt, by rw [h]; decide⟩]
        rfl
      generalize L[k] = p at *
      obtain ⟨s, n⟩ := p
      dsimp only at y0 y1 h1 HT HF
      have ba := below_alloc wr (.cells #[.string s, .int .i64 n] 41)
      have P1 := Lib.hid (heap_alloc_new wr (.cells #[.string s, .int .i64 n] 41))
      have BV := Lib.hid (onward ba BR.out)
      have OV := Lib.hid (OR.out.alloc (.cells #[.string s, .int .i64 n] 41))
      have PX := Lib.hid (aparseB s _ (HE.out.below (onward ba BR.out)) h1)
      clear ba BR OR
      go_wp2_with fail
      generalize wr.alloc (.cells #[.string s, .int .i64 n] 41) = V at *
      refine PX.out.mono ?_
      rintro e w2 ⟨x, nv, rfl, hb⟩
      have B2 := Lib.hid (onward hb BV.out)
      have O2 := Lib.hid (OV.out.kept (row := none) ⟨hb.os, hb.tape, hb.output, hb.size, fun k hk _ => hb.block k hk⟩ (by simp))
      obtain ⟨q0, q1⟩ := part_cells2 (stays_block hb P1.out)
      clear hb PX OV P1
      cases hB : accB s
      · have HF2 := Lib.hid (HF.out hB)
        clear hB HF HT HK
        go_wp2_with fail
        go_ret
        exact ⟨by rw [HF2.out]; rfl, B2.out⟩
      · have HT2 : Hid ((L.take (k + 1)).all (fun p => accB p.a) = true) := by show _ = _; rw [HT.out, hB]
        clear hB HF HT
        go_wp2_with (at_mapUpdate; refine wpList_mapUpdate_in _ rfl (.tmp 25) (.tmp 27) (.const (.bool true)) 67 rfl 9 4 keyStr Tryz.underlying67 (plainElem Tryz.prog 4) w.heap.size k _ rfl O2.out (by unfold maxLen; omega) (.string s) (.bool true) (.string s.data.toList) rfl rfl (key_ba s (by omega)) yesD [] (bool_elem true) ?_)
        intro w3 ho ht
        have O3 : Hid (w3.ownsMap Tryz.prog 9 (plainElem Tryz.prog 4) w.heap.size (k + 1) (setOf yesD ((L.take (k + 1)).map keyP))) := by
          show World.ownsMap _ _ _ _ _ _ _
          rw [HK.out, setOf_snoc]
          first
          | exact ho
          | (rw [List.map_take]; exact ho)
        have B3 : Hid (Below w.heap.size w w3) := B2.out.grown ht.grown B2.out.size (fun k hk => by injection hk with hk; omega)
        clear ho ht O2 HK
        go_wp2_with fail
        go_roundw
        case rel => exact ⟨k + 1, by omega, by go_num, HT2.out, O3.out, B3.out⟩
        case measure => simp [intOf]; omega
    · obtain rfl : k = L.length := by omega
      have OR2 := OR.out
      have HA2 := HA.out
      rw [List.take_length] at OR2 HA2
      have LN := OR2.len Tryz.underlying67 3
      rw [size_setOf yesD _ (fun x hx => by obtain ⟨p, -, rfl⟩ := List.mem_map.1 hx; trivial)] at LN
      have HV : Hid (mayJ L = (decide (2 ≤ L.length) && decide (((L.map keyP).foldl addKey []).length = L.length))) := by
        show _ = _
        unfold mayJ apartB
        rw [HA2]
        rfl
      generalize ((L.map keyP).foldl addKey []).length = cn at *
      clear OR OR2 HA HA2 hlt
      by_cases h2 : 2 ≤ L.length
      · have d1 : decide ((2 : Int) ≤ (L.length : Int)) = true := decide_eq_true (by omega)
        by_cases he : cn = L.length
        · have d2 : (((cn : Nat) : Int) == ((L.length : Nat) : Int)) = true := by rw [he, beq_self_eq_true]
          have HR : Hid (mayJ L = true) := by (show _ = _); rw [HV.out, decide_eq_true h2, decide_eq_true he]; rfl
          clear HV he
          go_wp2_with fail
          go_ret
          exact ⟨by rw [HR.out]; rfl, BR.out⟩
        · have d2 : (((cn : Nat) : Int) == ((L.length : Nat) : Int)) = false := by rw [beq_eq_false_iff_ne]; omega
          have HR : Hid (mayJ L = false) := by (show _ = _); rw [HV.out, decide_eq_true h2, decide_eq_false he]; rfl
          clear HV
          go_wp2_with fail
          go_ret
          exact ⟨by rw [HR.out]; rfl, BR.out⟩
      · have d1 : decide ((2 : Int) ≤ (L.length : Int)) = false := decide_eq_false (by omega)
        have HR : Hid (mayJ L = false) := by (show _ = _); rw [HV.out, decide_eq_false h2]; rfl
        clear HV
        go_wp2_with fail
        go_ret
        exact ⟨by rw [HR.out]; rfl, BR.out⟩
end Go.Proofs.YtecbnhmnhcpcmaaGreatDoor
