/- The walks of the reference's Posts, May. The walk of the reference's May. -/
import Derived.Test.YtecbnhmnhcpcmaaGreatDoorPkJournalPlays35
/-! The walks of the reference's Posts, May. -/
namespace Go.Proofs.YtecbnhmnhcpcmaaGreatDoor
open Go.RowKit Go.WideMaps Go.Maps
set_option linter.unusedVariables false
set_option linter.unusedSimpArgs false
set_option maxRecDepth 100000
def PostsEnd (L : List Pt) (seq : Nat) (t : Int) (w : World) (e : Ending) (w' : World) : Prop := e = .returned (.bool (postsB seq t L)) ∧ Below w.heap.size w w'
set_option maxHeartbeats 2000000 in
theorem rposts_any (seq : Nat) (t : Int) (ten : Nat) (lv : Value) (L : List Pt) (w : World) (hl : RowsIn w lv 2 (L.map Pt.cells)) (hs : seq < 18446744073709551616) : Calls Tryz.prog 46 #[postV seq t ten lv] w (PostsEnd L seq t w) := by
  have HL := Lib.hid hl
  have hlen := pt_len hl
  obtain ⟨a, c, rfl⟩ := pt_form hl
  clear hl
  obtain ⟨w1, hw1⟩ : ∃ W, W = w.alloc (.cells #[.int .u64 seq, .int .i64 t, .int .u32 ten, .slice a L.length c] 49) := ⟨_, rfl⟩
  have hb1 : Below w.heap.size w w1 := by rw [hw1]; exact below_alloc _ _
  have O1 : w1.heap[w.heap.size]? = some (.cells #[.int .u64 seq, .int .i64 t, .int .u32 ten, .slice a L.length c] 49 (0, 0)) := by rw [hw1]; exact alloc_block _ _ _ _
  have B1 := Lib.hid hb1
  have c0 : w1.cell? ⟨w.heap.size, 0, none⟩ = some (.int .u64 seq) := by rw [cell_of_row O1]; rfl
  have c1 : w1.cell? ⟨w.heap.size, 1, none⟩ = some (.int .i64 t) := by rw [cell_of_row O1]; rfl
  have c3 : w1.cell? ⟨w.heap.size, 3, none⟩ = some (.slice a L.length c) := by rw [cell_of_row O1]; rfl
  clear O1 hb1
  unfold postV
  by_cases h1 : 0 < seq ∧ 0 ≤ t ∧ t ≤ 137438953472 ∧ 0 < L.length ∧ L.length ≤ 16
  · obtain ⟨q1, q2, q3, q4, q5⟩ := h1
    have HP : Hid (postsB seq t L = !L.any badP) := by
      show _ = _
      unfold postsB
      rw [decide_eq_true ⟨q1, q2, q3, q4, q5⟩, Bool.true_and]
    have d0 : (((seq : Nat) : Int) == 0) = false := by rw [beq_eq_false_iff_ne]; omega
    have d1 : decide (t < 0) = false := decide_eq_false (by omega)
    have d2 : decide ((137438953472 : Int) < t) = false := decide_eq_false (by omega)
    have d3 : decide (((L.length : Nat) : Int) < 1) = false := decide_eq_false (by omega)
    have d4 : decide ((16 : Int) < ((L.length : Nat) : Int)) = false := decide_eq_false (by omega)
    clear q1 q2 q3 q4
    go_enter Tryz.func46, Tryz.ntmps46
    go_upto_region 1 with fail
    rw [← hw1]
    clear hw1
    go_wp2_with fail
    go_loopw [3] (fun iv wr => ∃ k : Nat, k ≤ L.length ∧ iv = .int .i64 k ∧ Hid ((L.take k).any badP = false) ∧ wr = w1) (fun iv _ => L.length - (intOf iv).toNat)
    case atStart => exact ⟨0, by omega, rfl, rfl, rfl⟩
    case round =>
      obtain ⟨k, hk, rfl, HA, hwr⟩ := hrel
      have hwr' := hwr.symm
      subst hwr'
      clear hwr
      by_cases hlt : k < L.length
      · obtain ⟨g, o, rfl, y0, y1⟩ := pt_cells (HL.out.below B1.out) k hlt
        have hz : (k : Int) < L.length := by omega
        have HS : Hid ((L.take (k + 1)).any badP = (badP L[k])) := by
          show _ = _
          rw [List.take_succ_eq_append_getElem hlt, List.any_append, HA.out]
          simp
        have HT : Hid (badP L[k] = true → L.any badP = true) := fun h => List.any_eq_true.2 ⟨_, List.getElem_mem hlt, h⟩
        generalize L[k] = p at *
        obtain ⟨s, n⟩ := p
        dsimp only at y0 y1
        have HB : Hid (badP ⟨s, n⟩ = decide (s.size = 0 ∨ 32 < s.size ∨ n = 0 ∨ n < -4611686018427387904 ∨ 4611686018427387904 < n)) := rfl
        have hx : s.size = 0 ∨ (0 < s.size ∧ 32 < s.size) ∨ (0 < s.size ∧ s.size ≤ 32 ∧ n = 0) ∨ (0 < s.size ∧ s.size ≤ 32 ∧ n ≠ 0 ∧ n < -4611686018427387904) ∨ (0 < s.size ∧ s.size ≤ 32 ∧ n ≠ 0 ∧ -4611686018427387904 ≤ n ∧ 4611686018427387904 < n) ∨ (0 < s.size ∧ s.size ≤ 32 ∧ n ≠ 0 ∧ -4611686018427387904 ≤ n ∧ n ≤ 4611686018427387904) := by omega
        rcases hx with hx | hx | hx | hx | hx | hx
        · have hbad : badP ⟨s, n⟩ = true := decide_eq_true (by dsimp only; omega)
          have d1' : decide (((s.size : Nat) : Int) < 1) = true := decide_eq_true (by omega)
          have HR : Hid (postsB seq t L = false) := by show _ = _; rw [HP.out, HT.out hbad]; rfl
          clear hbad HT HS HB hx
          go_wp2_with fail
          go_ret
          exact ⟨by rw [HR.out]; rfl, B1.out⟩
        · have hbad : badP ⟨s, n⟩ = true := decide_eq_true (by dsimp only; omega)
          have d1' : decide (((s.size : Nat) : Int) < 1) = false := decide_eq_false (by omega)
          have d2' : decide ((32 : Int) < ((s.size : Nat) : Int)) = true := decide_eq_true (by omega)
          have HR : Hid (postsB seq t L = false) := by show _ = _; rw [HP.out, HT.out hbad]; rfl
          clear hbad HT HS HB hx
          go_wp2_with fail
          go_ret
          exact ⟨by rw [HR.out]; rfl, B1.out⟩
        · have hbad : badP ⟨s, n⟩ = true := decide_eq_true (by dsimp only; omega)
          have d1' : decide (((s.size : Nat) : Int) < 1) = false := decide_eq_false (by omega)
          have d2' : decide ((32 : Int) < ((s.size : Nat) : Int)) = false := decide_eq_false (by omega)
          have d3' : (n == 0) = true := by rw [beq_iff_eq]; omega
          have HR : Hid (postsB seq t L = false) := by show _ = _; rw [HP.out, HT.out hbad]; rfl
          clear hbad HT HS HB hx
          go_wp2_with fail
          go_ret
          exact ⟨by rw [HR.out]; rfl, B1.out⟩
        · have hbad : badP ⟨s, n⟩ = true := decide_eq_true (by dsimp only; omega)
          have d1' : decide (((s.size : Nat) : Int) < 1) = false := decide_eq_false (by omega)
          have d2' : decide ((32 : Int) < ((s.size : Nat) : Int)) = false := decide_eq_false (by omega)
          have d3' : (n == 0) = false := by rw [beq_eq_false_iff_ne]; omega
          have d4' : decide (n < -4611686018427387904) = true := decide_eq_true (by omega)
          have HR : Hid (postsB seq t L = false) := by show _ = _; rw [HP.out, HT.out hbad]; rfl
          clear hbad HT HS HB hx
          go_wp2_with fail
          go_ret
          exact ⟨by rw [HR.out]; rfl, B1.out⟩
        · have hbad : badP ⟨s, n⟩ = true := decide_eq_true (by dsimp only; omega)
          have d1' : decide (((s.size : Nat) : Int) < 1) = false := decide_eq_false (by omega)
          have d2' : decide ((32 : Int) < ((s.size : Nat) : Int)) = false := decide_eq_false (by omega)
          have d3' : (n == 0) = false := by rw [beq_eq_false_iff_ne]; omega
          have d4' : decide (n < -4611686018427387904) = false := decide_eq_false (by omega)
          have d5' : decide ((4611686018427387904 : Int) < n) = true := decide_eq_true (by omega)
          have HR : Hid (postsB seq t L = false) := by show _ = _; rw [HP.out, HT.out hbad]; rfl
          clear hbad HT HS HB hx
          go_wp2_with fail
          go_ret
          exact ⟨by rw [HR.out]; rfl, B1.out⟩
        · have hbad : badP ⟨s, n⟩ = false := decide_eq_false (by dsimp only; omega)
          have d1' : decide (((s.size : Nat) : Int) < 1) = false := decide_eq_false (by omega)
          have d2' : decide ((32 : Int) < ((s.size : Nat) : Int)) = false := decide_eq_false (by omega)
          have d3' : (n == 0) = false := by rw [beq_eq_false_iff_ne]; omega
          have d4' : decide (n < -4611686018427387904) = false := decide_eq_false (by omega)
          have d5' : decide ((4611686018427387904 : Int) < n) = false := decide_eq_false (by omega)
          have HS2 : Hid ((L.take (k + 1)).any badP = false) := by show _ = _; rw [HS.out, hbad]
          clear hbad HT HS HB hx
          go_wp2_with fail
          go_roundw
          case rel => exact ⟨k + 1, by omega, by go_num, HS2.out, trivial⟩
          case measure => simp [intOf]; omega
      · have dk : decide ((k : Int) < ((L.length : Nat) : Int)) = false := decide_eq_false (by omega)
        have hany : L.any badP = false := by
          have h := HA.out
          rw [List.take_of_length_le (by omega)] at h
          exact h
        have HR : Hid (postsB seq t L = true) := by show _ = _; rw [HP.out, hany]; rfl
        clear hany
        go_wp2_with fail
        go_ret
        exact ⟨by rw [HR.out]; rfl, B1.out⟩
  · have HR : Hid (postsB seq t L = false) := posts_no h1
    have hx : seq = 0 ∨ (0 < seq ∧ t < 0) ∨ (0 < seq ∧ 0 ≤ t ∧ 137438953472 < t) ∨ (0 < seq ∧ 0 ≤ t ∧ t ≤ 137438953472 ∧ L.length = 0) ∨ (0 < seq ∧ 0 ≤ t ∧ t ≤ 137438953472 ∧ 0 < L.length ∧ 16 < L.length) := by omega
    clear h1 hlen
    go_enter Tryz.func46, Tryz.ntmps46
    go_upto_region 1 with fail
    rw [← hw1]
    clear hw1
    rcases hx with hx | hx | hx | hx | hx
    · have d0 : (((seq : Nat) : Int) == 0) = true := by rw [beq_iff_eq]; omega
      clear hx
      go_wp2_with fail
      go_ret
      exact ⟨by rw [HR.out]; rfl, B1.out⟩
    · have d0 : (((seq : Nat) : Int) == 0) = false := by rw [beq_eq_false_iff_ne]; omega
      have d1 : decide (t < 0) = true := decide_eq_true (by omega)
      clear hx
      go_wp2_with fail
      go_ret
      exact ⟨by rw [HR.out]; rfl, B1.out⟩
    · have d0 : (((seq : Nat) : Int) == 0) = false := by rw [beq_eq_false_iff_ne]; omega
      have d1 : decide (t < 0) = false := decide_eq_false (by omega)
      have d2 : decide ((137438953472 : Int) < t) = true := decide_eq_true (by omega)
      clear hx
      go_wp2_with fail
      go_ret
      exact ⟨by rw [HR.out]; rfl, B1.out⟩
    · have d0 : (((seq : Nat) : Int) == 0) = false := by rw [beq_eq_false_iff_ne]; omega
      have d1 : decide (t < 0) = false := decide_eq_false (by omega)
      have d2 : decide ((137438953472 : Int) < t) = false := decide_eq_false (by omega)
      have d3 : decide (((L.length : Nat) : Int) < 1) = true := decide_eq_true (by omega)
      clear hx
      go_wp2_with fail
      go_ret
      exact ⟨by rw [HR.out]; rfl, B1.out⟩
    · have d0 : (((seq : Nat) : Int) == 0) = false := by rw [beq_eq_false_iff_ne]; omega
      have d1 : decide (t < 0) = false := decide_eq_false (by omega)
      have d2 : decide ((137438953472 : Int) < t) = false := decide_eq_false (by omega)
      have d3 : decide (((L.length : Nat) : Int) < 1) = false := decide_eq_false (by omega)
      have d4 : decide ((16 : Int) < ((L.length : Nat) : Int)) = true := decide_eq_true (by omega)
      clear hx
      go_wp2_with fail
      go_ret
      exact ⟨by rw [HR.out]; rfl, B1.out⟩
end Go.Proofs.YtecbnhmnhcpcmaaGreatDoor
/-! The walk of the reference's May. -/
namespace Go.Proofs.YtecbnhmnhcpcmaaGreatDoor
open Go.RowKit Go.WideMaps Go.Maps
set_option linter.unusedVariables false
set_option linter.unusedSimpArgs false
set_option maxRecDepth 100000
/-- what the reference asks of parts, but for their sums -/
noncomputable def mayR17 (t : Int) (L : List Pt) : Bool := postsB 1 t L && mayJ L
theorem mayR_short {t : Int} {L : List Pt} (h : L.length < 2) : mayR17 t L = false := by
  unfold mayR17 mayJ
  rw [decide_eq_false (by omega : ¬ 2 ≤ L.length)]
  simp
theorem mayR_acc {t : Int} {L : List Pt} {q : Pt} (hq : q ∈ L) (h : accB q.a = false) : mayR17 t L = false := by
  unfold mayR17 mayJ
  have h1 : L.all (fun p => accB p.a) = false := by
    cases h2 : L.all (fun p => accB p.a)
    · rfl
    · have h3 := List.all_eq_true.1 h2 q hq
      rw [h] at h3
      cases h3
  rw [h1]
  simp
theorem mayR_twice {t : Int} {L : List Pt} {i k : Nat} (hi : i < L.length) (hk : k < i) (h : (L[k]'(by omega)).a = L[i].a) : mayR17 t L = false := by
  unfold mayR17 mayJ
  have h1 : apartB L = false := by
    cases h2 : apartB L
    · rfl
    · exfalso
      have h3 := apart_pw h2
      rw [List.pairwise_iff_getElem] at h3
      refine h3 k i (by rw [List.length_map]; omega) (by rw [List.length_map]; omega) hk ?_
      rw [List.getElem_map, List.getElem_map]
      unfold keyP
      rw [h]
  rw [h1]
  simp
theorem mayR_yes {t : Int} {L : List Pt} (h2 : 2 ≤ L.length) (hp : postsB 1 t L = true) (ha : ∀ q ∈ L, accB q.a = true) (hd : ∀ (i k : Nat) (p q : Pt), k < i → L[i]? = some p → L[k]? = some q → q.a ≠ p.a) : mayR17 t L = true := by
  unfold mayR17 mayJ
  have h1 : L.all (fun p => accB p.a) = true := List.all_eq_true.2 ha
  have h3 : apartB L = true := by
    rw [apart_iff, List.pairwise_iff_getElem]
    intro k i hk hi hki e
    rw [List.length_map] at hk hi
    rw [List.getElem_map, List.getElem_map] at e
    refine hd i k L[i] L[k] hki (List.getElem?_eq_getElem hi) (List.getElem?_eq_getElem hk) ?_
    unfold keyP at e
    injection e with e
    exact ba_data e
  rw [hp, h1, h3, decide_eq_true h2]
  rfl
set_option maxHeartbeats 1000000 in
theorem rmay_any (t : Int) (lv : Value) (L : List Pt) (w : World) (hl : RowsIn w lv 2 (L.map Pt.cells)) (hn : L.length ≤ 40) (hs : ∀ q ∈ L, q.a.size ≤ 100) : Calls Tryz.prog 23 #[.int .i64 t, lv] w fun e w' => e = .returned (.bool (mayR17 t L)) ∧ Below w.heap.size w w' := by
  have HL := Lib.hid hl
  have HS := Lib.hid hs
  have PX := Lib.hid (rposts_any 1 t 0 lv L w hl (by decide))
  have HM2 := Lib.hid (mayR_short (t := t) (L := L))
  have HMA := Lib.hid (fun q hq h => mayR_acc (t := t) (L := L) (q := q) hq h)
  have HMT := Lib.hid (fun i k hi hk h => mayR_twice (t := t) (L := L) (i := i) (k := k) hi hk h)
  have HMY := Lib.hid (mayR_yes (t := t) (L := L))
  have HMP : Hid (postsB 1 t L = false → mayR17 t L = false) := fun h => by unfold mayR17; rw [h]; rfl
  obtain ⟨mb, hmb⟩ : ∃ b, b = mayR17 t L := ⟨_, rfl⟩
  rw [← hmb]
  rw [← hmb] at HM2 HMA HMT HMY HMP
  clear hmb
  obtain ⟨a, c, rfl⟩ := pt_form hl
  clear hl hs
  by_cases h2 : L.length < 2
  · have d : decide (((L.length : Nat) : Int) < 2) = true := decide_eq_true (by omega)
    obtain rfl := HM2.out h2
    clear h2
    go_enter Tryz.func23, Tryz.ntmps23
    go_wp2_with fail
    go_ret
    exact ⟨rfl, Below.refl _ _⟩
  have d : decide (((L.length : Nat) : Int) < 2) = false := decide_eq_false (by omega)
  have HL2 : Hid (2 ≤ L.length) := by show _ ≤ _; omega
  clear h2
  unfold PostsEnd at PX
  go_enter Tryz.func23, Tryz.ntmps23
  go_wp2_with fail
  refine PX.out.mono ?_
  rintro e w1 ⟨rfl, hb⟩
  have B1 := Lib.hid hb
  clear hb PX
  cases hp : postsB 1 t L
  · obtain rfl := HMP.out hp
    clear hp
    go_wp2_with fail
    go_ret
    exact ⟨rfl, B1.out⟩
  have HP := Lib.hid hp
  clear hp HMP
  go_wp2_with fail
  go_loopw [5] (fun iv wr => ∃ i : Nat, i ≤ L.length ∧ iv = .int .i64 i ∧ Hid (∀ q ∈ L.take i, accB q.a = true) ∧ Hid (∀ (j k : Nat) (p q : Pt), j < i → k < j → L[j]? = some p → L[k]? = some q → q.a ≠ p.a) ∧ Hid (Below w.heap.size w wr)) (fun iv _ => L.length - (intOf iv).toNat)
  case atStart => exact ⟨0, by omega, rfl, fun q hq => by simp at hq, fun j k p q hj => by omega, B1.out⟩
  case round =>
    obtain ⟨i, hi, rfl, AR, DR, BR⟩ := hrel
    by_cases hlt : i < L.length
    · obtain ⟨g, o, rfl, y0, -⟩ := pt_cells (HL.out.below BR.out) i hlt
      have hz : (i : Int) < (L.length : Int) := by omega
      have hsz := HS.out L[i] (List.getElem_mem hlt)
      have HAC : Hid (accB L[i].a = false → mb = false) := HMA.out L[i] (List.getElem_mem hlt)
      have HTW : Hid (∀ k (hk : k < i), (L[k]'(by omega)).a = L[i].a → mb = false) := fun k hk h => HMT.out i k hlt hk h
      have HTK : Hid (accB L[i].a = true → ∀ q ∈ L.take (i + 1), accB q.a = true) := fun h q hq => by
        rw [List.take_succ_eq_append_getElem hlt] at hq
        rcases List.mem_append.1 hq with h1 | h1
        · exact AR.out q h1
        · simp at h1; subst h1; exact h
      have HII : Hid (L[i]? = some L[i]) := List.getElem?_eq_getElem hlt
      generalize L[i] = p at *
      obtain ⟨s, n⟩ := p
      dsimp only at y0 hsz HAC HTW HTK
      have QX := Lib.hid (rparseB s wr (by omega))
      have KX : Hid (∀ W, Below wr.heap.size wr W → W.cell? ⟨g, o + i * 2, none⟩ = some (.string s)) := by
        have q0 := y0
        exact fun W hb => stays hb q0
      have h40 := hn
      clear hsz
      go_wp2_with fail
      refine QX.out.mono ?_
      rintro e w2 ⟨x, nv, rfl, hb⟩
      have B2 := Lib.hid (onward hb BR.out)
      have B2r := Lib.hid hb
      clear hb QX y0
      cases hac : accB s
      · obtain rfl := HAC.out hac
        clear hac
        go_wp2_with fail
        go_ret
        exact ⟨rfl, B2.out⟩
      have HTK2 := Lib.hid (HTK.out hac)
      clear hac HTK HAC
      go_wp2_with fail
      go_loopw [9] (fun iv wv => ∃ k : Nat, k ≤ i ∧ iv = .int .i64 k ∧ Hid (∀ (k' : Nat) (q : Pt), k' < k → L[k']? = some q → q.a ≠ s) ∧ Hid (Below w2.heap.size w2 wv)) (fun iv _ => i - (intOf iv).toNat)
      case atStart => exact ⟨0, by omega, rfl, fun k' q hk => by omega, Below.refl _ _⟩
      case round =>
        obtain ⟨k, hk, rfl, NR, BV⟩ := hrel
        by_cases hkl : k < i
        · have hzk : (k : Int) < (i : Int) := by omega
          have BVw := Lib.hid (onward BV.out B2.out)
          obtain ⟨g', o', e', x0, -⟩ := pt_cells (HL.out.below BVw.out) k (by omega)
          injection e' with e'
          injection e' with e1 e2 _
          subst e1
          subst e2
          have hzl : (k : Int) < (L.length : Int) := by omega
          have y0 := KX.out _ (onward BV.out B2r.out)
          have HKE := Lib.hid (HTW.out k hkl)
          have HKK : Hid (L[k]? = some (L[k]'(by omega))) := List.getElem?_eq_getElem (by omega)
          generalize L[k]'(by omega) = q at *
          obtain ⟨s', n'⟩ := q
          dsimp only at x0 HKE
          by_cases hss : s' = s
          · obtain rfl := HKE.out hss
            subst hss
            go_upto_region 12 with fail
            go_quiet (fail)
            have BQ := Lib.hid (World.below_drewN (Below.refl wr.heap.size wr) nq)
            go_wp2_with fail
            go_ret
            exact ⟨rfl, onward BQ.out BVw.out⟩
          · have hne := toList_ne hss
            have NR2 : Hid (∀ (k' : Nat) (q : Pt), k' < k + 1 → L[k']? = some q → q.a ≠ s) := fun k' q hk' hq => by
              rcases Nat.lt_or_ge k' k with h | h
              · exact NR.out k' q h hq
              · have : k' = k := by omega
                rw [this, HKK.out] at hq
                obtain rfl := Option.some.inj hq
                exact hss
            clear hss
            go_upto_region 12 with fail
            go_quiet (fail)
            have BQ := Lib.hid (World.below_drewN (Below.refl wr.heap.size wr) nq)
            go_wp2_with fail
            go_roundw
            case rel => exact ⟨k + 1, by omega, by go_num, NR2.out, onward BQ.out BV.out⟩
            case measure => simp [intOf]; omega
        · obtain rfl : k = i := by omega
          have dk : decide ((k : Int) < (k : Int)) = false := decide_eq_false (by omega)
          have BVw := Lib.hid (onward BV.out B2.out)
          have DR2 : Hid (∀ (j k' : Nat) (p q : Pt), j < k + 1 → k' < j → L[j]? = some p → L[k']? = some q → q.a ≠ p.a) := fun j k' p q hj hk' hp hq => by
            rcases Nat.lt_or_ge j k with h | h
            · exact DR.out j k' p q h hk' hp hq
            · have hjk : j = k := by omega
              rw [hjk] at hp hk'
              rw [HII.out] at hp
              obtain rfl := Option.some.inj hp
              exact NR.out k' q hk' hq
          go_wp2_with fail
          go_roundw
          case rel => exact ⟨k + 1, by omega, by go_num, HTK2.out, DR2.out, BVw.out⟩
          case measure => simp [intOf]; omega
    · have dk : decide ((i : Int) < ((L.length : Nat) : Int)) = false := decide_eq_false (by omega)
      have hil : L.take i = L := List.take_of_length_le (by omega)
      have ha := AR.out
      rw [hil] at ha
      obtain rfl := HMY.out HL2.out HP.out ha (fun j k p q hkj hp hq => DR.out j k p q (by
        rcases Nat.lt_or_ge j i with h | h
        · exact h
        · rw [List.getElem?_eq_none (by omega)] at hp; cases hp) hkj hp hq)
      clear hil ha
      go_wp2_with fail
      go_ret
      exact ⟨rfl, BR.out⟩
end Go.Proofs.YtecbnhmnhcpcmaaGreatDoor
