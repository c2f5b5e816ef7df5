/- The walk of the laws' lefts; plain facts of what is drawn. The walk of the law PacksDraw. -/
import Derived.Test.YtcaihncnmjegoaaGreatDoorPkPacks16
/-! The walk of the laws' lefts; plain facts of what is drawn. -/
namespace Go.Proofs.YtcaihncnmjegoaaGreatDoor
open Go.RowKit Go.WideMaps Go.Maps
set_option linter.unusedVariables false
set_option linter.unusedSimpArgs false
set_option maxRecDepth 100000
/-- packs of these units -/
def lfs (us : List Int) : List Lf := (List.range us.length).map fun i => (((i + 1 : Nat) : Int), (i : Int), us.getD i 0)
theorem lfs_len (us : List Int) : (lfs us).length = us.length := by simp [lfs]
theorem lfs_take (us : List Int) (i : Nat) (h : i < us.length) : (lfs us).take (i + 1) = (lfs us).take i ++ [(((i + 1 : Nat) : Int), (i : Int), us[i])] := by
  rw [List.take_succ_eq_append_getElem (by rw [lfs_len]; exact h)]
  congr 2
  unfold lfs
  rw [List.getElem_map, List.getElem_range]
  simp [List.getD, h]
theorem lfs_mem {us : List Int} (h : ∀ t ∈ us, 0 ≤ t ∧ t < 4294967296) : ∀ x ∈ lfs us, 0 ≤ x.2.2 ∧ x.2.2 ≤ 4294967295 := by
  intro x hx
  obtain ⟨i, hi, rfl⟩ := List.mem_map.1 hx
  have hi' := List.mem_range.1 hi
  have h1 := h us[i] (List.getElem_mem hi')
  have e : us.getD i 0 = us[i] := by simp [List.getD, hi']
  show 0 ≤ us.getD i 0 ∧ us.getD i 0 ≤ 4294967295
  rw [e]
  omega
theorem lfs_ids {us : List Int} (h : us.length ≤ 100) : ∀ x ∈ lfs us, 0 ≤ x.1 ∧ x.1 < 4294967296 := by
  intro x hx
  obtain ⟨i, hi, rfl⟩ := List.mem_map.1 hx
  have hi' := List.mem_range.1 hi
  show 0 ≤ ((i + 1 : Nat) : Int) ∧ ((i + 1 : Nat) : Int) < 4294967296
  omega
set_option maxHeartbeats 2000000 in
theorem leftsW_any (uv : Value) (us : List Int) (w : World) (hU : NumsAt .u32 w uv us) (hu : ∀ t ∈ us, 0 ≤ t ∧ t < 4294967296) (hl : us.length ≤ 100) :
    Calls Tryz.prog 8 #[uv] w fun e w' => ∃ v, e = .returned v ∧ w'.ownsRow w.heap.size 34 3 v us.length (leftsC (lfs us)) ∧ Below w.heap.size w w' := by
  have HU := Lib.hid hU
  have HB := Lib.hid hu
  obtain ⟨a, c, rfl⟩ := hU.formP
  clear hU hu
  obtain ⟨i0, hi, hz0, hz1, hz2⟩ := info_parts infoLeft
  go_enter Tryz.func8, Tryz.ntmps8
  go_wp2_with fail
  go_loopw [3, 4] (fun ov iv wr => ∃ i : Nat, i ≤ us.length ∧ iv = .int .i64 i ∧ Hid (wr.ownsRow w.heap.size 34 3 ov i (leftsC ((lfs us).take i))) ∧ Hid (Below w.heap.size w wr)) (fun _ iv _ => us.length - (intOf iv).toNat)
  case atStart => exact ⟨0, by omega, rfl, World.ownsRow_nil _ _ _ _, Below.refl _ _⟩
  case round =>
    obtain ⟨i, hi1, rfl, OR, BR⟩ := hrel
    by_cases hlt : i < us.length
    · have hz : (i : Int) < (us.length : Int) := by omega
      obtain ⟨g, o, rfl, hc⟩ := (HU.out.belowP BR.out).cellP i hlt
      have hx := HB.out _ (List.getElem_mem hlt)
      have HS := Lib.hid (lfs_take us i hlt)
      generalize us[i] = x at *
      have hw1 : IntKind.u32.wrap ((i : Int) + 1) = (i : Int) + 1 := by
        have e : ∀ z : Int, IntKind.u32.wrap z = z % 4294967296 := fun _ => rfl
        rw [e]; omega
      have hw2 : IntKind.i64.wrap x = x := IntWalk.i64_in _ (by omega)
      have hle := BR.out.size
      go_wp2_with (at_builtin; refine wpList_append_own _ rfl _ _ 24 rfl w.heap.size 34 i0 _ 3 24 Tryz.underlying24 hi hz0 hz1 hz2 rfl (by decide) _ _ _ rfl (OR.out.alloc _) ⟨wr.heap.size, 0, none⟩ 1 1 [.int .u32 ((i : Int) + 1), .int .i64 i, .int .i64 x] rfl rfl (new_cells _ _ _) (by intro u hu; simp only [List.mem_cons, List.not_mem_nil, or_false] at hu; rcases hu with rfl | rfl | rfl <;> rfl) (by unfold maxLen; omega) (by omega) (by simp; omega) ?_)
      intro v' w9 hown9 hgrow9 _
      have B9 : Hid (Below w.heap.size w w9) := owned_below (OR.out.alloc _) (BR.out.alloc BR.out.size _) hgrow9
      have O9 : Hid (w9.ownsRow w.heap.size 34 3 v' (i + 1) (leftsC ((lfs us).take (i + 1)))) := by
        unfold Hid
        rw [HS.out]
        unfold leftsC
        rw [List.flatMap_append]
        exact hown9
      clear hown9 hgrow9 OR HS hc
      go_wp2_with fail
      go_roundw
      case rel => exact ⟨i + 1, by omega, by go_num, O9.out, B9.out⟩
      case measure => simp [intOf]; omega
    · obtain rfl : i = us.length := by omega
      have dk0 : decide ((us.length : Int) < (us.length : Int)) = false := decide_eq_false (by omega)
      go_wp2_with fail
      go_ret
      exact ⟨_, rfl, by have := OR.out; rw [List.take_of_length_le (by rw [lfs_len]; exact Nat.le_refl _)] at this; exact this, BR.out⟩
theorem draw_zero (t : Int) : ∀ (ls : List Lf), (∀ x ∈ ls, 0 ≤ x.2.2) → drawL t 0 ls = []
  | [], _ => rfl
  | x :: r, h => by
    have h1 := h x List.mem_cons_self
    unfold drawL
    rw [if_neg (by omega)]
    exact draw_zero t r fun y hy => h y (List.mem_cons_of_mem _ hy)
theorem drawR_nil (t : Int) : ∀ (ls : List Lf) (R : Int), drawL t R ls = [] → drawR R ls = R
  | [], R, _ => rfl
  | x :: r, R, h => by
    unfold drawL at h
    unfold drawR
    by_cases hm : 0 < min R x.2.2
    · rw [if_pos hm] at h; cases h
    · rw [if_neg hm] at h ⊢
      exact drawR_nil t r R h
theorem drawR_pos : ∀ (ls : List Lf) (R : Int), 0 ≤ R → 0 ≤ drawR R ls
  | [], R, h => h
  | x :: r, R, h => by
    unfold drawR
    by_cases hm : 0 < min R x.2.2
    · rw [if_pos hm]; exact drawR_pos r _ (by omega)
    · rw [if_neg hm]; exact drawR_pos r R h
theorem drawR_all : ∀ (ls : List Lf) (R : Int), (∀ x ∈ ls, 0 ≤ x.2.2) → 0 ≤ R → drawR R ls = max 0 (R - usumP ls)
  | [], R, _, h => by show R = max 0 (R - 0); omega
  | x :: r, R, h, hR => by
    have h1 := h x List.mem_cons_self
    have h2 : ∀ y ∈ r, 0 ≤ y.2.2 := fun y hy => h y (List.mem_cons_of_mem _ hy)
    have e : usumP (x :: r) = x.2.2 + usumP r := by simp [usumP]
    have hs : ∀ (l : List Lf), (∀ y ∈ l, 0 ≤ y.2.2) → 0 ≤ usumP l := by
      intro l
      induction l with
      | nil => intro _; exact Int.le_refl 0
      | cons y s ih =>
        intro hl
        have e2 : usumP (y :: s) = y.2.2 + usumP s := by simp [usumP]
        have h3 := ih fun z hz => hl z (List.mem_cons_of_mem _ hz)
        have h4 := hl y List.mem_cons_self
        rw [e2]; omega
    have hsr := hs r h2
    unfold drawR
    rw [e]
    by_cases hm : 0 < min R x.2.2
    · rw [if_pos hm, drawR_all r _ h2 (by omega)]
      omega
    · rw [if_neg hm, drawR_all r R h2 hR]
      omega
theorem draw_step (t : Int) : ∀ (ls : List Lf) (R : Int), (∀ x ∈ ls, 0 ≤ x.2.2) → 0 ≤ R → ∀ p D, drawL t R ls = p :: D → ∃ j, j < ls.length ∧ (∀ i, i < j → ls[i]!.2.2 = 0) ∧ 0 < ls[j]!.2.2 ∧ 0 < R ∧ p = (Acct.nameB wPack [t, ls[j]!.1], -(min R ls[j]!.2.2)) ∧ D = drawL t (R - min R ls[j]!.2.2) (ls.drop (j + 1)) ∧ drawR R ls = drawR (R - min R ls[j]!.2.2) (ls.drop (j + 1)) ∧ (D ≠ [] → min R ls[j]!.2.2 = ls[j]!.2.2)
  | [], R, _, _, p, D, h => by cases h
  | x :: r, R, h, hR, p, D, hd => by
    have h1 := h x List.mem_cons_self
    have h2 : ∀ y ∈ r, 0 ≤ y.2.2 := fun y hy => h y (List.mem_cons_of_mem _ hy)
    unfold drawL at hd
    by_cases hm : 0 < min R x.2.2
    · rw [if_pos hm] at hd
      injection hd with e1 e2
      refine ⟨0, by simp, fun i hi => absurd hi (Nat.not_lt_zero _), by show 0 < x.2.2; omega, by omega, e1.symm, e2.symm, ?_, fun hne => ?_⟩
      · show drawR R (x :: r) = drawR (R - min R x.2.2) r
        rw [drawR, if_pos hm]
      · show min R x.2.2 = x.2.2
        by_cases hz : R - min R x.2.2 = 0
        · rw [hz, draw_zero t r h2] at e2
          exact absurd e2.symm hne
        · omega
    · rw [if_neg hm] at hd
      obtain ⟨j, j1, j2, j3, j4, j5, j6, j7, j8⟩ := draw_step t r R h2 hR p D hd
      refine ⟨j + 1, by simp; omega, fun i hi => ?_, j3, j4, j5, j6, ?_, j8⟩
      · cases i with
        | zero => show x.2.2 = 0; omega
        | succ i => exact j2 i (by omega)
      · show drawR R (x :: r) = drawR (R - min R r[j]!.2.2) (r.drop (j + 1))
        rw [drawR, if_neg hm]
        exact j7
theorem draw_one (t : Int) : ∀ (ls : List Lf) (j : Nat), (∀ x ∈ ls, 0 ≤ x.2.2) → j < ls.length → (∀ i, i < j → ls[i]!.2.2 = 0) → 0 < ls[j]!.2.2 → drawL t 1 ls = [(Acct.nameB wPack [t, ls[j]!.1], -1)]
  | [], j, _, hj, _, _ => by simp at hj
  | x :: r, 0, h, _, _, hp => by
    have hp' : 0 < x.2.2 := hp
    have e : min 1 x.2.2 = 1 := by omega
    unfold drawL
    rw [if_pos (by omega), e]
    show _ :: drawL t (1 - 1) r = _
    rw [show (1 : Int) - 1 = 0 from rfl, draw_zero t r fun y hy => h y (List.mem_cons_of_mem _ hy)]
    rfl
  | x :: r, j + 1, h, hj, hz, hp => by
    have h0 : x.2.2 = 0 := hz 0 (Nat.succ_pos _)
    unfold drawL
    rw [if_neg (by omega)]
    exact draw_one t r j (fun y hy => h y (List.mem_cons_of_mem _ hy)) (by simpa using hj) (fun i hi => hz (i + 1) (by omega)) hp
theorem draw_len (t : Int) : ∀ (ls : List Lf) (R : Int), (drawL t R ls).length ≤ ls.length
  | [], R => Nat.le_refl _
  | x :: r, R => by
    unfold drawL
    split
    · simp only [List.length_cons]; have := draw_len t r (R - min R x.2.2); omega
    · simp only [List.length_cons]; have := draw_len t r R; omega
end Go.Proofs.YtcaihncnmjegoaaGreatDoor

/-! The walk of the law PacksDraw. -/
namespace Go.Proofs.YtcaihncnmjegoaaGreatDoor
open Go.RowKit Go.WideMaps Go.Maps
set_option linter.unusedVariables false
set_option linter.unusedSimpArgs false
set_option maxRecDepth 10000000
theorem lefts_own {w : World} {B : Nat} {v : Value} {n : Nat} {ls : List Lf} (h : w.ownsRow B 34 3 v n (leftsC ls)) (hn : ls.length = n) : LeftsAt w v ls := by
  rcases Go.Joins.ownsRow_forms h with ⟨rfl, h0⟩ | ⟨g, cap, rfl⟩
  · obtain rfl : ls = [] := List.length_eq_zero_iff.1 (by omega)
    exact ⟨none, 0, rfl, fun i hi => by simp at hi⟩
  · have := lefts_at_take (m := n) (c := cap) h hn (Nat.le_refl _)
    rw [List.take_of_length_le (by omega)] at this
    exact this
theorem own_cap {w : World} {B n : Nat} {a : Option Addr} {c : Nat} {xs : List Value} (h : w.ownsRow B 34 3 (.slice a n c) n xs) : n ≤ c ∧ c ≤ 9223372036854775807 := by
  obtain ⟨hx, ⟨e, h0⟩ | ⟨g', cap', cur, e, hb, hg, hnc, hcm, hcs, ht⟩⟩ := h
  · injection e with e1 e2 e3
    omega
  · injection e with e1 e2 e3
    unfold maxLen at hcm
    omega
theorem lefts_drop {w : World} {b o n c k : Nat} {ls : List Lf} (h : LeftsAt w (.slice (some ⟨b, o, none⟩) n c) ls) (hk : k ≤ ls.length) (c' : Nat) : LeftsAt w (.slice (some ⟨b, o + k * 3, none⟩) (n - k) c') (ls.drop k) := by
  obtain ⟨a, c0, e, hc⟩ := h
  injection e with e1 e2 e3
  subst e1 e2
  refine ⟨_, c', by rw [List.length_drop], fun i hi => ⟨b, o + k * 3, rfl, ?_⟩⟩
  rw [List.length_drop] at hi
  obtain ⟨b', o', e, h1, h2, h3⟩ := hc (k + i) (by omega)
  injection e with e
  injection e with e1 e2 _
  subst e1 e2
  have eg : (ls.drop k).getD i (0, 0, 0) = ls.getD (k + i) (0, 0, 0) := by
    rw [List.getD_eq_getElem?_getD, List.getD_eq_getElem?_getD, List.getElem?_drop]
  rw [eg]
  have ea : o + k * 3 + i * 3 = o + (k + i) * 3 := by omega
  rw [ea]
  exact ⟨h1, h2, h3⟩
theorem left_at {w : World} {b o n c i : Nat} {ls : List Lf} (h : LeftsAt w (.slice (some ⟨b, o, none⟩) n c) ls) (hi : i < ls.length) : w.cell? ⟨b, o + i * 3 + 2, none⟩ = some (.int .i64 ls[i]!.2.2) := by
  obtain ⟨a, c0, e, hc⟩ := h
  injection e with e1 e2 e3
  subst e1
  obtain ⟨b', o', e, h1, h2, h3⟩ := hc i hi
  injection e with e
  injection e with e1 e2 _
  subst e1 e2
  rw [h3, getElem!_pos ls i hi, getD_at _ _ _ hi]
theorem one_part {w : World} {v : Value} {p : Pt} (h : RowsIn w v 2 ([p].map Pt.cells)) : ∃ b o c, v = .slice (some ⟨b, o, none⟩) 1 c ∧ w.cell? ⟨b, o, none⟩ = some (.string p.a) ∧ w.cell? ⟨b, o + 1, none⟩ = some (.int .i64 p.n) := by
  obtain ⟨a, c, rfl⟩ := pt_form h
  obtain ⟨b, o, rfl, h1, h2⟩ := pt_cells h 0 (by simp)
  exact ⟨b, o, c, rfl, by simpa using h1, by simpa using h2⟩
set_option maxHeartbeats 8000000 in
theorem packsDraw_any (u n : Int) (uv : Value) (us : List Int) (w : World) (hE : EnvA w) (hU : NumsAt .u32 w uv us) (hu : ∀ t ∈ us, 0 ≤ t ∧ t < 4294967296) (hl : us.length ≤ 9223372036854775807) (ht : 0 ≤ u ∧ u < 4294967296) (hn : Acct.inInt n) :
    Calls Tryz.prog 3 #[.int .u32 u, uv, .int .i64 n] w fun e w' => e = .returned (.bool true) ∧ Below w.heap.size w w' := by
  have HE := Lib.hid hE
  obtain ⟨a, c, rfl⟩ := hU.formP
  by_cases h100 : us.length > 100
  · have hz : (us.length : Int) > 100 := by omega
    clear hE hU hu
    go_enter Tryz.func3, Tryz.ntmps3
    go_wp2_with fail
    go_ret
    exact ⟨rfl, Below.refl _ _⟩
  have hz : ¬ (us.length : Int) > 100 := by omega
  have hl100 : us.length ≤ 100 := by omega
  have LX := Lib.hid (leftsW_any _ us w hU hu hl100)
  have LM := Lib.hid (lfs_mem hu)
  have LI := Lib.hid (lfs_ids hl100)
  have LL : Hid ((lfs us).length ≤ 100) := by show _ ≤ _; rw [lfs_len]; exact hl100
  have HLL := Lib.hid (lfs_len us)
  clear hE hU hu h100
  generalize lfs us = ls at *
  go_enter Tryz.func3, Tryz.ntmps3
  go_wp2_with fail
  refine LX.out.mono ?_
  rintro e w1 ⟨v1, rfl, ho, hb⟩
  rw [← HLL.out] at ho
  have B1 := Lib.hid hb
  have L1 := Lib.hid (lefts_own ho rfl)
  obtain ⟨la, lc, hv1, -⟩ := L1.out
  subst hv1
  have CP := Lib.hid (own_cap ho)
  clear ho hb LX
  have DX := Lib.hid (draw_any u n _ ls w1 (HE.out.below B1.out).pow L1.out ht LI.out hn (by have := LL.out; omega))
  have HR0 : Hid (0 ≤ max 0 n ∧ max 0 n ≤ 9223372036854775807) := by have h1 := hn.1; have h2 := hn.2; show _ ∧ _; omega
  have DL := Lib.hid (draw_len u ls (max 0 n))
  have DP := Lib.hid (drawR_pos ls (max 0 n) HR0.out.1)
  have DA := Lib.hid (drawR_all ls (max 0 n) (fun x hx => (LM.out x hx).1) HR0.out.1)
  go_wp2_with fail
  refine DX.out.mono ?_
  rintro e w2 ⟨pv, rfl, hb, ho⟩
  have B2 := Lib.hid (onward hb B1.out)
  have L2 := Lib.hid (L1.out.below hb)
  have R2 := Lib.hid (drawn_rows ho)
  obtain ⟨pa, pc, rfl⟩ := pt_form (drawn_rows ho)
  rw [List.length_map]
  clear ho hb DX L1
  obtain ⟨R0, hR0⟩ : ∃ R0, R0 = max 0 n := ⟨_, rfl⟩
  have HRn := Lib.hid hR0
  rw [← hR0] at R2 HR0 DL DP DA ⊢
  clear hR0
  obtain ⟨dl, hdl⟩ : ∃ dl, dl = drawL u R0 ls := ⟨_, rfl⟩
  have HDL := Lib.hid hdl
  rw [← hdl] at R2 DL ⊢
  obtain ⟨rs, hrs⟩ : ∃ rs, rs = drawR R0 ls := ⟨_, rfl⟩
  have HRS := Lib.hid hrs
  rw [← hrs] at DP DA ⊢
  clear hdl hrs
  have I0 : Hid (dl.drop 0 = drawL u R0 (ls.drop 0) ∧ drawR R0 ls = drawR R0 (ls.drop 0)) := ⟨HDL.out, rfl⟩
  go_wp2_with fail
  go_loopw [10, 11, 12, 13, 14] (fun sv av iv _ _ wr => ∃ (i k : Nat) (R : Int), i ≤ dl.length ∧ k ≤ ls.length ∧ 0 ≤ R ∧ R ≤ R0 ∧ iv = .int .i64 i ∧ av = .int .i64 k ∧ sv = .int .i64 (R0 - R) ∧ Hid (dl.drop i = drawL u R (ls.drop k) ∧ drawR R0 ls = drawR R (ls.drop k)) ∧ Hid (Below w2.heap.size w2 wr)) (fun _ _ iv _ _ _ => dl.length - (intOf iv).toNat)
  case atStart => exact ⟨0, 0, R0, by omega, by omega, HR0.out.1, by omega, rfl, rfl, by simp, I0.out, Below.refl _ _⟩
  case round =>
    obtain ⟨i, k, R, hi, hk, hRp, hRm, rfl, rfl, rfl, HI, BR⟩ := hrel
    have hDL := DL.out
    have hLL := LL.out
    have hR0m := HR0.out.2
    by_cases hlt : i < dl.length
    · have hzz : (i : Int) < (dl.length : Int) := by omega
      have hd := List.drop_eq_getElem_cons hlt
      rw [HI.out.1] at hd
      obtain ⟨j, j1, j2, j3, j4, j5, j6, j7, j8⟩ := draw_step u (ls.drop k) R (fun x hx => (LM.out x (List.mem_of_mem_drop hx)).1) hRp _ _ hd
      have hone := draw_one u (ls.drop k) j (fun x hx => (LM.out x (List.mem_of_mem_drop hx)).1) j1 j2 j3
      rw [List.length_drop] at j1
      have hjj : ∀ q, q < ls.length - k → (ls.drop k)[q]! = ls[k + q]! := fun q hq => by
        rw [getElem!_pos _ q (by rw [List.length_drop]; exact hq), getElem!_pos _ (k + q) (by omega), List.getElem_drop]
      rw [hjj j j1] at j3 j5 j6 j7 j8 hone
      have hzero : Hid (∀ q, k ≤ q → q < k + j → ls[q]!.2.2 = 0) := fun q h1 h2 => by
        have := j2 (q - k) (by omega)
        rwa [hjj (q - k) (by omega), show k + (q - k) = q from by omega] at this
      have hkn : k < ls.length := by omega
      have hxm := LM.out ls[k + j]! (by rw [getElem!_pos ls (k + j) (by omega)]; exact List.getElem_mem _)
      have HU := Lib.hid (show ∀ W, Below w2.heap.size w2 W → True from fun _ _ => trivial)
      have hp := pt_cells (R2.out.below BR.out) i (by rw [List.length_map]; exact hlt)
      obtain ⟨g, o, rfl, y0, y1⟩ := hp
      rw [List.getElem_map] at y0 y1
      simp only at y0 y1
      rw [j5] at y0 y1
      simp only at y0 y1
      have hLk := L2.out.below BR.out
      obtain ⟨lb, lo, rfl⟩ : ∃ lb lo, la = some ⟨lb, lo, none⟩ := by
        obtain ⟨a', c', e, hc⟩ := hLk
        injection e with e1 _ _
        subst e1
        obtain ⟨b', o', e2, -⟩ := hc k hkn
        exact ⟨b', o', e2⟩
      have OX := Lib.hid (draw_any u 1 (.slice (some ⟨lb, lo + k * 3, none⟩) (ls.length - k) (lc - k)) (ls.drop k) wr (HE.out.below (onward BR.out B2.out)).pow (lefts_drop hLk hk _) ht (fun x hx => LI.out x (List.mem_of_mem_drop hx)) ⟨by omega, by omega⟩ (by rw [List.length_drop]; omega))
      have hcl := CP.out
      have hkl : (k : Int) ≤ (ls.length : Int) := by omega
      have hkc : (k : Int) ≤ (lc : Int) := by omega
      have hm1 : ∀ z : Int, -(min R z) = -(min R z) := fun _ => rfl
      have HX3 := Lib.hid j3
      have HX7 := Lib.hid j7
      have HX8 := Lib.hid j8
      have HX6 := Lib.hid j6
      have HONE := Lib.hid hone
      clear hd j2 j5 j6 j7 j8 hjj hLk HU hm1 hone
      generalize hxx : ls[k + j]! = x at *
      have HXX := Lib.hid hxx
      obtain ⟨xi, xe, xu⟩ := x
      simp only at y0 y1 j3 hxm
      have hneg : ¬ -(min R xu) ≥ 0 := by omega
      have hsub : R0 - R - -(min R xu) = R0 - (R - min R xu) := by omega
      have hw1 : IntKind.i64.wrap (R0 - R - -(min R xu)) = R0 - (R - min R xu) := by rw [hsub]; exact IntWalk.i64_in _ (by omega)
      clear hsub hxx
      obtain ⟨q0, hq0⟩ : ∃ q0, q0 = k + j := ⟨_, rfl⟩
      have HQ0 := Lib.hid hq0
      rw [← hq0] at HXX hzero
      have hq0l : q0 < ls.length := by omega
      have hkq : k ≤ q0 := by omega
      clear hq0
      go_wp2_with fail
      refine OX.out.mono ?_
      rintro e w3 ⟨ov, rfl, hb3, ho3⟩
      have e1 : max (0 : Int) 1 = 1 := rfl
      rw [e1, HONE.out] at ho3
      obtain ⟨ob, oo, oc, rfl, k0, k1⟩ := one_part (drawn_rows ho3)
      simp only at k0
      have B3 := Lib.hid (onward hb3 BR.out)
      have L3 := Lib.hid (L2.out.below B3.out)
      have hy0 := stays hb3 y0
      have hy1 := stays hb3 y1
      clear ho3 hb3 y0 y1 OX e1
      generalize Acct.nameB wPack [u, xi] = nm at *
      go_upto_region 14 with fail
      go_quiet (fail)
      have BQ := Lib.hid (World.below_drewN (Below.refl w3.heap.size w3) nq)
      obtain ⟨w4, hw4⟩ : ∃ W, W = w3.drewN nq := ⟨_, rfl⟩
      rw [← hw4] at BQ ⊢
      have B4 := Lib.hid (onward BQ.out B3.out)
      have L4 := Lib.hid (L3.out.below BQ.out)
      have hz1 := stays BQ.out hy1
      clear hw4 BQ hy0 hy1 k0 k1 L3 B3
      go_wp2_with fail
      go_loopw [11] (fun av wr' => ∃ q : Nat, k ≤ q ∧ q ≤ q0 ∧ av = .int .i64 q ∧ wr' = w4) (fun av _ => q0 - (intOf av).toNat)
      case atStart => exact ⟨k, Nat.le_refl _, hkq, rfl, rfl⟩
      case round =>
        obtain ⟨q, hq1, hq2, rfl, hwr⟩ := hrel
        have hwr' := hwr.symm
        subst hwr'
        clear hwr
        have hqz : (q : Int) < (ls.length : Int) := by omega
        have hcq := left_at L4.out (i := q) (by omega)
        by_cases hqq : q < q0
        · rw [hzero.out q hq1 hqq] at hcq
          go_wp2_with fail
          go_roundw
          case rel => exact ⟨q + 1, by omega, by omega, by go_num, by trivial⟩
          case measure => simp [intOf]; omega
        · obtain rfl : q = q0 := by omega
          rw [HXX.out] at hcq
          simp only at hcq
          have hne0 : (xu == 0) = false := by rw [beq_eq_false_iff_ne]; omega
          have hwn : IntKind.i64.wrap (- -(min R xu)) = min R xu := by rw [Int.neg_neg]; exact IntWalk.i64_in _ (by omega)
          have hwn2 : IntKind.i64.wrap (min R xu) = min R xu := IntWalk.i64_in _ (by omega)
          have hgt : ¬ min R xu > xu := by omega
          have hge : ¬ (q : Int) ≥ (ls.length : Int) := by omega
          have IE : Hid (dl.drop (i + 1) = drawL u (R - min R xu) (ls.drop (q + 1)) ∧ drawR R0 ls = drawR (R - min R xu) (ls.drop (q + 1))) := by
            have h6 := HX6.out
            have h7 := HX7.out
            rw [List.drop_drop, show k + (j + 1) = q + 1 from by have := HQ0.out; omega] at h6 h7
            exact ⟨h6, by rw [HI.out.2]; exact h7⟩
          by_cases hi1 : i + 1 < dl.length
          · have hlt1 : (i : Int) < (dl.length : Int) - 1 := by omega
            have hmx : min R xu = xu := HX8.out (fun h => by
              have := congrArg List.length h
              rw [List.length_drop] at this
              simp at this
              omega)
            have hnx : (min R xu != xu) = false := by rw [hmx]; simp
            go_upto_region 18 with fail
            go_quiet (fail)
            have BQ := Lib.hid (World.below_drewN (Below.refl w4.heap.size w4) nq)
            obtain ⟨w5, hw5⟩ : ∃ W, W = w4.drewN nq := ⟨_, rfl⟩
            rw [← hw5] at BQ ⊢
            have B5 := Lib.hid (onward BQ.out B4.out)
            clear hw5 BQ
            go_wp2_with fail
            go_roundw
            case rel => exact ⟨i + 1, q + 1, R - min R xu, by omega, by omega, by omega, by omega, by go_num, by go_num, by congr 1; omega, IE.out, B5.out⟩
            case measure => simp [intOf]; omega
          · have hlt1 : ¬ (i : Int) < (dl.length : Int) - 1 := by omega
            go_upto_region 18 with fail
            go_quiet (fail)
            have BQ := Lib.hid (World.below_drewN (Below.refl w4.heap.size w4) nq)
            obtain ⟨w5, hw5⟩ : ∃ W, W = w4.drewN nq := ⟨_, rfl⟩
            rw [← hw5] at BQ ⊢
            have B5 := Lib.hid (onward BQ.out B4.out)
            clear hw5 BQ
            go_wp2_with fail
            go_roundw
            case rel => exact ⟨i + 1, q + 1, R - min R xu, by omega, by omega, by omega, by omega, by go_num, by go_num, by congr 1; omega, IE.out, B5.out⟩
            case measure => simp [intOf]; omega
    · obtain rfl : i = dl.length := by omega
      have dk0 : decide ((dl.length : Int) < (dl.length : Int)) = false := decide_eq_false (by omega)
      have hdn := HI.out.1
      rw [List.drop_length] at hdn
      have hrR : rs = R := by
        have h1 := drawR_nil u (ls.drop k) R hdn.symm
        rw [HRS.out, HI.out.2, h1]
      have hDA := DA.out
      have hw1 : IntKind.i64.wrap (R0 - R + rs) = R0 := by rw [hrR, show R0 - R + R = R0 from by omega]; exact IntWalk.i64_in _ (by omega)
      have hmx : max 0 n = R0 := HRn.out.symm
      have hrs0 : rs ≥ 0 := DP.out
      have HRR : Hid (rs = R) := hrR
      clear hdn HI hrR
      by_cases hz0 : rs = 0
      · have hzb : (rs == 0) = true := by rw [beq_iff_eq]; exact hz0
        clear hz0 hDA
        go_wp2_with fail
        refine (goesP_any wr (HE.out.below (onward BR.out B2.out))).mono ?_
        rintro e w4 ⟨rfl, hb⟩
        have B4 := Lib.hid (onward hb (onward BR.out B2.out))
        clear hb
        go_wp2_with fail
        go_ret
        exact ⟨rfl, B4.out⟩
      · have hzb : (rs == 0) = false := by rw [beq_eq_false_iff_ne]; exact hz0
        have heq : R0 - R = usumP ls := by have := HRR.out; omega
        have TX := Lib.hid (totalP_any _ ls wr (L2.out.below BR.out) LM.out (by omega))
        rw [← heq] at TX
        clear heq hDA hz0
        go_wp2_with fail
        refine TX.out.mono ?_
        rintro e w4 ⟨rfl, hb⟩
        have B4 := Lib.hid (onward hb (onward BR.out B2.out))
        clear hb TX
        go_wp2_with fail
        refine (goesP_any w4 (HE.out.below B4.out)).mono ?_
        rintro e w5 ⟨rfl, hb⟩
        have B5 := Lib.hid (onward hb B4.out)
        clear hb
        go_wp2_with fail
        go_ret
        exact ⟨rfl, B5.out⟩
end Go.Proofs.YtcaihncnmjegoaaGreatDoor

