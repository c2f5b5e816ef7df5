/- The walks of render's reader: next (a line that begins so), must, month. -/
import Derived.Test.YtmppkhjjlgngkaaGreatDoorRnF
namespace Go.Proofs.YtmppkhjjlgngkaaGreatDoor
open Go.RowKit Civ Ren Go.Shelf
set_option linter.unusedVariables false
set_option linter.unusedSimpArgs false
theorem kept_one {w w2 : World} {r : Nat} (hb : Below w.heap.size w w2) (u : Value) : Kept (· = r) w (w2.setCell ⟨r, 0, none⟩ u) := (Kept.of_below hb _).trans (Kept.setCell _ _ _ rfl)
theorem rdr_next {w w2 : World} {B r g o : Nat} {a : Option Addr} {c c' : Nat} {lv : Value} {l : List UInt8} {ls : List (List UInt8)} (hB : B ≤ r) (hb : Below w.heap.size w w2) (h1 : w.heap[r]? = some (.cells #[lv] 63 (0, 0))) (hc : ls.length ≤ c')
    (hs : ∀ i, (h : i < (l :: ls).length) → ∃ g o', (some ⟨g, o', none⟩ : Option Addr) = a ∧ B ≤ g ∧ g ≠ r ∧ w.cell? ⟨g, o' + i, none⟩ = some (.string ⟨(l :: ls)[i].toArray⟩)) (a' : Option Addr) (hob : ∀ k, (Value.slice a' ls.length c').ownBlock = some k → k < r) (ha : ls = [] ∨ ∃ g o', a = some ⟨g, o', none⟩ ∧ a' = some ⟨g, o' + 1, none⟩) :
    RdrAt (w2.setCell ⟨r, 0, none⟩ (.slice a' ls.length c')) B r ls := by
  have hk := kept_one (r := r) hb (.slice a' ls.length c')
  refine ⟨⟨.slice a' ls.length c', ?_, ⟨_, _, rfl, hc, fun i hi => ?_⟩, hob⟩, hB⟩
  · have := set_block (j := 0) (u := .slice a' ls.length c') (stays_block hb h1)
    exact this
  · rcases ha with rfl | ⟨g, o', rfl, rfl⟩
    · simp at hi
    · obtain ⟨g2, o2, e, h5, h6, h7⟩ := hs (i + 1) (by simp; omega)
      injection e with e
      injection e with e1 e2 _
      subst e1 e2
      refine ⟨g2, o2 + 1, rfl, h5, h6, ?_⟩
      rw [Nat.add_assoc, Nat.add_comm 1 i]
      exact hk.cell h7 h6
set_option maxHeartbeats 2000000 in
set_option maxRecDepth 100000 in
theorem next_yes (word : List UInt8) (ls ws r' : List (List UInt8)) (B r : Nat) (w : World) (hE : EnvR w) (hR : RdrAt w B r ls) (hS : Small ls) (hw : word.length ≤ 100) (h : nextS word ls = some (ws, r')) : Calls Tryz.prog 33 #[.pointer (some ⟨r, 0, none⟩), .string ⟨word.toArray⟩] w fun e w' => ∃ v, e = .returned (.tuple #[v, .bool true]) ∧ StrsAt w' B r v ws ∧ RdrAt w' B r r' ∧ Kept (· = r) w w' := by
  have hlt := hR.lt
  obtain ⟨⟨lv, h1, ⟨a, c, rfl, hc, hs⟩, hob⟩, h3⟩ := hR
  have hcell := cell_of_row (i := 0) h1
  simp only [List.getElem?_toArray, List.getElem?_cons_zero] at hcell
  cases ls with
  | nil => cases h
  | cons l ls =>
    unfold nextS at h
    simp only at h
    split at h
    case isFalse => cases h
    rename_i hp
    injection h with h
    injection h with h4 h5
    subst h4 h5
    have hll := hS l (by simp)
    obtain ⟨g, o, rfl, -, -, hl⟩ := hs 0 (by simp)
    rw [Nat.add_zero] at hl
    simp only [List.getElem_cons_zero] at hl
    have A := baApp word [32]
    have L : ¬ 9223372036854775807 < word.length + 1 := by omega
    have hne : (((l :: ls).length : Nat) : Int) = ls.length + 1 := by simp
    have HP := Lib.hid (pre_any l (word ++ [32]) w)
    rw [hp] at HP
    have HC : Hid (∀ (w2 : World) (a' : Option Addr) (c' : Nat), Below w.heap.size w w2 → ls.length ≤ c' → (∃ o', a' = some ⟨g, o', none⟩) → (ls = [] ∨ a' = some ⟨g, o + 1, none⟩) → RdrAt (w2.setCell ⟨r, 0, none⟩ (.slice a' ls.length c')) B r ls) := fun w2 a' c' hb hc' ho ha => rdr_next (g := 0) (o := 0) (c := 0) (l := l) (a := some ⟨g, o, none⟩) h3 hb h1 hc' (fun i hi => by
      obtain ⟨g2, o2, e, k⟩ := hs i hi
      exact ⟨g2, o2, e.symm, k⟩) a' (by obtain ⟨o', rfl⟩ := ho; exact fun k hk => hob k hk) (ha.imp id fun e => ⟨g, o, rfl, e⟩)
    have HE := Lib.hid hE
    have H1 := Lib.hid h1
    have hB : B ≤ w.heap.size := by omega
    have hcc : ls.length + 1 ≤ c := by simpa using hc
    clear hs hp hS hE h1 hc hob
    go_enter Tryz.func33, Tryz.ntmps33
    go_wp2_with fail
    refine HP.out.mono ?_
    rintro e w2 ⟨rfl, rfl⟩
    go_wp2_with fail
    refine (split_any 32 l B r _ HE.out hll hB hlt).mono ?_
    rintro e w2 ⟨v2, rfl, hv2, hb2⟩
    have B2 := Lib.hid hb2
    have V2 := Lib.hid hv2
    have hc2 := stays hb2 hcell
    have hf2 : w2.frozen? ⟨r, 0, none⟩ = false := free_of_row (stays_block hb2 H1.out)
    clear hb2 hv2 HP hl hcell
    by_cases hc1 : c = 1
    · subst hc1
      obtain rfl : ls = [] := List.length_eq_zero_iff.1 (by omega)
      go_wp2_with fail
      exact bodyPost_ret (v := .tuple #[v2, .bool true]) (by simp [results, Tryz.results33, go_sem]) rfl ⟨v2, rfl, V2.out.step (Kept.setCell (S := (· = r)) _ _ _ rfl) (fun k _ hk _ => hk), HC.out w2 _ _ B2.out (Nat.zero_le _) ⟨_, rfl⟩ (by first | exact .inl rfl | exact .inl trivial), kept_one B2.out _⟩
    · have hc0 : ¬ c - 1 = 0 := by omega
      go_wp2_with fail
      exact bodyPost_ret (v := .tuple #[v2, .bool true]) (by simp [results, Tryz.results33, go_sem]) rfl ⟨v2, rfl, V2.out.step (Kept.setCell (S := (· = r)) _ _ _ rfl) (fun k _ hk _ => hk), HC.out w2 _ _ B2.out (by omega) ⟨_, rfl⟩ (.inr rfl), kept_one B2.out _⟩
theorem next_cases (word : List UInt8) (ls : List (List UInt8)) : nextS word ls = none ∨ ∃ ws r', nextS word ls = some (ws, r') := by
  cases h : nextS word ls with
  | none => exact .inl rfl
  | some x => exact .inr ⟨x.1, x.2, rfl⟩
/-- what a reader's method has done -/
def MustEnd (word : List UInt8) (ls : List (List UInt8)) (B r : Nat) (w : World) (e : Ending) (w' : World) : Prop := Kept (· = r) w w' ∧ match mustS word ls with
  | none => e = .panicked thrown
  | some (n, r') => e = .returned (.int .i64 n) ∧ RdrAt w' B r r' ∧ Small r'
theorem kept_below {w w2 w3 : World} {r : Nat} (h : Kept (· = r) w w2) (hb : Below w2.heap.size w2 w3) : Kept (· = r) w w3 := h.trans (Kept.of_below hb _)
theorem EnvR.kept {w w' : World} {B r : Nat} (h : EnvR w) (hB : Below B w w') (hB2 : w.heap.size ≤ B) : EnvR w' := h.below (hB.mono hB2)
set_option maxHeartbeats 2000000 in
set_option maxRecDepth 100000 in
theorem must_any (word : List UInt8) (ls : List (List UInt8)) (B r : Nat) (w : World) (HE : ∀ W, Kept (· = r) w W → EnvR W) (hR : RdrAt w B r ls) (hS : Small ls) (hw : word.length ≤ 100) : Calls Tryz.prog 31 #[.pointer (some ⟨r, 0, none⟩), .string ⟨word.toArray⟩] w (MustEnd word ls B r w) := by
  rcases next_cases word ls with h | ⟨ws, r', h⟩
  · have hm : mustS word ls = none := by unfold mustS; rw [h]
    have hN := Lib.hid (next_no word ls B r w hR hw h)
    unfold MustEnd
    rw [hm]
    clear h hm
    go_enter Tryz.func31, Tryz.ntmps31
    go_wp2_with fail
    refine hN.out.mono ?_
    rintro e w2 ⟨rfl, rfl⟩
    go_wp2_with fail
    exact ⟨rfl, Kept.refl _ _, rfl⟩
  · have hsm := next_small h hS
    have hN := Lib.hid (next_yes word ls ws r' B r w (HE w (Kept.refl _ _)) hR hS hw h)
    have HE' := Lib.hid HE
    cases hn : numS ws 1 with
    | none =>
      have hm : mustS word ls = none := by unfold mustS; rw [h]; simp only; rw [hn]
      unfold MustEnd
      rw [hm]
      clear h hm HE
      go_enter Tryz.func31, Tryz.ntmps31
      go_wp2_with fail
      refine hN.out.mono ?_
      rintro e w2 ⟨v, rfl, hv, hr, hk⟩
      have hP := Lib.hid (number_no v ws 1 B r w2 (HE'.out w2 hk).env hv hsm.1 hn)
      have HK := Lib.hid hk
      clear hv hr hk
      go_wp2_with fail
      refine hP.out.mono ?_
      rintro e w3 ⟨rfl, hb⟩
      have HK3 := Lib.hid (kept_below HK.out hb)
      clear hb
      go_wp2_with fail
      exact ⟨rfl, HK3.out, rfl⟩
    | some n =>
      have hm : mustS word ls = some (n, r') := by unfold mustS; rw [h]; simp only; rw [hn]
      unfold MustEnd
      rw [hm]
      clear h hm HE
      go_enter Tryz.func31, Tryz.ntmps31
      go_wp2_with fail
      refine hN.out.mono ?_
      rintro e w2 ⟨v, rfl, hv, hr, hk⟩
      have hP := Lib.hid (number_ok v ws 1 n B r w2 (HE'.out w2 hk).env hv hsm.1 hn)
      have HK := Lib.hid hk
      have HR := Lib.hid hr
      have HM := Lib.hid hsm.2
      clear hv hr hk hsm
      go_wp2_with fail
      refine hP.out.mono ?_
      rintro e w3 ⟨rfl, hb⟩
      have HK3 := Lib.hid (kept_below HK.out hb)
      have HR3 := Lib.hid (HR.out.below hb)
      clear hb
      go_wp2_with fail
      go_ret
      exact ⟨HK3.out, rfl, HR3.out, HM.out⟩
def MonthEnd (ls : List (List UInt8)) (B r : Nat) (w : World) (e : Ending) (w' : World) : Prop := Kept (· = r) w w' ∧ match monthS ls with
  | none => e = .panicked thrown
  | some (n, r') => e = .returned (.int .i64 n) ∧ RdrAt w' B r r' ∧ Small r'
theorem parse_end {s : List UInt8} {w w' : World} {e : Ending} (h : ParseEnd ⟨s.toArray⟩ w e w') : Below w.heap.size w w' ∧ ((∃ y m d, Vld y m d ∧ dateS s = some (y, m, d) ∧ e = .returned (.tuple #[.agg #[.int .i64 y, .int .i64 m, .int .i64 d], .int .i64 0])) ∨ (dateS s = none ∧ e = .returned (.tuple #[.agg #[.int .i64 0, .int .i64 0, .int .i64 0], .int .i64 21]))) := by
  obtain ⟨hb, ⟨y, m, d, h1, h2, h3⟩ | ⟨h1, h2⟩⟩ := h
  · exact ⟨hb, .inl ⟨y, m, d, h1, date_some h1 h2, h3⟩⟩
  · exact ⟨hb, .inr ⟨date_none h1, h2⟩⟩
set_option maxHeartbeats 2000000 in
set_option maxRecDepth 100000 in
theorem month_rd (ls : List (List UInt8)) (B r : Nat) (w : World) (HE : ∀ W, Kept (· = r) w W → EnvR W) (hR : RdrAt w B r ls) (hS : Small ls) : Calls Tryz.prog 32 #[.pointer (some ⟨r, 0, none⟩)] w (MonthEnd ls B r w) := by
  rcases next_cases wMonth ls with h | ⟨ws, r', h⟩
  · have hm : monthS ls = none := by unfold monthS; rw [h]
    have hN := Lib.hid (next_no wMonth ls B r w hR (by decide) h)
    unfold MonthEnd
    rw [hm]
    clear h hm
    go_enter Tryz.func32, Tryz.ntmps32
    go_wp2_with fail
    refine hN.out.mono ?_
    rintro e w2 ⟨rfl, rfl⟩
    go_wp2_with fail
    exact ⟨rfl, Kept.refl _ _, rfl⟩
  · have hsm := next_small h hS
    have hN := Lib.hid (next_yes wMonth ls ws r' B r w (HE w (Kept.refl _ _)) hR hS (by decide) h)
    have HE' := Lib.hid HE
    by_cases hlen : ws.length = 2
    case neg =>
      have hm : monthS ls = none := by unfold monthS; rw [h]; simp only; rw [if_neg hlen]
      have hle : ((ws.length : Int) == 2) = false := by simp; omega
      unfold MonthEnd
      rw [hm]
      clear h hm HE
      go_enter Tryz.func32, Tryz.ntmps32
      go_wp2_with fail
      refine hN.out.mono ?_
      rintro e w2 ⟨v, rfl, ⟨a, c, rfl, hc, hs⟩, hr, hk⟩
      have HK := Lib.hid hk
      clear hs hr hk
      have hne : ¬ (ws.length : Int) = 2 := by omega
      go_wp2_with fail
      exact ⟨rfl, HK.out, rfl⟩
    obtain ⟨x0, x, rfl⟩ : ∃ x0 x, ws = [x0, x] := by
      match ws, hlen with
      | [a, b], _ => exact ⟨a, b, rfl⟩
    have hxl := hsm.1 x (by simp)
    have A := baApp x [45, 48, 49]
    have L : ¬ 9223372036854775807 < x.length + 3 := by omega
    cases hd : dateS (x ++ [45, 48, 49]) with
    | none =>
      have hm : monthS ls = none := by unfold monthS; rw [h]; simp only; rw [if_pos hlen]; show (match dateS (x ++ [45, 48, 49]) with | none => none | some (y, m, d) => some (12 * y + m - 1, r')) = none; rw [hd]
      unfold MonthEnd
      rw [hm]
      have HD := Lib.hid hd
      clear h hm HE hd
      go_enter Tryz.func32, Tryz.ntmps32
      go_wp2_with fail
      refine hN.out.mono ?_
      rintro e w2 ⟨v, rfl, ⟨a, c, rfl, hc, hs⟩, hr, hk⟩
      obtain ⟨g, o, rfl, -, -, hcell⟩ := hs 1 (by simp)
      simp only [List.getElem_cons_succ, List.getElem_cons_zero] at hcell
      have hP := Lib.hid (parse_any ⟨(x ++ [45, 48, 49]).toArray⟩ w2 (HE'.out w2 hk).env)
      have HK := Lib.hid hk
      clear hs hr hk
      go_wp2_with fail
      refine hP.out.mono ?_
      intro e w3 he
      obtain ⟨hb, ⟨y, m, d, hv, hd, rfl⟩ | ⟨-, rfl⟩⟩ := parse_end he
      · rw [HD.out] at hd
        cases hd
      · have HK3 := Lib.hid ((kept_below HK.out hb).trans (Kept.alloc _ w3 (.cells #[.int .i64 0, .int .i64 0, .int .i64 0] 33)))
        clear hb he
        go_wp2_with fail
        exact ⟨rfl, HK3.out, rfl⟩
    | some ymd =>
      obtain ⟨y, m, d⟩ := ymd
      have hm : monthS ls = some (12 * y + m - 1, r') := by unfold monthS; rw [h]; simp only; rw [if_pos hlen]; show (match dateS (x ++ [45, 48, 49]) with | none => none | some (y, m, d) => some (12 * y + m - 1, r')) = _; rw [hd]
      unfold MonthEnd
      rw [hm]
      have HD := Lib.hid hd
      clear h hm HE hd
      go_enter Tryz.func32, Tryz.ntmps32
      go_wp2_with fail
      refine hN.out.mono ?_
      rintro e w2 ⟨v, rfl, ⟨a, c, rfl, hc, hs⟩, hr, hk⟩
      obtain ⟨g, o, rfl, -, -, hcell⟩ := hs 1 (by simp)
      simp only [List.getElem_cons_succ, List.getElem_cons_zero] at hcell
      have hP := Lib.hid (parse_any ⟨(x ++ [45, 48, 49]).toArray⟩ w2 (HE'.out w2 hk).env)
      have HK := Lib.hid hk
      have HR := Lib.hid hr
      have HM := Lib.hid hsm.2
      clear hs hr hk hsm
      go_wp2_with fail
      refine hP.out.mono ?_
      intro e w3 he
      obtain ⟨hb, ⟨y', m', d', hv, hd, rfl⟩ | ⟨hd, rfl⟩⟩ := parse_end he
      · rw [HD.out] at hd
        injection hd with hd
        injection hd with e1 hd
        injection hd with e2 e3
        subst e1 e2 e3
        have ba := below_alloc w3 (.cells #[.int .i64 y, .int .i64 m, .int .i64 d] 33)
        have HK3 := Lib.hid (kept_below (kept_below HK.out hb) ba)
        have HR3 := Lib.hid ((HR.out.below hb).below ba)
        have hvb : vldB y m d = true := vldB_t.2 hv
        have HMo := Lib.hid (month_any y m d _ (HE'.out _ HK3.out).env.lens)
        rw [hvb, if_pos rfl] at HMo
        clear hb he ba hvb
        go_wp2_with fail
        refine HMo.out.mono ?_
        rintro e w4 ⟨rfl, hb⟩
        have HK4 := Lib.hid (kept_below HK3.out hb)
        have HR4 := Lib.hid (HR3.out.below hb)
        clear hb
        go_wp2_with fail
        go_ret
        exact ⟨HK4.out, rfl, HR4.out, HM.out⟩
      · rw [HD.out] at hd
        cases hd
end Go.Proofs.YtmppkhjjlgngkaaGreatDoor
