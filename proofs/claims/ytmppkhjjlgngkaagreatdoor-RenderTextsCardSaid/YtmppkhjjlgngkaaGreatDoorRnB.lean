/- Plain laws of an invoice's text: it comes back, and only it. No program. -/
import Derived.Test.YtmppkhjjlgngkaaGreatDoorRnA
namespace Go.Proofs.YtmppkhjjlgngkaaGreatDoor.Ren
open Go Go.Lib Civ
open Acct (inInt parse_itoa parseI_bd itoa_ne itoa_char itoa_inj)
set_option linter.unusedVariables false
theorem itoa_no (n : Int) : (32 : UInt8) ∉ itoa n ∧ (10 : UInt8) ∉ itoa n := by
  constructor <;> intro h <;> have := itoa_char n _ h <;> revert this <;> decide
theorem dgt_no (n : Nat) : (32 : UInt8) ≠ dgt n ∧ (10 : UInt8) ≠ dgt n := by
  have h := dgt_val n
  constructor
  · intro e; rw [← e] at h; have : (32 : UInt8).toNat = 32 := rfl; omega
  · intro e; rw [← e] at h; have : (10 : UInt8).toNat = 10 := rfl; omega
theorem txt_no (y m d : Int) : (32 : UInt8) ∉ txtL y m d ∧ (10 : UInt8) ∉ txtL y m d := by
  unfold txtL dg4 dg2
  simp only [List.mem_append, List.mem_cons, List.not_mem_nil, or_false, not_or]
  have a := fun n => (dgt_no n).1
  have b := fun n => (dgt_no n).2
  exact ⟨⟨⟨⟨⟨⟨a _, a _, a _, a _⟩, by decide⟩, ⟨a _, a _⟩⟩, by decide⟩, ⟨a _, a _⟩⟩, ⟨⟨⟨⟨⟨b _, b _, b _, b _⟩, by decide⟩, ⟨b _, b _⟩⟩, by decide⟩, ⟨b _, b _⟩⟩⟩
theorem mon_no (m : Int) : (32 : UInt8) ∉ monL m ∧ (10 : UInt8) ∉ monL m :=
  ⟨fun h => (txt_no _ _ _).1 (List.mem_of_mem_take h), fun h => (txt_no _ _ _).2 (List.mem_of_mem_take h)⟩
theorem dv_dgt (n : Nat) : (dgt n).toNat - 48 = n % 10 := by rw [dgt_val]; omega
theorem dv_dg2 {n : Nat} (h : n < 100) : Acct.dvL (dg2 n) = n := by
  unfold Acct.dvL dg2
  simp only [List.foldl_cons, List.foldl_nil, dv_dgt]
  omega
theorem dv_dg4 {n : Nat} (h : n < 10000) : Acct.dvL (dg4 n) = n := by
  unfold Acct.dvL dg4
  simp only [List.foldl_cons, List.foldl_nil, dv_dgt]
  omega
theorem date_some {s : Bs} {y m d : Int} (hv : Vld y m d) (h : s = txtL y m d) : dateS s = some (y, m, d) := by
  subst h
  have k := hv.d31
  have hv' := hv
  obtain ⟨h1, h2, h3, h4, h5, h6⟩ := hv
  unfold dateS
  rw [txt_take, txt_mid, txt_end, dv_dg4 (by omega), dv_dg2 (by omega), dv_dg2 (by omega), Int.toNat_of_nonneg (by omega), Int.toNat_of_nonneg (by omega), Int.toNat_of_nonneg (by omega), if_pos ⟨rfl, hv'⟩]
theorem date_none {s : Bs} (h : ∀ y m d, Vld y m d → s ≠ txtL y m d) : dateS s = none := by
  unfold dateS
  rw [if_neg]
  rintro ⟨h1, h2⟩
  exact h _ _ _ h2 h1.symm
theorem vld_first {m : Int} (h1 : 12 ≤ m) (h2 : m < 120000) : Vld (m / 12) (m % 12 + 1) 1 := by
  have e : 12 * (m / 12) + (m % 12 + 1) - 1 = m := by omega
  have := lenM_bd m h1 h2
  refine ⟨by omega, by omega, by omega, by omega, by omega, ?_⟩
  rw [e]
  omega
theorem mon_date {m : Int} (h1 : 12 ≤ m) (h2 : m < 120000) : dateS (monL m ++ [45, 48, 49]) = some (m / 12, m % 12 + 1, 1) := by
  refine date_some (vld_first h1 h2) ?_
  unfold monL
  have h := List.take_append_drop 7 (txtL (m / 12) (m % 12 + 1) 1)
  have e : (txtL (m / 12) (m % 12 + 1) 1).drop 7 = [45, 48, 49] := by
    unfold txtL dg4 dg2
    simp only [List.cons_append, List.nil_append, List.drop_succ_cons, List.drop_zero]
    decide
  rw [e] at h
  exact h
theorem pre_hit (w r : Bs) : (w ++ [32]).isPrefixOf (w ++ 32 :: r) = true := by
  rw [List.isPrefixOf_iff_prefix]
  exact ⟨r, by simp⟩
theorem next_hit (w x : Bs) (ws r : List Bs) (h : ∀ y ∈ w :: x :: ws, (32 : UInt8) ∉ y) : nextS w (sp (w :: x :: ws) :: r) = some (w :: x :: ws, r) := by
  show (if (w ++ [32]).isPrefixOf (sp (w :: x :: ws)) = true then some (split (sp (w :: x :: ws)) [32], r) else none) = _
  rw [if_pos (by rw [sp]; exact pre_hit _ _), split_sp _ (by simp) h]
theorem num_at (l : List Bs) (i : Nat) (n : Int) (h : l[i]? = some (itoa n)) (hn : inInt n) : numS l i = some n := by
  unfold numS
  rw [h]
  simp only
  rw [parse_itoa n hn]
theorem must_hit (w : Bs) (n : Int) (r : List Bs) (hw : (32 : UInt8) ∉ w) (hn : inInt n) : mustS w (sp [w, itoa n] :: r) = some (n, r) := by
  unfold mustS
  rw [next_hit w (itoa n) [] r (by
    intro y hy
    simp at hy
    rcases hy with rfl | rfl
    · exact hw
    · exact (itoa_no n).1)]
  simp only
  rw [num_at _ 1 n rfl hn]
theorem u32_int {n : Int} (h : u32 n) : inInt n := by unfold u32 at h; unfold inInt; omega
theorem small_u32 {n : Int} (h : u32 n) : smallS n = some n := by unfold u32 at h; unfold smallS; rw [if_neg (by omega)]
theorem line_no (l : Ln) : ∀ x ∈ lineW l, (32 : UInt8) ∉ x ∧ (10 : UInt8) ∉ x := by
  unfold lineW
  intro x hx
  split at hx
  · simp only [List.mem_cons, List.not_mem_nil, or_false] at hx
    rcases hx with rfl | rfl | rfl | rfl | rfl | rfl | rfl <;> first | exact itoa_no _ | decide
  · split at hx
    · simp only [List.mem_cons, List.not_mem_nil, or_false] at hx
      rcases hx with rfl | rfl | rfl <;> first | exact itoa_no _ | decide
    · simp only [List.mem_cons, List.not_mem_nil, or_false] at hx
      rcases hx with rfl | rfl | rfl | rfl | rfl | rfl | rfl <;> first | exact itoa_no _ | decide
theorem lines_one (l : Ln) (r : List Bs) (hok : l.ok) (hm : lnB l = true) : linesS (sp (lineW l) :: r) = (linesS r).map fun y => (l :: y.1, y.2) := by
  obtain ⟨-, hp, hd, hu, ha⟩ := hok
  unfold lnB at hm
  have hm := of_decide_eq_true hm
  obtain ⟨m1, m2, m3, h | h | h⟩ := hm
  · obtain ⟨hk, hu0⟩ := h
    have hs := split_sp (lineW l) (by unfold lineW; rw [if_pos hk]; simp) (fun x hx => (line_no l x hx).1)
    rw [linesS, if_pos (by unfold lineW; rw [if_pos hk, sp]; exact pre_hit _ _), hs]
    have hb : baseS (lineW l) = some l := by
      unfold lineW baseS
      rw [if_pos hk, num_at _ 2 l.p rfl (u32_int hp), Option.bind_some, small_u32 hp, Option.bind_some, num_at _ 4 l.d rfl hd, Option.bind_some, num_at _ 6 l.a rfl ha, Option.bind_some, ← hk, ← hu0]
    rw [hb, Option.bind_some]
  · obtain ⟨hk, hp0, ha0, hd0⟩ := h
    have hk1 : ¬ l.k = 1 := by omega
    have hs := split_sp (lineW l) (by unfold lineW; rw [if_neg hk1, if_pos hk]; simp) (fun x hx => (line_no l x hx).1)
    have hw : lineW l = [wPack, wUnits, itoa l.u] := by unfold lineW; rw [if_neg hk1, if_pos hk]
    rw [linesS, if_neg (by rw [hw]; simp [sp, List.isPrefixOf]), if_pos (by rw [hw, sp]; exact pre_hit _ _), hs]
    have hb : packS (lineW l) = some l := by
      rw [hw]
      unfold packS
      rw [num_at _ 2 l.u rfl hu, Option.bind_some]
      cases l
      simp_all
    rw [hb, Option.bind_some]
  · obtain ⟨hk, hd0⟩ := h
    have hk1 : ¬ l.k = 1 := by omega
    have hk2 : ¬ l.k = 2 := by omega
    have hs := split_sp (lineW l) (by unfold lineW; rw [if_neg hk1, if_neg hk2]; simp) (fun x hx => (line_no l x hx).1)
    have hw : lineW l = [wOver, wPlan, itoa l.p, wUnits, itoa l.u, wAmount, itoa l.a] := by unfold lineW; rw [if_neg hk1, if_neg hk2]
    rw [linesS, if_neg (by rw [hw]; simp [sp, List.isPrefixOf]), if_neg (by rw [hw]; simp [sp, List.isPrefixOf]), if_pos (by rw [hw, sp]; exact pre_hit _ _), hs]
    have hb : overS (lineW l) = some l := by
      rw [hw]
      unfold overS
      rw [num_at _ 2 l.p rfl (u32_int hp), Option.bind_some, small_u32 hp, Option.bind_some, num_at _ 4 l.u rfl hu, Option.bind_some, num_at _ 6 l.a rfl ha, Option.bind_some]
      cases l
      simp_all
    rw [hb, Option.bind_some]
theorem lines_back (foot : List Bs) (hf : linesS foot = some ([], foot)) : ∀ ls : List Ln, (∀ l ∈ ls, l.ok) → ls.all lnB = true → linesS (ls.map (fun l => sp (lineW l)) ++ foot) = some (ls, foot)
  | [], _, _ => hf
  | l :: ls, h1, h2 => by
    rw [List.all_cons, Bool.and_eq_true] at h2
    rw [List.map_cons, List.cons_append, lines_one l _ (h1 l (by simp)) h2.1, lines_back foot hf ls (fun x hx => h1 x (List.mem_cons_of_mem _ hx)) h2.2]
    rfl
theorem rows_no (v : Inv) : ∀ ws ∈ rowsW v, (10 : UInt8) ∉ sp ws := by
  intro ws hws
  refine sp_no ws fun x hx => ?_
  unfold rowsW at hws
  simp only [List.mem_cons, List.mem_append, List.mem_map] at hws
  rcases hws with rfl | rfl | rfl | ⟨l, -, rfl⟩ | rfl | h
  · simp only [List.mem_cons, List.not_mem_nil, or_false] at hx
    rcases hx with rfl | rfl
    · decide
    · exact (itoa_no _).2
  · simp only [List.mem_cons, List.not_mem_nil, or_false] at hx
    rcases hx with rfl | rfl
    · decide
    · exact (itoa_no _).2
  · simp only [List.mem_cons, List.not_mem_nil, or_false] at hx
    rcases hx with rfl | rfl
    · decide
    · exact (mon_no _).2
  · exact (line_no l x hx).2
  · simp only [List.mem_cons, List.not_mem_nil, or_false] at hx
    rcases hx with rfl | rfl
    · decide
    · exact (itoa_no _).2
  · split at h
    · simp only [List.mem_cons, List.not_mem_nil, or_false] at h
      subst h
      simp only [List.mem_cons, List.not_mem_nil, or_false] at hx
      rcases hx with rfl | rfl
      · decide
      · exact (itoa_no _).2
    · cases h
def footR (v : Inv) : List Bs := sp [wTotal, itoa v.tot] :: (if 0 < v.cr then [sp [wCredited, itoa v.cr]] else []) ++ [[]]
theorem rows_map (v : Inv) : (rowsW v).map sp ++ [[]] = sp [wInvoice, itoa v.no] :: sp [wTenant, itoa v.te] :: sp [wMonth, monL v.mo] :: (v.ls.map (fun l => sp (lineW l)) ++ footR v) := by
  unfold rowsW footR
  split <;> simp [Function.comp_def]
theorem foot_lines (v : Inv) : linesS (footR v) = some ([], footR v) := by
  unfold footR
  rw [List.cons_append, linesS, if_neg (by simp [sp, List.isPrefixOf]), if_neg (by simp [sp, List.isPrefixOf]), if_neg (by simp [sp, List.isPrefixOf])]
/-- an invoice that may be told comes back from its text -/
theorem parse_back (v : Inv) (hok : v.ok) (hm : mayB v = true) : parseS (bodyL v) = some v := by
  obtain ⟨h1, h2, h3, h4, h5, h6⟩ := hok
  unfold mayB at hm
  rw [Bool.and_eq_true] at hm
  obtain ⟨m1, m2⟩ := hm
  obtain ⟨m2, m3, m4, m5, m6, m7, m8⟩ := of_decide_eq_true m2
  have hs : split (bodyL v) [10] = (rowsW v).map sp ++ [[]] := split_lines _ (rows_no v)
  unfold parseS
  rw [hs, rows_map, must_hit _ _ _ (by decide) (u32_int h1), Option.bind_some]
  simp only
  rw [small_u32 h1, Option.bind_some, must_hit _ _ _ (by decide) (u32_int h2), Option.bind_some]
  simp only
  rw [small_u32 h2, Option.bind_some]
  have hmo : monthS (sp [wMonth, monL v.mo] :: (v.ls.map (fun l => sp (lineW l)) ++ footR v)) = some (v.mo, v.ls.map (fun l => sp (lineW l)) ++ footR v) := by
    unfold monthS
    rw [next_hit wMonth (monL v.mo) [] _ (by
      intro y hy
      simp at hy
      rcases hy with rfl | rfl
      · decide
      · exact (mon_no _).1)]
    simp only [List.length_cons, List.length_nil, Nat.zero_add, Nat.reduceAdd, if_true]
    rw [show ([wMonth, monL v.mo].getD 1 [] ++ [45, 48, 49] : Bs) = monL v.mo ++ [45, 48, 49] from rfl, mon_date m4 m5]
    simp only
    congr 2
    omega
  rw [hmo, Option.bind_some]
  simp only
  rw [lines_back (footR v) (foot_lines v) v.ls h6 m1, Option.bind_some]
  simp only
  unfold footR
  rw [List.cons_append, must_hit _ _ _ (by decide) h4, Option.bind_some]
  simp only
  by_cases hc : 0 < v.cr
  · rw [if_pos hc]
    have : credS ([sp [wCredited, itoa v.cr]] ++ [[]]) = some v.cr := by
      unfold credS
      rw [List.singleton_append, next_hit wCredited (itoa v.cr) [] _ (by
        intro y hy
        simp at hy
        rcases hy with rfl | rfl
        · decide
        · exact (itoa_no _).1)]
      exact num_at _ 1 _ rfl h5
    rw [this, Option.bind_some]
  · rw [if_neg hc]
    have : credS ([] ++ [[]]) = some 0 := rfl
    rw [this, Option.bind_some]
    have : v.cr = 0 := by omega
    rw [← this]
theorem body_inj {v w : Inv} (hv : v.ok) (hw : w.ok) (mv : mayB v = true) (mw : mayB w = true) (h : bodyL v = bodyL w) : v = w := by
  have h1 := parse_back v hv mv
  rw [h, parse_back w hw mw] at h1
  injection h1 with h1
  exact h1.symm
theorem body_head (v : Inv) : ∃ r, bodyL v = 105 :: r := ⟨_, by unfold bodyL rowsW; rw [List.flatMap_cons, nl, sp]; rfl⟩
theorem body_ne (v : Inv) : bodyL v ≠ [] := by
  obtain ⟨r, h⟩ := body_head v
  rw [h]
  simp
theorem sp_ne : ∀ ws : List Bs, ws ≠ [] → (∀ x ∈ ws, x ≠ []) → sp ws ≠ []
  | [], h, _ => absurd rfl h
  | [x], _, h => h x (by simp)
  | x :: y :: r, _, h => by rw [sp]; simp
theorem rows_ne (v : Inv) : ∀ ws ∈ rowsW v, sp ws ≠ [] := by
  intro ws hws
  unfold rowsW at hws
  simp only [List.mem_cons, List.mem_append, List.mem_map] at hws
  rcases hws with rfl | rfl | rfl | ⟨l, -, rfl⟩ | rfl | h
  · simp [sp]
  · simp [sp]
  · simp [sp]
  · unfold lineW
    split
    · simp [sp]
    · split <;> simp [sp]
  · simp [sp]
  · split at h
    · simp only [List.mem_cons, List.not_mem_nil, or_false] at h
      subst h
      simp [sp]
    · cases h
theorem split_app_lines (t : Bs) : ∀ rows : List (List Bs), (∀ ws ∈ rows, (10 : UInt8) ∉ sp ws) → split (rows.flatMap nl ++ t) [10] = rows.map sp ++ split t [10]
  | [], _ => rfl
  | ws :: r, h => by
    rw [List.flatMap_cons, nl, List.append_assoc, List.append_assoc, List.singleton_append, split_app 10 _ _ (h ws (by simp)), split_app_lines t r (fun z hz => h z (List.mem_cons_of_mem _ hz))]
    rfl
/-- no text is another with a line's end more -/
theorem body_more (v w : Inv) : bodyL v ≠ bodyL w ++ [10] := by
  intro h
  have h1 : split (bodyL v) [10] = (rowsW v).map sp ++ [[]] := split_lines _ (rows_no v)
  have h2 : split (bodyL w ++ [10]) [10] = (rowsW w).map sp ++ split [10] [10] := split_app_lines _ _ (rows_no w)
  have h3 : split [10] [10] = [[], []] := by
    have := split_app 10 [] [] (by simp)
    rw [split_one 10 [] (by simp)] at this
    exact this
  rw [h, h2, h3] at h1
  have h4 : (rowsW w).map sp ++ [[]] = (rowsW v).map sp := by
    have : ((rowsW w).map sp ++ [[]]) ++ [([] : Bs)] = (rowsW v).map sp ++ [[]] := by rw [← h1]; simp
    exact List.append_cancel_right this
  have h5 : ([] : Bs) ∈ (rowsW v).map sp := by rw [← h4]; simp
  obtain ⟨ws, h6, h7⟩ := List.mem_map.1 h5
  exact rows_ne v ws h6 h7
theorem body_last (v : Inv) : ∃ r, bodyL v = r ++ [10] := by
  unfold bodyL
  have : ∀ rows : List (List Bs), rows ≠ [] → ∃ r, rows.flatMap nl = r ++ [10] := by
    intro rows
    induction rows with
    | nil => exact fun h => absurd rfl h
    | cons a l ih =>
      intro _
      by_cases hl : l = []
      · subst hl; exact ⟨sp a, by simp [nl]⟩
      · obtain ⟨r, hr⟩ := ih hl
        exact ⟨nl a ++ r, by rw [List.flatMap_cons, hr]; simp⟩
  exact this _ (by unfold rowsW; simp)
/-- what is read: the text's own invoice, or none -/
theorem text_is {v : Inv} {s : Bs} (hs : parseS s = some v) (h : textL v = s) : mayB v = true ∧ bodyL v = s := by
  unfold textL at h
  split at h
  · exact ⟨by assumption, h⟩
  · subst h
    rw [parse_nil] at hs
    cases hs
theorem count_rows : ∀ rows : List (List Bs), (∀ ws ∈ rows, (10 : UInt8) ∉ sp ws) → (rows.flatMap nl).count 10 = rows.length
  | [], _ => rfl
  | ws :: r, h => by
    rw [List.flatMap_cons, List.count_append, count_rows r (fun z hz => h z (List.mem_cons_of_mem _ hz)), nl, List.count_append, List.count_eq_zero.2 (h ws (by simp))]
    simp
    omega
theorem count_body (v : Inv) : (bodyL v).count 10 = 4 + v.ls.length + if 0 < v.cr then 1 else 0 := by
  unfold bodyL
  rw [count_rows _ (rows_no v)]
  unfold rowsW
  split <;> simp <;> omega
/-- how long it is -/
theorem itoa_len (n : Int) (h : inInt n) : (itoa n).length ≤ 20 := by
  rcases Acct.itoa_form h with ⟨-, e, h⟩ | ⟨-, e, h⟩
  · rw [e, List.length_cons]; omega
  · rw [e]; omega
theorem mon_len (m : Int) : (monL m).length = 7 := by
  unfold monL
  rw [List.length_take, txtL_length]
  rfl
theorem line_len (l : Ln) (h : l.ok) : (nl (lineW l)).length ≤ 100 := by
  obtain ⟨-, hp, hd, hu, ha⟩ := h
  have h1 := itoa_len _ (u32_int hp)
  have h2 := itoa_len _ hd
  have h3 := itoa_len _ hu
  have h4 := itoa_len _ ha
  unfold nl lineW
  split
  · simp [sp]; omega
  · split
    · simp [sp]; omega
    · simp [sp]; omega
end Go.Proofs.YtmppkhjjlgngkaaGreatDoor.Ren
