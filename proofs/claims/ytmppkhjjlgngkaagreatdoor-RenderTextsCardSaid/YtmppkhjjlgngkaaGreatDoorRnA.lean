/- Plain text of an invoice, and how it is read back. No program. -/
import Derived.Test.YtmppkhjjlgngkaaGreatDoorCivS
import Derived.Test.YtmppkhjjlgngkaaGreatDoorAcP
import Derived.Lib.Join
namespace Go.Proofs.YtmppkhjjlgngkaaGreatDoor.Ren
open Go Go.Lib Civ
open Acct (inInt parse_itoa parseI_bd itoa_ne itoa_char itoa_inj)
set_option linter.unusedVariables false
abbrev Bs := List UInt8
/-! cut at a byte -/
theorem occ_one (c : UInt8) (l : Bs) (j : Nat) : occAt l [c] j = decide (l[j]? = some c) := by
  unfold occAt
  cases hd : l.drop j with
  | nil =>
    have : l.length ≤ j := List.drop_eq_nil_iff.1 hd
    rw [List.getElem?_eq_none this]
    rfl
  | cons x r =>
    have hj : j < l.length := by
      rcases Nat.lt_or_ge j l.length with h | h
      · exact h
      · rw [List.drop_eq_nil_of_le h] at hd; cases hd
    have e : l[j]? = some x := by
      have := congrArg List.head? hd
      rw [List.head?_drop] at this
      simpa using this
    rw [e]
    by_cases hc : x = c
    · subst hc; simp
    · have : (c == x) = false := by simpa using fun h => hc h.symm
      simp [List.isPrefixOf, this, hc]
theorem idx_hit (c : UInt8) (a r : Bs) (h : c ∉ a) : index (a ++ c :: r) [c] = a.length := by
  apply index_first
  · simp
  · rw [occ_one]; simp
  · intro j hj
    rw [occ_one, List.getElem?_append_left hj]
    apply decide_eq_false
    intro e
    exact h (List.mem_of_getElem? e)
theorem idx_miss (c : UInt8) (a : Bs) (h : c ∉ a) : index a [c] = -1 := by
  apply index_none
  intro j hj
  rw [occ_one]
  exact decide_eq_false fun e => h (List.mem_of_getElem? e)
theorem split_one (c : UInt8) (a : Bs) (h : c ∉ a) : split a [c] = [a] := by
  unfold split
  rw [count_miss (idx_miss c a h)]
  rfl
theorem split_app (c : UInt8) (a r : Bs) (h : c ∉ a) : split (a ++ c :: r) [c] = a :: split r [c] := by
  have e := idx_hit c a r h
  unfold split
  have hd : (a ++ c :: r).drop (a.length + ([c] : Bs).length) = r := by
    rw [show a.length + [c].length = (a ++ [c]).length from by simp, show a ++ c :: r = (a ++ [c]) ++ r from by simp, List.drop_left]
  rw [count_hit (by simp) e, hd, Nat.add_comm, splitK, e]
  have hm : ¬ (((a.length : Int)) == -1) = true := fun e => by have := beq_iff_eq.1 e; omega
  rw [if_neg hm, show ((a.length : Int)).toNat = a.length from by omega, hd, Nat.add_zero, List.take_left]
theorem split_ne (c : UInt8) (l : Bs) : split l [c] ≠ [] := by
  unfold split
  cases count l [c] with
  | zero => simp [splitK]
  | succ k => rw [splitK]; split <;> simp
theorem splitK_len (c : UInt8) : ∀ (n : Nat) (s : Bs), s.length ≤ n → (splitK [c] 0 (count s [c]) s).length = count s [c] + 1
  | n, s, hn => by
    by_cases h : index s [c] = -1
    · rw [count_miss h]; rfl
    · have hg := index_ge s [c]
      obtain ⟨i, hi⟩ : ∃ i : Nat, index s [c] = i := ⟨(index s [c]).toNat, by omega⟩
      have hm : ¬ (index s [c] == -1) = true := fun e => h (beq_iff_eq.1 e)
      have hs := drop_shorter (s := s) (sub := [c]) (by simp) hm
      rw [count_hit (by simp) hi, Nat.add_comm, splitK, if_neg hm, List.length_cons]
      have e : (index s [c]).toNat = i := by omega
      rw [e] at hs ⊢
      cases n with
      | zero => omega
      | succ n => rw [splitK_len c n _ (by omega)]
theorem splitK_le (c : UInt8) (m : Nat) : ∀ (k : Nat) (s : Bs), s.length ≤ m → ∀ p ∈ splitK [c] 0 k s, p.length ≤ m
  | 0, s, h, p, hp => by simp [splitK] at hp; subst hp; exact h
  | k + 1, s, h, p, hp => by
    rw [splitK] at hp
    split at hp
    · simp at hp; subst hp; exact h
    · rcases List.mem_cons.1 hp with e | e
      · subst e; rw [List.length_take]; omega
      · exact splitK_le c m k _ (by rw [List.length_drop]; omega) p e
/-! words, and lines of them -/
abbrev wInvoice : List UInt8 := [105, 110, 118, 111, 105, 99, 101]
abbrev wTenant : List UInt8 := [116, 101, 110, 97, 110, 116]
abbrev wMonth : List UInt8 := [109, 111, 110, 116, 104]
abbrev wBase : List UInt8 := [98, 97, 115, 101]
abbrev wPlan : List UInt8 := [112, 108, 97, 110]
abbrev wDays : List UInt8 := [100, 97, 121, 115]
abbrev wAmount : List UInt8 := [97, 109, 111, 117, 110, 116]
abbrev wPack : List UInt8 := [112, 97, 99, 107]
abbrev wUnits : List UInt8 := [117, 110, 105, 116, 115]
abbrev wOver : List UInt8 := [111, 118, 101, 114]
abbrev wTotal : List UInt8 := [116, 111, 116, 97, 108]
abbrev wCredited : List UInt8 := [99, 114, 101, 100, 105, 116, 101, 100]
/-- words, parted by blanks -/
def sp : List Bs → Bs
  | [] => []
  | [x] => x
  | x :: y :: r => x ++ 32 :: sp (y :: r)
theorem join_sp : ∀ xs : List Bs, join xs [32] = sp xs
  | [] => rfl
  | [x] => by rw [join_one]; rfl
  | x :: y :: r => by
    rw [join_cons, sp, ← join_sp (y :: r), join_cons]
    simp [joinTail]
theorem split_sp : ∀ xs : List Bs, xs ≠ [] → (∀ x ∈ xs, (32 : UInt8) ∉ x) → split (sp xs) [32] = xs
  | [], h, _ => absurd rfl h
  | [x], _, h => split_one 32 x (h x (by simp))
  | x :: y :: r, _, h => by
    rw [sp, split_app 32 x _ (h x (by simp)), split_sp (y :: r) (by simp) (fun z hz => h z (List.mem_cons_of_mem _ hz))]
theorem sp_no : ∀ xs : List Bs, (∀ x ∈ xs, (10 : UInt8) ∉ x) → (10 : UInt8) ∉ sp xs
  | [], _ => by simp [sp]
  | [x], h => h x (by simp)
  | x :: y :: r, h => by
    rw [sp]
    have h1 := sp_no (y :: r) (fun z hz => h z (List.mem_cons_of_mem _ hz))
    have h2 := h x (by simp)
    simp [h1, h2]
def nl (ws : List Bs) : Bs := sp ws ++ [10]
theorem split_lines : ∀ rows : List (List Bs), (∀ ws ∈ rows, (10 : UInt8) ∉ sp ws) → split (rows.flatMap nl) [10] = rows.map sp ++ [[]]
  | [], _ => split_one 10 [] (by simp)
  | ws :: r, h => by
    rw [List.flatMap_cons, nl, List.append_assoc, List.singleton_append, split_app 10 _ _ (h ws (by simp)), split_lines r (fun z hz => h z (List.mem_cons_of_mem _ hz))]
    rfl
/-! an invoice -/
structure Ln where
  (k p d u a : Int)
structure Inv where
  (no te mo : Int) (ls : List Ln) (tot cr : Int)
def u32 (n : Int) : Prop := 0 ≤ n ∧ n ≤ 4294967295
def Ln.ok (l : Ln) : Prop := (0 ≤ l.k ∧ l.k ≤ 255) ∧ u32 l.p ∧ inInt l.d ∧ inInt l.u ∧ inInt l.a
def Inv.ok (v : Inv) : Prop := u32 v.no ∧ u32 v.te ∧ inInt v.mo ∧ inInt v.tot ∧ inInt v.cr ∧ ∀ l ∈ v.ls, l.ok
def zeroV : Inv := ⟨0, 0, 0, [], 0, 0⟩
/-- may a line be told? -/
def lnB (l : Ln) : Bool := decide (0 ≤ l.d ∧ 0 ≤ l.u ∧ 0 ≤ l.a ∧ ((l.k = 1 ∧ l.u = 0) ∨ (l.k = 2 ∧ l.p = 0 ∧ l.a = 0 ∧ l.d = 0) ∨ (l.k = 3 ∧ l.d = 0)))
def mayB (v : Inv) : Bool := v.ls.all lnB && decide (0 < v.no ∧ 0 < v.te ∧ 12 ≤ v.mo ∧ v.mo < 120000 ∧ v.ls.length ≤ 28 ∧ 0 ≤ v.tot ∧ 0 ≤ v.cr)
def lineW (l : Ln) : List Bs :=
  if l.k = 1 then [wBase, wPlan, itoa l.p, wDays, itoa l.d, wAmount, itoa l.a] else if l.k = 2 then [wPack, wUnits, itoa l.u] else [wOver, wPlan, itoa l.p, wUnits, itoa l.u, wAmount, itoa l.a]
def monL (m : Int) : Bs := (txtL (m / 12) (m % 12 + 1) 1).take 7
def rowsW (v : Inv) : List (List Bs) := [wInvoice, itoa v.no] :: [wTenant, itoa v.te] :: [wMonth, monL v.mo] :: (v.ls.map lineW ++ [wTotal, itoa v.tot] :: if 0 < v.cr then [[wCredited, itoa v.cr]] else [])
def bodyL (v : Inv) : Bs := (rowsW v).flatMap nl
def textL (v : Inv) : Bs := if mayB v = true then bodyL v else []
/-! how it is read -/
def nextS (word : Bs) : List Bs → Option (List Bs × List Bs)
  | [] => none
  | l :: r => if (word ++ [32]).isPrefixOf l = true then some (split l [32], r) else none
def numS (l : List Bs) (i : Nat) : Option Int := match l[i]? with
  | none => none
  | some x => match parseIntB 64 x with
    | .ok n => some n
    | _ => none
def mustS (word : Bs) (ls : List Bs) : Option (Int × List Bs) := match nextS word ls with
  | none => none
  | some (l, r) => match numS l 1 with
    | none => none
    | some n => some (n, r)
def smallS (n : Int) : Option Int := if n < 0 ∨ 4294967295 < n then none else some n
def dateS (s : Bs) : Option (Int × Int × Int) :=
  if txtL (Acct.dvL (s.take 4)) (Acct.dvL ((s.drop 5).take 2)) (Acct.dvL (s.drop 8)) = s ∧ Vld (Acct.dvL (s.take 4)) (Acct.dvL ((s.drop 5).take 2)) (Acct.dvL (s.drop 8)) then some (Acct.dvL (s.take 4), Acct.dvL ((s.drop 5).take 2), Acct.dvL (s.drop 8)) else none
def monthS (ls : List Bs) : Option (Int × List Bs) := match nextS wMonth ls with
  | none => none
  | some (l, r) => if l.length = 2 then match dateS (l.getD 1 [] ++ [45, 48, 49]) with
    | none => none
    | some (y, m, d) => some (12 * y + m - 1, r) else none
def baseS (l : List Bs) : Option Ln := (numS l 2).bind fun p => (smallS p).bind fun p => (numS l 4).bind fun d => (numS l 6).bind fun a => some ⟨1, p, d, 0, a⟩
def packS (l : List Bs) : Option Ln := (numS l 2).bind fun u => some ⟨2, 0, 0, u, 0⟩
def overS (l : List Bs) : Option Ln := (numS l 2).bind fun p => (smallS p).bind fun p => (numS l 4).bind fun u => (numS l 6).bind fun a => some ⟨3, p, 0, u, a⟩
def linesS : List Bs → Option (List Ln × List Bs)
  | [] => some ([], [])
  | l :: r =>
    if (wBase ++ [32]).isPrefixOf l = true then (baseS (split l [32])).bind fun x => (linesS r).map fun y => (x :: y.1, y.2)
    else if (wPack ++ [32]).isPrefixOf l = true then (packS (split l [32])).bind fun x => (linesS r).map fun y => (x :: y.1, y.2)
    else if (wOver ++ [32]).isPrefixOf l = true then (overS (split l [32])).bind fun x => (linesS r).map fun y => (x :: y.1, y.2)
    else some ([], l :: r)
def credS (ls : List Bs) : Option Int := match nextS wCredited ls with
  | none => some 0
  | some (l, _) => numS l 1
def parseS (s : Bs) : Option Inv :=
  (mustS wInvoice (split s [10])).bind fun a => (smallS a.1).bind fun no => (mustS wTenant a.2).bind fun b => (smallS b.1).bind fun te => (monthS b.2).bind fun c =>
  (linesS c.2).bind fun d => (mustS wTotal d.2).bind fun e => (credS e.2).bind fun cr => some ⟨no, te, c.1, d.1, e.1, cr⟩
theorem parse_nil : parseS [] = none := by
  unfold parseS
  rw [split_one 10 [] (by simp)]
  rfl
end Go.Proofs.YtmppkhjjlgngkaaGreatDoor.Ren
