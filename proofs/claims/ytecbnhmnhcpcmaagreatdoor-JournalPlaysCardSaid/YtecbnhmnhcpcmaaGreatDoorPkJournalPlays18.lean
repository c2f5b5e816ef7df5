/- The walk of law 15's goes; names that are, names that are not. -/
import Derived.Test.YtecbnhmnhcpcmaaGreatDoorPkJournalPlays17
/-! The walk of law 15's goes; names that are, names that are not. -/
namespace Go.Proofs.YtecbnhmnhcpcmaaGreatDoor.Acct
open Go Go.Lib
def namedB (l : List UInt8) : Option (List UInt8 × List Int) := match split l [47] with
  | [] => none
  | p :: rs => match numsL rs with
    | none => none
    | some ns => if nameL p ns = l ∧ l ≠ [] then some (p, ns) else none
theorem namedB_no {l : List UInt8} (h : namedB l = none) : ∀ wd ns, ¬ Named l wd ns := by
  intro wd ns hN
  unfold namedB at h
  rw [hN.split] at h
  simp only [numsL_itoa ns hN.2.2] at h
  rw [if_pos ⟨hN.1, hN.2.1⟩] at h
  cases h
theorem numsL_in : ∀ (rs : List (List UInt8)) (ns : List Int), numsL rs = some ns → ∀ n ∈ ns, inInt n
  | [], ns, h, n, hn => by injection h with h; subst h; cases hn
  | s :: r, ns, h, n, hn => by
    rw [numsL] at h
    cases hp : parseIntB 64 s with
    | ok v =>
      rw [hp] at h
      simp only at h
      cases hr : numsL r with
      | none => rw [hr] at h; cases h
      | some ms =>
        rw [hr] at h
        simp only [Option.map_some, Option.some.injEq] at h
        subst h
        rcases List.mem_cons.1 hn with e | e
        · subst e; exact parseI_bd hp
        · exact numsL_in r ms hr n e
    | _ => rw [hp] at h; cases h
theorem namedB_yes {l wd : List UInt8} {ns : List Int} (h : namedB l = some (wd, ns)) : Named l wd ns := by
  unfold namedB at h
  split at h
  · cases h
  · split at h
    · cases h
    · rename_i hp ms hm
      split at h
      · rename_i hc
        injection h with h
        injection h with h1 h2
        subst h1; subst h2
        exact ⟨hc.1, hc.2, numsL_in _ _ hm⟩
      · cases h
end Go.Proofs.YtecbnhmnhcpcmaaGreatDoor.Acct
namespace Go.Proofs.YtecbnhmnhcpcmaaGreatDoor
open Go.RowKit Go.Shelf Acct
set_option linter.unusedVariables false
set_option linter.unusedSimpArgs false
theorem aparse_yes {name : ByteArray} {wd : List UInt8} {ns : List Int} (h : Named name.data.toList wd ns) (w : World) (hE : EnvA w) (hs : name.size ≤ 100000) :
    Calls Tryz.prog 41 #[.string name] w fun e w' => ∃ nv, e = .returned (.tuple #[.string ⟨wd.toArray⟩, nv, .bool true]) ∧ IntsAt w' nv ns ∧ Below w.heap.size w w' :=
  (aparse_any name w hE hs).mono fun e w' ⟨hb, hor⟩ => by
    rcases hor with ⟨wd', ns', nv, h1, h2, h3⟩ | ⟨h1, _⟩
    · obtain ⟨rfl, rfl⟩ := h.only h1
      exact ⟨nv, h3, h2, hb⟩
    · exact absurd h (h1 _ _)
theorem aparse_no {name : ByteArray} (h : ∀ wd ns, ¬ Named name.data.toList wd ns) (w : World) (hE : EnvA w) (hs : name.size ≤ 100000) :
    Calls Tryz.prog 41 #[.string name] w fun e w' => e = .returned (.tuple #[.string ⟨#[]⟩, .slice none 0 0, .bool false]) ∧ Below w.heap.size w w' :=
  (aparse_any name w hE hs).mono fun e w' ⟨hb, hor⟩ => by
    rcases hor with ⟨wd', ns', nv, h1, h2, h3⟩ | ⟨_, h2⟩
    · exact absurd h1 (h _ _)
    · exact ⟨h2, hb⟩
theorem rparse_yes {name : ByteArray} {wd : List UInt8} {ns : List Int} (h : Named name.data.toList wd ns) (w : World) (hs : name.size ≤ 100000) :
    Calls Tryz.prog 12 #[.string name] w fun e w' => ∃ nv, e = .returned (.tuple #[.string ⟨wd.toArray⟩, nv, .bool true]) ∧ IntsAt w' nv ns ∧ Below w.heap.size w w' :=
  (rparse_any name w hs).mono fun e w' ⟨hb, hor⟩ => by
    rcases hor with ⟨wd', ns', nv, h1, h2, h3⟩ | ⟨h1, _⟩
    · obtain ⟨rfl, rfl⟩ := h.only h1
      exact ⟨nv, h3, h2, hb⟩
    · exact absurd h (h1 _ _)
theorem rparse_no {name : ByteArray} (h : ∀ wd ns, ¬ Named name.data.toList wd ns) (w : World) (hs : name.size ≤ 100000) :
    Calls Tryz.prog 12 #[.string name] w fun e w' => e = .returned (.tuple #[.string ⟨#[]⟩, .slice none 0 0, .bool false]) ∧ Below w.heap.size w w' :=
  (rparse_any name w hs).mono fun e w' ⟨hb, hor⟩ => by
    rcases hor with ⟨wd', ns', nv, h1, h2, h3⟩ | ⟨_, h2⟩
    · exact absurd h1 (h _ _)
    · exact ⟨h2, hb⟩
theorem litI2 (w : World) (x y : Int) : IntsAt (w.alloc (.cells #[.int .i64 x, .int .i64 y] 2)) (.slice (some ⟨w.heap.size, 0, none⟩) 2 2) [x, y] :=
  ⟨_, 2, rfl, fun i hi => ⟨w.heap.size, 0, rfl, by
    rw [Nat.zero_add, World.cell?_alloc_new]
    have : i = 0 ∨ i = 1 := by simp at hi; omega
    rcases this with rfl | rfl <;> rfl⟩⟩
theorem ex1 : Named [112, 97, 99, 107, 47, 55, 47, 45, 51] [112, 97, 99, 107] [7, -3] := namedB_yes (by decide +kernel)
theorem ex2 : nameB ⟨#[117, 115, 101]⟩ [1, 24288] = ⟨#[117, 115, 101, 47, 49, 47, 50, 52, 50, 56, 56]⟩ := ba_ext (by decide +kernel)
theorem ex3 : nameB ⟨#[85, 115, 101]⟩ [] = ⟨#[]⟩ := ba_ext (by decide +kernel)
theorem ex4 : unitsB [117, 115, 101, 47, 49, 47, 50] = true := (units_of (namedB_yes (wd := [117, 115, 101]) (ns := [1, 2]) (by decide +kernel))).trans (by decide)
theorem ex5 : unitsB [99, 97, 115, 104, 47, 49] = false := (units_of (namedB_yes (wd := [99, 97, 115, 104]) (ns := [1]) (by decide +kernel))).trans (by decide)
end Go.Proofs.YtecbnhmnhcpcmaaGreatDoor
