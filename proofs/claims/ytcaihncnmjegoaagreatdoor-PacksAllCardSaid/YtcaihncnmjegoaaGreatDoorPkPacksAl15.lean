/- The shelf's laying of    at this seat's dump, in plain words, as the kit's tools write it. The walks of cmp.Compare, of the order of packs, and of slices.SortFunc at packs. The walks of slices.Clip at packs, and of packs.Live and Total. -/
import Derived.Shelf.SlSortCmp.NoneTotal
import Derived.Test.YtcaihncnmjegoaaGreatDoorProg
import Derived.Test.YtcaihncnmjegoaaGreatDoorPkPacksAl14
/-! The shelf's laying of    at this seat's dump, in plain words, as the kit's tools write it. -/
namespace Go.Proofs
open Go.Shelf
def Tryz.sortLeft_ren : Go.Shelf.Ren := ⟨fun | 6 => 23 | 15 => 36 | 14 => 35 | 28 => 62 | 29 => 63 | 20 => 54 | 21 => 55 | 22 => 56 | 23 => 57 | 24 => 58 | 25 => 59 | 26 => 60 | 27 => 61 | 46 => 82 | 47 => 83 | 48 => 84 | 49 => 85 | 50 => 86 | 57 => 97 | n => n, fun | 22 => 24 | 24 => 34 | 25 => 70 | 3 => 3 | 39 => 91 | 0 => 0 | 53 => 22 | 55 => 64 | 4 => 4 | 46 => 116 | 45 => 115 | 50 => 120 | 5 => 5 | 9 => 9 | 66 => 147 | 70 => 150 | 76 => 164 | 77 => 165 | n => n, fun | n => n⟩
theorem Tryz.sortLeft : Go.Proofs.SlLaysF0.n6 Tryz.prog Tryz.sortLeft_ren := {
  mixed := by kernel_rfl
  f6 := ⟨Tryz.f23.name, by decide, Tryz.func23.trans (congrArg some (by kernel_rfl))⟩
  f14 := ⟨Tryz.f35.name, by decide, Tryz.func35.trans (congrArg some (by kernel_rfl))⟩
  f15 := Tryz.func36.trans (congrArg some (by kernel_rfl))
  f20 := ⟨Tryz.f54.name, by decide, Tryz.func54.trans (congrArg some (by kernel_rfl))⟩
  f21 := ⟨Tryz.f55.name, by decide, Tryz.func55.trans (congrArg some (by kernel_rfl))⟩
  f22 := ⟨Tryz.f56.name, by decide, Tryz.func56.trans (congrArg some (by kernel_rfl))⟩
  f23 := ⟨Tryz.f57.name, by decide, Tryz.func57.trans (congrArg some (by kernel_rfl))⟩
  f24 := ⟨Tryz.f58.name, by decide, Tryz.func58.trans (congrArg some (by kernel_rfl))⟩
  f25 := ⟨Tryz.f59.name, by decide, Tryz.func59.trans (congrArg some (by kernel_rfl))⟩
  f26 := ⟨Tryz.f60.name, by decide, Tryz.func60.trans (congrArg some (by kernel_rfl))⟩
  f27 := ⟨Tryz.f61.name, by decide, Tryz.func61.trans (congrArg some (by kernel_rfl))⟩
  f28 := Tryz.func62.trans (congrArg some (by kernel_rfl))
  f29 := Tryz.func63.trans (congrArg some (by kernel_rfl))
  f46 := ⟨Tryz.f82.name, by decide, Tryz.func82.trans (congrArg some (by kernel_rfl))⟩
  f47 := Tryz.func83.trans (congrArg some (by kernel_rfl))
  f48 := Tryz.func84.trans (congrArg some (by kernel_rfl))
  f49 := ⟨Tryz.f85.name, by decide, Tryz.func85.trans (congrArg some (by kernel_rfl))⟩
  f50 := ⟨Tryz.f86.name, by decide, Tryz.func86.trans (congrArg some (by kernel_rfl))⟩
  f57 := ⟨Tryz.f97.name, by decide, Tryz.func97.trans (congrArg some (by kernel_rfl))⟩
  t0 := Tryz.underlying0
  a0 := Tryz.isAgg0
  z0 := Tryz.sizeOf0
  v0 := Tryz.zeroValue0
  t3 := Tryz.underlying3
  a3 := Tryz.isAgg3
  z3 := Tryz.sizeOf3
  v3 := Tryz.zeroValue3
  t4 := Tryz.underlying4
  a4 := Tryz.isAgg4
  z4 := Tryz.sizeOf4
  v4 := Tryz.zeroValue4
  t5 := Tryz.underlying5
  a5 := Tryz.isAgg5
  z5 := Tryz.sizeOf5
  v5 := Tryz.zeroValue5
  t9 := Tryz.underlying9
  a9 := Tryz.isAgg9
  z9 := Tryz.sizeOf9
  v9 := Tryz.zeroValue9
  t22 := Tryz.underlying24
  a22 := Tryz.isAgg24
  z22 := Tryz.sizeOf24
  v22 := Tryz.zeroValue24
  t25 := Tryz.underlying70
  a25 := Tryz.isAgg70
  z25 := Tryz.sizeOf70
  v25 := Tryz.zeroValue70
  t39 := Tryz.underlying91
  a39 := Tryz.isAgg91
  z39 := Tryz.sizeOf91
  v39 := Tryz.zeroValue91
  t45 := Tryz.underlying115
  a45 := Tryz.isAgg115
  z45 := Tryz.sizeOf115
  v45 := Tryz.zeroValue115
  t46 := Tryz.underlying116
  a46 := Tryz.isAgg116
  z46 := Tryz.sizeOf116
  v46 := Tryz.zeroValue116
  t50 := Tryz.underlying120
  a50 := Tryz.isAgg120
  z50 := Tryz.sizeOf120
  v50 := Tryz.zeroValue120
  t53 := Tryz.underlying22
  a53 := Tryz.isAgg22
  z53 := Tryz.sizeOf22
  v53 := Tryz.zeroValue22
  t55 := Tryz.underlying64
  a55 := Tryz.isAgg64
  z55 := Tryz.sizeOf64
  v55 := Tryz.zeroValue64
  t66 := Tryz.underlying147
  a66 := Tryz.isAgg147
  z66 := Tryz.sizeOf147
  v66 := Tryz.zeroValue147
  t70 := Tryz.underlying150
  a70 := Tryz.isAgg150
  z70 := Tryz.sizeOf150
  v70 := Tryz.zeroValue150
  t76 := Tryz.underlying164
  a76 := Tryz.isAgg164
  z76 := Tryz.sizeOf164
  v76 := Tryz.zeroValue164
  t77 := Tryz.underlying165
  a77 := Tryz.isAgg165
  z77 := Tryz.sizeOf165
  v77 := Tryz.zeroValue165 }
end Go.Proofs

/-! The walks of cmp.Compare, of the order of packs, and of slices.SortFunc at packs. -/
namespace Go.Proofs.YtcaihncnmjegoaaGreatDoor
open Go.RowKit Go.WideMaps Go.Maps
set_option linter.unusedVariables false
set_option linter.unusedSimpArgs false
set_option maxRecDepth 100000
def cmpI (x y : Int) : Int := if x < y then -1 else if y < x then 1 else 0
set_option maxHeartbeats 1000000 in
theorem cmp64_any (x y : Int) (w : World) : Calls Tryz.prog 37 #[.int .i64 x, .int .i64 y] w fun e w' => e = .returned (.int .i64 (cmpI x y)) ∧ w' = w := by
  by_cases h1 : x < y
  · have e : cmpI x y = -1 := if_pos h1
    rw [e]
    go_enter Tryz.func37, Tryz.ntmps37
    go_wp2
    go_ret
    exact ⟨rfl, rfl⟩
  · by_cases h2 : y < x
    · have e : cmpI x y = 1 := by unfold cmpI; rw [if_neg h1, if_pos h2]
      rw [e]
      go_enter Tryz.func37, Tryz.ntmps37
      go_wp2
      go_ret
      exact ⟨rfl, rfl⟩
    · have e : cmpI x y = 0 := by unfold cmpI; rw [if_neg h1, if_neg h2]
      rw [e]
      go_enter Tryz.func37, Tryz.ntmps37
      go_wp2
      go_ret
      exact ⟨rfl, rfl⟩
set_option maxHeartbeats 1000000 in
theorem cmp32_any (x y : Int) (w : World) : Calls Tryz.prog 38 #[.int .u32 x, .int .u32 y] w fun e w' => e = .returned (.int .i64 (cmpI x y)) ∧ w' = w := by
  by_cases h1 : x < y
  · have e : cmpI x y = -1 := if_pos h1
    rw [e]
    go_enter Tryz.func38, Tryz.ntmps38
    go_wp2
    go_ret
    exact ⟨rfl, rfl⟩
  · by_cases h2 : y < x
    · have e : cmpI x y = 1 := by unfold cmpI; rw [if_neg h1, if_pos h2]
      rw [e]
      go_enter Tryz.func38, Tryz.ntmps38
      go_wp2
      go_ret
      exact ⟨rfl, rfl⟩
    · have e : cmpI x y = 0 := by unfold cmpI; rw [if_neg h1, if_neg h2]
      rw [e]
      go_enter Tryz.func38, Tryz.ntmps38
      go_wp2
      go_ret
      exact ⟨rfl, rfl⟩
def aheadI (x y : Lf) : Int := if cmpI x.2.1 y.2.1 = 0 then cmpI x.1 y.1 else cmpI x.2.1 y.2.1
set_option maxHeartbeats 1000000 in
theorem ahead_any (x y : Lf) (W : World) : Calls Tryz.prog 24 #[leftA x, leftA y] W fun e w' => e = .returned (.int .i64 (aheadI x y)) ∧ ∃ q os', w' = Sort.grow (W.drewN q) os' := by
  obtain ⟨a, b, c⟩ := x
  obtain ⟨a', b', c'⟩ := y
  unfold leftA
  have EA : Hid (aheadI (a, b, c) (a', b', c') = if cmpI b b' = 0 then cmpI a a' else cmpI b b') := rfl
  simp only
  generalize aheadI (a, b, c) (a', b', c') = z at *
  have C1 := Lib.hid (fun W => cmp64_any b b' W)
  have C2 := Lib.hid (fun W => cmp32_any a a' W)
  generalize cmpI b b' = r at *
  generalize cmpI a a' = s at *
  go_enter Tryz.func24, Tryz.ntmps24
  go_wp2_with fail
  refine (C1.out _).mono ?_
  rintro e w' ⟨rfl, rfl⟩
  by_cases h : r = 0
  · subst h
    have EZ : Hid (z = s) := by have := EA.out; rw [if_pos rfl] at this; exact this
    clear EA
    go_wp2_with fail
    refine (C2.out _).mono ?_
    rintro e w' ⟨rfl, rfl⟩
    go_wp2_with fail
    go_ret
    exact ⟨by rw [EZ.out]; rfl, 0, _, by rw [Sort.alloc_eq_grow, Sort.alloc_eq_grow, Sort.grow_grow]; rfl⟩
  · have h1 : (r == 0) = false := beq_eq_false_iff_ne.2 h
    have EZ : Hid (z = r) := by have := EA.out; rw [if_neg h] at this; exact this
    clear EA
    go_wp2_with fail
    go_ret
    exact ⟨by rw [EZ.out]; rfl, 0, _, by rw [Sort.alloc_eq_grow, Sort.alloc_eq_grow, Sort.grow_grow]; rfl⟩
theorem ltA (x y : Lf) : ltOf aheadI x y = decide (x.2.1 < y.2.1 ∨ x.2.1 = y.2.1 ∧ x.1 < y.1) := by
  unfold ltOf aheadI cmpI
  congr 1
  by_cases h1 : x.2.1 < y.2.1
  · simp [h1]
  · by_cases h2 : y.2.1 < x.2.1
    · simp [h1, h2]
      omega
    · have e : x.2.1 = y.2.1 := by omega
      simp only [h1, h2, if_false, if_true, e, Int.lt_irrefl]
      by_cases h3 : x.1 < y.1
      · simp [h3]
      · by_cases h4 : y.1 < x.1 <;> simp [h3, h4]
def sortL (L : List Lf) : List Lf := L.mergeSort fun x y => !(ltOf aheadI y x)
theorem sortL_len (L : List Lf) : (sortL L).length = L.length := (List.mergeSort_perm _ _).length_eq
theorem row_sorted {B g cap n q : Nat} {w : World} {os : Array Obj} {L M : List Lf} {α : Type} [Inhabited α] {enc : α → List Value} {d : Array α} (hO : w.ownsRow B 34 3 (.slice (some ⟨g, 0, none⟩) n cap) n (leftsC L)) (hL : L.length = n) (hM : M.length = n) (hd : d.size = n) (he : ∀ i, i < n → enc d[i]! = leftC M[i]!) :
    (sortWorldK enc 3 w g 0 q d os).ownsRow B 34 3 (.slice (some ⟨g, 0, none⟩) n cap) n (leftsC M) ∧ w.grownBy (sortWorldK enc 3 w g 0 q d os) (some g) := by
  obtain ⟨hx, ⟨e, _⟩ | ⟨g', cap', cur, e, hb, hg, hnc, hcm, hcs, ht⟩⟩ := hO
  · cases e
  · injection e with e1 e2 e3
    injection e1 with e1
    injection e1 with e1 _ _
    subst e1 e3
    have hlt := lt_of_block hg
    have hh : (sortWorldK enc 3 w g 0 q d os).heap[g]? = some (.cells (Sort.putCells id 0 (Sort.flatK enc 3 d) cur) 34 (0, 0)) := by
      have h1 : (Sort.putRowK enc 3 (Sort.ahead w q) g 0 d).heap[g]? = some (.cells (Sort.putCells id 0 (Sort.flatK enc 3 d) cur) 34 (0, 0)) := by
        simp [Sort.putRowK, Sort.putRow, Sort.mapBlock, Sort.ahead, Array.getElem?_modify, hg, Sort.onCells]
      unfold sortWorldK Sort.grow
      simp only
      rw [Array.getElem?_append_left (lt_of_block h1)]
      exact h1
    refine ⟨⟨by rw [lefts_length]; omega, .inr ⟨g, cap, _, rfl, hb, hh, hnc, hcm, by simpa [Sort.putCells] using hcs, ?_⟩⟩, ?_⟩
    · refine List.ext_getElem? fun j => ?_
      rw [List.getElem?_take, Array.getElem?_toList]
      by_cases hj : j < n * 3
      · have hjc : j < cur.size := by omega
        have hf : (Sort.flatK enc 3 d).size = n * 3 := by rw [Sort.size_flatK, hd]
        have hg3 := Sort.get_flatK enc 3 d j (by rw [hd]; exact hj)
        have h1 := lefts_get M (j / 3) (j % 3) (by omega) (by omega)
        have hj3 : j / 3 * 3 + j % 3 = j := by omega
        rw [hj3] at h1
        rw [if_pos hj, h1]
        unfold Sort.putCells
        rw [Array.getElem?_mapIdx, Array.getElem?_eq_getElem hjc, Option.map_some, if_pos (by rw [hf]; omega), Nat.sub_zero, hg3, he (j / 3) (by omega)]
        have h2 : j % 3 = 0 ∨ j % 3 = 1 ∨ j % 3 = 2 := by omega
        rcases h2 with h | h | h <;> rw [h] <;> rfl
      · rw [if_neg hj, List.getElem?_eq_none (by rw [lefts_length]; omega)]
    · refine ⟨rfl, rfl, rfl, ?_, fun k hk hne => ?_⟩
      · simp [sortWorldK, Sort.grow, Sort.putRowK, Sort.putRow, Sort.mapBlock, Sort.ahead]
      · have hkg : g ≠ k := fun e => hne (by rw [e])
        have h1 : (Sort.putRowK enc 3 (Sort.ahead w q) g 0 d).heap[k]? = w.heap[k]? := by
          simp [Sort.putRowK, Sort.putRow, Sort.mapBlock, Sort.ahead, Array.getElem?_modify, hkg]
        unfold sortWorldK Sort.grow
        simp only
        rw [Array.getElem?_append_left (by simpa [Sort.putRowK, Sort.putRow, Sort.mapBlock, Sort.ahead] using hk)]
        exact h1
set_option maxHeartbeats 1000000 in
theorem sortL_any {B g cap : Nat} {L : List Lf} (w : World) (hO : w.ownsRow B 34 3 (.slice (some ⟨g, 0, none⟩) L.length cap) L.length (leftsC L)) (hnd : L.Pairwise (fun x y => x.1 ≠ y.1)) (hn : L.length ≤ 1000000) :
    Calls Tryz.prog 23 #[.slice (some ⟨g, 0, none⟩) L.length cap, .func (.func 24) #[] #[]] w fun e w' => e = .returned (.tuple #[]) ∧ w'.ownsRow B 34 3 (.slice (some ⟨g, 0, none⟩) L.length cap) L.length (leftsC (sortL L)) ∧ w.grownBy w' (some g) := by
  by_cases hne : L = []
  · subst hne
    have := AnyF.slices_SortFunc_none Tryz.sortLeft (some ⟨g, 0, none⟩) cap (.func (.func 24) #[] #[]) w
    refine Calls.mono this ?_
    rintro e w' ⟨rfl, rfl⟩
    have e0 : sortL [] = [] := by simp [sortL]
    exact ⟨rfl, by rw [e0]; exact hO, World.grownBy.refl _ _⟩
  · haveI : Inhabited {x // x ∈ L} := ⟨⟨L.head hne, List.head_mem hne⟩⟩
    have hd : L.attach.toArray.size = L.length := by simp
    have hget : ∀ i, i < L.length → (L.attach.toArray[i]!).1 = L[i]! := fun i hi => by
      rw [List.getElem!_toArray, getElem!_pos L.attach i (by simpa using hi), getElem!_pos L i hi]
      simp
    have hO' : Sort.SWO (ltOf fun x y : {x // x ∈ L} => aheadI x.1 y.1) := by
      have e : ∀ x y : {x // x ∈ L}, ltOf (fun x y : {x // x ∈ L} => aheadI x.1 y.1) x y = decide (x.1.2.1 < y.1.2.1 ∨ x.1.2.1 = y.1.2.1 ∧ x.1.1 < y.1.1) := fun x y => ltA x.1 y.1
      constructor
      · intro x; rw [e]; simp
      · intro x y z h1 h2; rw [e] at *; simp at *; omega
      · intro x y z h1 h2; rw [e] at *; simp at *; omega
    have hT : ∀ x y : {x // x ∈ L}, ltOf (fun x y : {x // x ∈ L} => aheadI x.1 y.1) x y = false → ltOf (fun x y : {x // x ∈ L} => aheadI x.1 y.1) y x = false → x = y := fun x y h1 h2 => by
      have e1 := ltA x.1 y.1
      have e2 := ltA y.1 x.1
      have h1' : ltOf aheadI x.1 y.1 = false := h1
      have h2' : ltOf aheadI y.1 x.1 = false := h2
      rw [h1'] at e1
      rw [h2'] at e2
      simp at e1 e2
      have hid : x.1.1 = y.1.1 := by omega
      refine Subtype.ext ?_
      rcases List.mem_iff_getElem.1 x.2 with ⟨i, hi, hxi⟩
      rcases List.mem_iff_getElem.1 y.2 with ⟨j, hj, hyj⟩
      have hp := List.pairwise_iff_getElem.1 hnd
      rcases Nat.lt_trichotomy i j with h | h | h
      · exact absurd (by rw [hxi, hyj]; exact hid) (hp i j hi hj h)
      · subst h; rw [← hxi, ← hyj]
      · exact absurd (by rw [hxi, hyj]; exact hid.symm) (hp j i hj hi h)
    have hH : Sort.HoldsK (fun x : {x // x ∈ L} => leftC x.1) 3 w g 0 L.attach.toArray := by
      intro t ht
      rw [Sort.size_flatK, hd] at ht
      have h3 := Sort.get_flatK (fun x : {x // x ∈ L} => leftC x.1) 3 L.attach.toArray t (by rw [hd]; exact ht)
      refine ⟨?_, hO.frozenAt _⟩
      rw [h3, hO.cellAt (0 + t) (by omega), hget (t / 3) (by omega)]
      have h1 := lefts_get L (t / 3) (t % 3) (by omega) (by omega)
      have hj3 : t / 3 * 3 + t % 3 = 0 + t := by omega
      rw [hj3] at h1
      rw [h1]
      have h2 : t % 3 = 0 ∨ t % 3 = 1 ∨ t % 3 = 2 := by omega
      rcases h2 with h | h | h <;> rw [h] <;> rfl
    have hcmp : CmpLays Tryz.prog 24 #[] (fun x : {x // x ∈ L} => leftC x.1) 3 (fun x y => aheadI x.1 y.1) g 0 L.attach.toArray.size w := fun m os dk hs x y => ahead_any x.1 y.1 _
    have hlt := World.ownsRow.lt hO g rfl
    have hcon := AnyQ.slices_SortFunc_total Tryz.sortLeft 3 Tryz.isAgg34 Tryz.sizeOf34 (fun x : {x // x ∈ L} => leftC x.1) (fun _ => rfl) (fun x v hv => by simp only [leftC, List.mem_cons, List.not_mem_nil, or_false] at hv; rcases hv with rfl | rfl | rfl <;> rfl) (fun x y => aheadI x.1 y.1) hO' 24 #[] g 0 cap L.attach.toArray w (enters_of Tryz.func24 (by kernel_rfl) rfl) hcmp hH hlt.2 (by rw [hd]; omega) hT
    rw [hd] at hcon
    refine Calls.mono hcon ?_
    rintro e w' ⟨rfl, n, os, rfl⟩
    have hml : (L.attach.toArray.toList.mergeSort fun x y => !(ltOf (fun x y : {x // x ∈ L} => aheadI x.1 y.1) y x)).map Subtype.val = sortL L := by
      have h := @List.map_mergeSort _ _ (fun x y : {x // x ∈ L} => !(ltOf (fun x y : {x // x ∈ L} => aheadI x.1 y.1) y x)) (fun x y => !(ltOf aheadI y x)) Subtype.val L.attach (fun a _ b _ => rfl)
      rw [List.attach_map_subtype_val] at h
      exact h
    obtain ⟨o1, g1⟩ := row_sorted (q := n) (os := os) (M := sortL L) (enc := fun x : {x // x ∈ L} => leftC x.1) (d := (L.attach.toArray.toList.mergeSort fun x y => !(ltOf (fun x y : {x // x ∈ L} => aheadI x.1 y.1) y x)).toArray) hO rfl (sortL_len L) (by simp) (fun i hi => by
      rw [← hml, List.getElem!_toArray, getElem!_pos _ i (by simpa using hi), getElem!_pos _ i (by simpa using hi)]
      simp)
    exact ⟨rfl, o1, g1⟩
end Go.Proofs.YtcaihncnmjegoaaGreatDoor

/-! The walks of slices.Clip at packs, and of packs.Live and Total. -/
namespace Go.Proofs.YtcaihncnmjegoaaGreatDoor
open Go.RowKit Go.WideMaps Go.Maps
set_option linter.unusedVariables false
set_option linter.unusedSimpArgs false
set_option maxRecDepth 100000
/-- the live packs in order -/
def liveL (now : Int) (ls : List Lf) : List Lf := (sortL (ls.filter fun x => !deadB now x)).take 8
theorem lefts_nd {P : List (Nat × Int × Int)} (h : P.Pairwise (fun x y => x.1 ≠ y.1)) : (lefts P).Pairwise (fun x y => x.1 ≠ y.1) := by
  unfold lefts
  rw [List.pairwise_map]
  exact h.imp fun hab e => hab (by simp only at e; omega)
theorem lefts_at_take {w : World} {B g cap n m c : Nat} {M : List Lf} (h : w.ownsRow B 34 3 (.slice (some ⟨g, 0, none⟩) n cap) n (leftsC M)) (hM : M.length = n) (hm : m ≤ n) : LeftsAt w (.slice (some ⟨g, 0, none⟩) m c) (M.take m) := by
  refine ⟨_, c, by rw [List.length_take, hM, Nat.min_eq_left hm], fun i hi => ⟨g, 0, rfl, ?_⟩⟩
  rw [List.length_take, hM, Nat.min_eq_left hm] at hi
  have e : (M.take m).getD i (0, 0, 0) = M[i]! := by
    rw [List.getD_eq_getElem?_getD, List.getElem?_take_of_lt hi, List.getElem?_eq_getElem (by omega), getElem!_pos M i (by omega)]
    rfl
  rw [e]
  refine ⟨?_, ?_, ?_⟩
  · rw [Nat.zero_add, h.cellAt (i * 3) (by omega)]; exact lefts_get M i 0 (by omega) (by omega)
  · rw [Nat.zero_add, h.cellAt (i * 3 + 1) (by omega)]; exact lefts_get M i 1 (by omega) (by omega)
  · rw [Nat.zero_add, h.cellAt (i * 3 + 2) (by omega)]; exact lefts_get M i 2 (by omega) (by omega)
set_option maxHeartbeats 1000000 in
theorem delNil_any (fv : Value) (w : World) : Calls Tryz.prog 21 #[.slice none 0 0, fv] w fun e w' => e = .returned (.slice none 0 0) ∧ w' = w := by
  have IX : ∀ W, Calls Tryz.prog 34 #[.slice none 0 0, fv] W fun e w' => e = .returned (.int .i64 (-1)) ∧ w' = W := fun W => by
    go_enter Tryz.func34, Tryz.ntmps34
    go_wp2_with fail
    go_loopw [8] (fun iv wr => iv = .int .i64 0 ∧ wr = W) (fun _ _ => 0)
    case atStart => exact ⟨rfl, rfl⟩
    case round =>
      obtain ⟨rfl, rfl⟩ := hrel
      go_wp2_with fail
      go_ret
      exact ⟨rfl, rfl⟩
  have IH := Lib.hid IX
  clear IX
  go_enter Tryz.func21, Tryz.ntmps21
  go_wp2_with fail
  refine (IH.out _).mono ?_
  rintro e w' ⟨rfl, rfl⟩
  go_wp2_with fail
  go_ret
  exact ⟨rfl, rfl⟩
set_option maxHeartbeats 1000000 in
theorem clip_any (a : Option Addr) (n c : Nat) (w : World) (hn : n ≤ c) (hc : n ≤ 1000000) (ha : a = none → n = 0) : Calls Tryz.prog 25 #[.slice a n c] w fun e w' => (∃ c', e = .returned (.slice a n c')) ∧ w' = w := by
  have hz : (n : Int) ≤ (c : Int) := by omega
  have hz0 : (0 : Int) ≤ (n : Int) := by omega
  go_enter Tryz.func25, Tryz.ntmps25
  go_wp2_with fail
  go_ret
  exact ⟨⟨n, rfl⟩, rfl⟩
def LiveEnd (ls : List Lf) (w : World) (e : Ending) (w' : World) : Prop := ∃ v, e = .returned (.tuple #[v, .int .i64 0]) ∧ LeftsAt w' v ls ∧ Below w.heap.size w w'
set_option maxHeartbeats 2000000 in
theorem live_any {p b1 b2 m : Nat} {room : Int} {D D2 : DM} {P : List (Nat × Int × Int)} (u : Nat) (now : Int) (w : World) (hE : EnvA w) (hM : MemS w p b1 b2 room m D D2) (hm : m < 1000000) (hD : IsMap D) (hP : PackAt D u P) (hu : u < 4294967296) (hn : P.length ≤ 1000000) :
    Calls Tryz.prog 14 #[memI p, .int .u32 u, .int .i64 now] w (LiveEnd (liveL now (lefts P)) w) := by
  obtain ⟨w1, hw1⟩ : ∃ W, W = w.alloc (.cells #[.int .i64 now] 2) := ⟨_, rfl⟩
  have hb1 : Below w.heap.size w w1 := by rw [hw1]; exact below_alloc _ _
  have h1 : w1.heap[w.heap.size]? = some (.cells #[.int .i64 now] 2 (0, 0)) := by rw [hw1]; exact alloc_block _ _ _ _
  have c1 : w1.cell? ⟨w.heap.size, 0, none⟩ = some (.int .i64 now) := by rw [cell_of_row h1]; rfl
  have sz1 : w1.heap.size = w.heap.size + 1 := by rw [hw1]; simp
  have B1 := Lib.hid hb1
  have C1 := Lib.hid c1
  have SZ := Lib.hid sz1
  have AX := Lib.hid (all_any u w1 (hE.below hb1) (hM.below hb1) hm hD hP hu hn)
  have ND := Lib.hid (lefts_nd hP.nd)
  have LN : Hid ((lefts P).length ≤ 1000000) := by show _ ≤ _; rw [lefts_len]; exact hn
  clear hE hM hP hb1 h1 c1 sz1
  generalize lefts P = ls at *
  go_enter Tryz.func14, Tryz.ntmps14
  go_wp2_with fail
  rw [← hw1]
  clear hw1
  refine AX.out.mono ?_
  rintro e w2 ⟨v2, rfl, ho, hb⟩
  have B2 : Hid (Below w.heap.size w w2) := onward hb B1.out
  have C2 := stays hb C1.out
  rcases Go.Joins.ownsRow_forms ho with ⟨rfl, h0⟩ | ⟨g, cap, rfl⟩
  · obtain rfl : ls = [] := List.length_eq_zero_iff.1 h0
    have HE : Hid (∀ v, (∃ c, v = .slice none 0 c) → LiveEnd (liveL now []) w (.returned (.tuple #[v, .int .i64 0])) w2) := by
      rintro v ⟨c, rfl⟩
      have e0 : liveL now [] = [] := by simp [liveL, sortL]
      exact ⟨_, rfl, ⟨none, c, by rw [e0]; rfl, fun i hi => by rw [e0] at hi; exact absurd hi (Nat.not_lt_zero _)⟩, B2.out⟩
    clear ho hb AX C2
    go_wp2_with fail
    refine (delNil_any _ _).mono ?_
    rintro e w3 ⟨rfl, rfl⟩
    go_wp2_with fail
    refine (AnyF.slices_SortFunc_none Tryz.sortLeft none 0 _ _).mono ?_
    rintro e w3 ⟨rfl, rfl⟩
    go_wp2_with fail
    refine (clip_any none 0 0 _ (Nat.le_refl _) (by omega) (fun _ => rfl)).mono ?_
    rintro e w3 ⟨⟨c', rfl⟩, rfl⟩
    go_wp2_with fail
    go_ret2
    exact HE.out _ ⟨_, rfl⟩
  · have O2 := Lib.hid ho
    have hlt := World.ownsRow.lt ho g rfl
    have DX := Lib.hid (delL_any (d := ls.toArray) w2 ho C2 (by have := SZ.out; omega) LN.out)
    have HG : Hid (w.heap.size ≤ g) := by have := SZ.out; show _ ≤ _; omega
    clear ho hb AX C2 hlt
    go_wp2_with fail
    refine DX.out.mono ?_
    rintro e w3 ⟨F, hF, rfl, ho3, hg3⟩
    have NF : F.Pairwise (fun x y => x.1 ≠ y.1) := by rw [hF]; exact ND.out.sublist List.filter_sublist
    have LF : F.length ≤ 1000000 := by rw [hF]; exact Nat.le_trans (List.length_filter_le _ _) LN.out
    have SX := Lib.hid (sortL_any w3 ho3 NF LF)
    have G3 := Lib.hid hg3
    have HF : Hid (liveL now ls = (sortL F).take 8) := by rw [hF]; rfl
    clear ho3 hg3 NF DX hF
    go_wp2_with fail
    refine SX.out.mono ?_
    rintro e w4 ⟨rfl, ho4, hg4⟩
    have O4 := Lib.hid ho4
    have hcp : F.length ≤ cap := by
      obtain ⟨hx, ⟨e, _⟩ | ⟨g', cap', cur, e, hb, hg, hnc, hcm, hcs, ht⟩⟩ := ho4
      · cases e
      · injection e with e1 e2 e3
        subst e3
        exact hnc
    have B4 : Hid (Below w.heap.size w w4) := B2.out.grown (G3.out.trans hg4) B2.out.size (fun k hk => by injection hk with hk; subst hk; exact HG.out)
    clear ho4 hg4 SX G3 O2 B2
    obtain ⟨n, hnn⟩ : ∃ n, F.length = n := ⟨_, rfl⟩
    rw [hnn] at hcp LF
    have HN := Lib.hid hnn
    have hz : (n : Int) ≤ (cap : Int) := by omega
    have h8 : Hid (∀ v, (∃ c m : Nat, v = .slice (some ⟨g, 0, none⟩) m c ∧ m = min n 8) → LiveEnd (liveL now ls) w (.returned (.tuple #[v, .int .i64 0])) w4) := by
      rintro v ⟨c, m, rfl, hmm⟩
      refine ⟨_, rfl, ?_, B4.out⟩
      rw [HF.out]
      have hl := sortL_len F
      have e : (sortL F).take 8 = (sortL F).take m := by
        rcases Nat.le_total n 8 with h | h
        · rw [hmm, Nat.min_eq_left h, List.take_of_length_le (by omega), List.take_of_length_le (by omega)]
        · rw [hmm, Nat.min_eq_right h]
      rw [e]
      exact lefts_at_take O4.out hl (by have := HN.out; omega)
    rw [hnn]
    clear O4 B4 HF hnn
    by_cases hle : n ≤ 8
    · have hmin : min (n : Int) 8 = (n : Int) := by omega
      go_wp2_with fail
      refine (clip_any (some ⟨g, 0, none⟩) n cap _ hcp LF (fun h => by cases h)).mono ?_
      rintro e w3 ⟨⟨c', rfl⟩, rfl⟩
      go_wp2_with fail
      go_ret2
      exact h8.out _ ⟨_, n, rfl, (Nat.min_eq_left hle).symm⟩
    · have hmin : min (n : Int) 8 = 8 := by omega
      have hz2 : (8 : Int) ≤ (cap : Int) := by omega
      go_wp2_with fail
      refine (clip_any (some ⟨g, 0, none⟩) 8 cap _ (by omega) (by omega) (fun h => by cases h)).mono ?_
      rintro e w3 ⟨⟨c', rfl⟩, rfl⟩
      go_wp2_with fail
      go_ret2
      exact h8.out _ ⟨_, 8, rfl, (Nat.min_eq_right (by omega)).symm⟩
end Go.Proofs.YtcaihncnmjegoaaGreatDoor

