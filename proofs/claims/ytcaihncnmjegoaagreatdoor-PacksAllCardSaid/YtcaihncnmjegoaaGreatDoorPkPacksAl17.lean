/- A store of packs of which nothing was posted: Add and Live; the walks of the laws' parts and lefts, and of packs.Total. The walk of the law PacksOrder. The walk of the laws' lefts; plain facts of what is drawn. The walk of the law PacksDraw. -/
import Derived.Test.YtcaihncnmjegoaaGreatDoorPkPacksAl16
import Derived.Test.YtcaihncnmjegoaaGreatDoorPkPacksAl4
/-! A store of packs of which nothing was posted: Add and Live; the walks of the laws' parts and lefts, and of packs.Total. -/
namespace Go.Proofs.YtcaihncnmjegoaaGreatDoor
open Go.RowKit Go.WideMaps Go.Maps
set_option linter.unusedVariables false
set_option linter.unusedSimpArgs false
set_option maxRecDepth 100000
/-- packs of which nothing was posted -/
def psL (ex : Nat → Nat → Int) (u n : Nat) : List (Nat × Int × Int) := (List.range n).map fun i => (i + 1, ex u (i + 1), 0)
theorem psL_len (ex : Nat → Nat → Int) (u n : Nat) : (psL ex u n).length = n := by simp [psL]
theorem ps_at {D : DM} {cnt : Nat → Nat} {ex : Nat → Nat → Int} (h : PS D cnt ex) (hS : StrD D) (u : Nat) (hu : u < 4294967296) (hn : cnt u < 1000000) : PackAt D u (psL ex u (cnt u)) := by
  refine ⟨?_, ?_, ?_, ?_⟩
  · rw [ps_pre h hS u hu hn]
    unfold psL
    rw [List.map_map]
    rfl
  · intro x hx
    obtain ⟨i, hi, rfl⟩ := List.mem_map.1 hx
    have := List.mem_range.1 hi
    exact ⟨by show i + 1 < _; omega, h.exs u (i + 1)⟩
  · intro x hx
    obtain ⟨i, hi, rfl⟩ := List.mem_map.1 hx
    have := List.mem_range.1 hi
    exact ps_bal h (pname_acc ⟨by omega, by omega⟩ ⟨by omega, by omega⟩)
  · unfold psL
    rw [List.pairwise_map]
    exact List.pairwise_lt_range.imp fun {a b} hab e => by
      simp only at e
      omega
theorem psL_next (ex : Nat → Nat → Int) (u : Nat) : ∀ n, nextN (psL ex u n) = n + 1
  | 0 => rfl
  | n + 1 => by
    have h1 : psL ex u (n + 1) = psL ex u n ++ [(n + 1, ex u (n + 1), 0)] := by simp [psL, List.range_succ]
    have h2 := psL_next ex u n
    unfold nextN at *
    rw [h1, List.foldl_append, h2]
    show max (n + 1) (n + 1 + 1) = _
    omega
theorem psL_live (ex : Nat → Nat → Int) (u n : Nat) (now : Int) : liveL now (lefts (psL ex u n)) = [] := by
  have h : (lefts (psL ex u n)).filter (fun x => !deadB now x) = [] := by
    rw [List.filter_eq_nil_iff]
    intro x hx
    obtain ⟨y, hy, rfl⟩ := List.mem_map.1 hx
    obtain ⟨i, hi, rfl⟩ := List.mem_map.1 hy
    simp [deadB]
  unfold liveL
  rw [h]
  simp [sortL]
def badA (units e now : Int) : Prop := units < 1 ∨ 1099511627776 < units ∨ e ≤ now ∨ 137438953472 < e
instance (units e now : Int) : Decidable (badA units e now) := inferInstanceAs (Decidable (_ ∨ _))
def pkR (cnt : Nat → Nat) (u : Nat) (units e now : Int) : Nat × List Pt × Int := if badA units e now then (0, [], 1) else (cnt u + 1, addParts u (cnt u + 1) units, 0)
def pkC (cnt : Nat → Nat) (u : Nat) (units e now : Int) : Nat → Nat := if badA units e now then cnt else cntP cnt u
def pkE (cnt : Nat → Nat) (ex : Nat → Nat → Int) (u : Nat) (units e now : Int) : Nat → Nat → Int := if badA units e now then ex else exP cnt ex u e
theorem pkC_le {cnt : Nat → Nat} {m u : Nat} {units e now : Int} (h : ∀ x, cnt x ≤ m) : ∀ x, pkC cnt u units e now x ≤ m + 1 := fun x => by
  have h1 := h x
  have h2 := h u
  unfold pkC cntP
  split
  · omega
  · dsimp only
    split <;> omega
def PkEnd (p b1 b2 n : Nat) (cnt : Nat → Nat) (ex : Nat → Nat → Int) (u : Nat) (units e now : Int) (w : World) (en : Ending) (w' : World) : Prop := ∃ pv D', en = .returned (.tuple #[.int .u32 (pkR cnt u units e now).1, pv, .int .i64 (pkR cnt u units e now).2.2]) ∧ RowsIn w' pv 2 ((pkR cnt u units e now).2.1.map Pt.cells) ∧ MemS w' p b1 b2 (-1) (n + 1) D' (.map []) ∧ PS D' (pkC cnt u units e now) (pkE cnt ex u units e now) ∧ Turned b1 w w'
theorem pkey_len (u id : Nat) : (pkey u id).length = 17 := rfl
theorem pk_add {p b1 b2 n : Nat} {D : DM} {cnt : Nat → Nat} {ex : Nat → Nat → Int} (u : Nat) (units e now : Int) (w : World) (hE : EnvA w) (hM : MemS w p b1 b2 (-1) n D (.map [])) (hP : PS D cnt ex) (hn : n < 900000) (hu : u < 4294967296) (hc : ∀ x, cnt x < 1000) (hun : Acct.inInt units) (hex : Acct.inInt e) :
    Calls Tryz.prog 13 #[memI p, .int .u32 u, .int .i64 units, .int .i64 e, .int .i64 now] w (PkEnd p b1 b2 n cnt ex u units e now w) := by
  have hcu := hc u
  refine (add_any u units e now w hE hM (by omega) hP.isM (ps_at hP hM.now.strD u hu (by omega)) hu (by rw [psL_len]; omega) (fun x hx => by
    obtain ⟨i, hi, rfl⟩ := List.mem_map.1 hx
    have := List.mem_range.1 hi
    show i + 1 < _
    omega) hun hex).mono ?_
  rintro en w' ⟨pv, he, hr, hm, ht⟩
  by_cases hbad : badA units e now
  · have e1 : addF (-1) D (psL ex u (cnt u)) u units e now = (0, [], 1, D) := if_pos hbad
    have e2 : pkR cnt u units e now = (0, [], 1) := if_pos hbad
    have e3 : pkC cnt u units e now = cnt := if_pos hbad
    have e4 : pkE cnt ex u units e now = ex := if_pos hbad
    rw [e1] at he hr hm
    exact ⟨pv, D, by rw [e2]; exact he, by rw [e2]; exact hr, hm, by rw [e3, e4]; exact hP, ht⟩
  · have hput : putE (-1) D (pkey u (cnt u + 1)) (packL (cnt u + 1) e) = 0 := putE_free (by unfold pkey; exact List.cons_ne_nil _ _) (by rw [pkey_len]; omega) (by simp [packL, big8])
    have e0 : addF (-1) D (psL ex u (cnt u)) u units e now = (cnt u + 1, addParts u (cnt u + 1) units, 0, pt D (pkey u (cnt u + 1)) (packL (cnt u + 1) e)) := by
      have hb : ¬ (units < 1 ∨ 1099511627776 < units ∨ e ≤ now ∨ 137438953472 < e) := hbad
      unfold addF
      rw [if_neg hb, psL_live, if_neg (by simp), psL_next, if_pos hput]
      unfold putD
      rw [if_pos hput]
    have e2 : pkR cnt u units e now = (cnt u + 1, addParts u (cnt u + 1) units, 0) := if_neg hbad
    have e3 : pkC cnt u units e now = cntP cnt u := if_neg hbad
    have e4 : pkE cnt ex u units e now = exP cnt ex u e := if_neg hbad
    rw [e0] at he hr hm
    exact ⟨pv, _, by rw [e2]; exact he, by rw [e2]; exact hr, hm, by rw [e3, e4]; exact ps_put hP hu (fun x => by have := hc x; omega) hex, ht⟩
theorem drawn_rows {w : World} {base : Nat} {v : Value} {l : List (ByteArray × Int)} (h : w.ownsRow base 30 2 v l.length (partsC l)) : RowsIn w v 2 ((l.map fun x => (⟨x.1, x.2⟩ : Pt)).map Pt.cells) := by
  refine jrows_own (base := base) (e := 30) (fun r hr => ?_) ?_
  · obtain ⟨x, -, rfl⟩ := List.mem_map.1 hr
    rfl
  · rw [List.length_map, List.length_map, List.map_map]
    have e : ((l.map (Pt.cells ∘ fun x => (⟨x.1, x.2⟩ : Pt))).flatten) = partsC l := by
      unfold partsC
      rw [List.flatMap_def]
      rfl
    rw [e]
    exact h
def usumP (l : List Lf) : Int := (l.map fun x => x.2.2).sum
theorem usumP_snoc (l : List Lf) (x : Lf) : usumP (l ++ [x]) = usumP l + x.2.2 := by simp [usumP]
theorem usumP_bd : ∀ (l : List Lf), (∀ x ∈ l, 0 ≤ x.2.2 ∧ x.2.2 ≤ 4294967295) → 0 ≤ usumP l ∧ usumP l ≤ 4294967295 * (l.length : Int)
  | [], _ => by simp [usumP]
  | x :: r, h => by
    have h1 := usumP_bd r fun y hy => h y (List.mem_cons_of_mem _ hy)
    have h2 := h x List.mem_cons_self
    have e : usumP (x :: r) = x.2.2 + usumP r := by simp [usumP]
    rw [e, List.length_cons]
    omega
set_option maxHeartbeats 1000000 in
theorem totalP_any (v : Value) (ls : List Lf) (w : World) (hL : LeftsAt w v ls) (hls : ∀ x ∈ ls, 0 ≤ x.2.2 ∧ x.2.2 ≤ 4294967295) (hll : ls.length ≤ 1000) :
    Calls Tryz.prog 10 #[v] w fun e w' => e = .returned (.int .i64 (usumP ls)) ∧ Below w.heap.size w w' := by
  obtain ⟨a, c, rfl, hc⟩ := hL
  have HC := Lib.hid hc
  have HB : Hid (∀ k, k ≤ ls.length → 0 ≤ usumP (ls.take k) ∧ usumP (ls.take k) ≤ 4294967295000) := fun k hk => by
    have h1 := usumP_bd (ls.take k) fun x hx => hls x (List.mem_of_mem_take hx)
    have h2 : (ls.take k).length = k := by rw [List.length_take]; omega
    rw [h2] at h1
    omega
  have HU := Lib.hid hls
  clear hc hls
  go_enter Tryz.func10, Tryz.ntmps10
  go_wp2_with fail
  go_loopw [3, 8] (fun t i wr => ∃ k : Nat, k ≤ ls.length ∧ i = .int .i64 k ∧ t = .int .i64 (usumP (ls.take k)) ∧ Below w.heap.size w wr) (fun _ i _ => ls.length - (intOf i).toNat)
  case atStart => exact ⟨0, by omega, rfl, by simp [usumP], Below.refl _ _⟩
  case round =>
    obtain ⟨k, hk, rfl, rfl, hbr⟩ := hrel
    have BR := Lib.hid hbr
    have hb0 := HB.out k hk
    clear hbr
    by_cases hlt : k < ls.length
    · obtain ⟨b, o, rfl, h1, h2, h3⟩ := HC.out k hlt
      replace h1 := stays BR.out h1
      replace h2 := stays BR.out h2
      replace h3 := stays BR.out h3
      have hx := HU.out _ (List.getElem_mem hlt)
      rw [getD_at _ _ _ hlt] at h1 h2 h3
      have HT : Hid (usumP (ls.take (k + 1)) = usumP (ls.take k) + ls[k].2.2) := by
        unfold Hid
        rw [List.take_succ_eq_append_getElem hlt, usumP_snoc]
      have hb1 := HB.out (k + 1) (by omega)
      rw [HT.out] at hb1
      generalize ls[k] = x at *
      obtain ⟨id, ex, un⟩ := x
      simp only at h1 h2 h3 hx HT hb1
      have B2 := Lib.hid (onward (below_alloc _ (.cells #[.int .u32 id, .int .i64 ex, .int .i64 un] 34)) BR.out)
      clear HB
      generalize usumP (ls.take k) = S at *
      go_wp2
      go_roundw
      case rel => exact ⟨k + 1, by omega, by go_num, by rw [HT.out], B2.out⟩
      case measure => simp [intOf]; omega
    · obtain rfl : k = ls.length := by omega
      rw [List.take_length] at *
      go_wp2
      go_ret
      exact ⟨rfl, BR.out⟩
theorem lefts2 {w : World} {g : Nat} {a b c a' b' c' : Int} (h : w.heap[g]? = some (.cells #[.int .u32 a, .int .i64 b, .int .i64 c, .int .u32 a', .int .i64 b', .int .i64 c'] 34 (0, 0))) : LeftsAt w (.slice (some ⟨g, 0, none⟩) 2 2) [(a, b, c), (a', b', c')] :=
  ⟨_, 2, rfl, fun i hi => ⟨g, 0, rfl, by
    have hi2 : i = 0 ∨ i = 1 := by simp at hi; omega
    rcases hi2 with rfl | rfl <;> exact ⟨by rw [cell_of_row h]; rfl, by rw [cell_of_row h]; rfl, by rw [cell_of_row h]; rfl⟩⟩⟩
abbrev pk11 : ByteArray := ⟨#[112, 97, 99, 107, 47, 49, 47, 49]⟩
abbrev pk12 : ByteArray := ⟨#[112, 97, 99, 107, 47, 49, 47, 50]⟩
abbrev sold1 : ByteArray := ⟨#[115, 111, 108, 100, 47, 49]⟩
theorem nm11 : Acct.nameB wPack [1, 1] = pk11 := by decide +kernel
theorem nm12 : Acct.nameB wPack [1, 2] = pk12 := by decide +kernel
theorem nms1 : Acct.nameB wSold [1] = sold1 := by decide +kernel
theorem two_parts {w : World} {v : Value} {p q : Pt} (h : RowsIn w v 2 ([p, q].map Pt.cells)) : ∃ b o c, v = .slice (some ⟨b, o, none⟩) 2 c ∧ w.cell? ⟨b, o, none⟩ = some (.string p.a) ∧ w.cell? ⟨b, o + 1, none⟩ = some (.int .i64 p.n) ∧ w.cell? ⟨b, o + 2, none⟩ = some (.string q.a) ∧ w.cell? ⟨b, o + 2 + 1, none⟩ = some (.int .i64 q.n) := by
  obtain ⟨a, c, rfl⟩ := pt_form h
  obtain ⟨b, o, rfl, h1, h2⟩ := pt_cells h 0 (by simp)
  obtain ⟨b', o', e, h3, h4⟩ := pt_cells h 1 (by simp)
  injection e with e
  injection e with e1 e2 _
  subst e1 e2
  exact ⟨b, o, c, rfl, by simpa using h1, by simpa using h2, by simpa using h3, by simpa using h4⟩
set_option maxHeartbeats 2000000 in
theorem goesP_any (w : World) (hE : EnvA w) : Calls Tryz.prog 11 #[] w fun e w' => e = .returned (.bool true) ∧ Below w.heap.size w w' := by
  have HE := Lib.hid hE
  clear hE
  go_enter Tryz.func11, Tryz.ntmps11
  go_wp2_with fail
  refine (new_any (-1) w).mono ?_
  rintro e w1 ⟨p, b1, b2, rfl, hm, hb, -, hb1, -⟩
  have B1 := Lib.hid hb
  have M1 := Lib.hid hm
  have HB1 : Hid (w.heap.size ≤ b1) := hb1
  have AX := Lib.hid (pk_add 1 10 100 5 w1 (HE.out.below hb) hm ps_empty (by omega) (by omega) (fun _ => by omega) ⟨by omega, by omega⟩ ⟨by omega, by omega⟩)
  clear hm hb hb1
  go_wp2_with fail
  refine AX.out.mono ?_
  rintro e w2 ⟨pv, D2, rfl, hr, hm, hp, ht⟩
  have e1 : pkR (fun _ => 0) 1 10 100 5 = (1, addParts 1 1 10, 0) := if_neg (by unfold badA; omega)
  rw [e1] at hr ⊢
  have B2 : Hid (Below w.heap.size w w2) := B1.out.trans (ht.below B1.out.size HB1.out)
  obtain ⟨g, o, c, rfl, -⟩ := two_parts hr
  have R2 := Lib.hid hr
  have AY := Lib.hid (pk_add 1 10 5 5 w2 (HE.out.below B2.out) hm hp (by omega) (by omega) (fun x => by have := pkC_le (cnt := fun _ => 0) (m := 0) (u := 1) (units := 10) (e := 100) (now := 5) (fun _ => Nat.le_refl 0) x; omega) ⟨by omega, by omega⟩ ⟨by omega, by omega⟩)
  clear hr hm hp ht e1 AX
  dsimp only
  go_wp2_with fail
  refine AY.out.mono ?_
  rintro e w3 ⟨pv3, D3, rfl, hr, hm, hp, ht⟩
  have e1 : ∀ c, pkR c 1 10 5 5 = (0, [], 1) := fun c => if_pos (by unfold badA; omega)
  rw [e1] at hr ⊢
  obtain ⟨a3, c3, rfl⟩ := pt_form hr
  have B3 : Hid (Below w.heap.size w w3) := B2.out.trans (ht.below B2.out.size HB1.out)
  have R3 := Lib.hid (ht.rows R2.out (pt_rows _))
  clear hr hm hp ht e1 AY R2
  simp only
  obtain ⟨w4, hw4⟩ : ∃ W, W = w3.alloc (.cells #[.int .u32 1, .int .i64 0, .int .i64 3, .int .u32 2, .int .i64 0, .int .i64 5] 34) := ⟨_, rfl⟩
  have hb4 : Below w3.heap.size w3 w4 := by rw [hw4]; exact below_alloc _ _
  have h4 : w4.heap[w3.heap.size]? = some (.cells #[.int .u32 1, .int .i64 0, .int .i64 3, .int .u32 2, .int .i64 0, .int .i64 5] 34 (0, 0)) := by rw [hw4]; exact alloc_block _ _ _ _
  have B4 := Lib.hid (onward hb4 B3.out)
  have L4 := Lib.hid (lefts2 h4)
  have R4 := Lib.hid (R3.out.below hb4)
  have DX := Lib.hid (draw_any 1 9 _ [(1, 0, 3), (2, 0, 5)] w4 (HE.out.below (onward hb4 B3.out)).pow (lefts2 h4) (by omega) (by simp) ⟨by omega, by omega⟩ (by simp))
  clear hb4 h4 R3
  go_upto_region 5 with fail
  rw [← hw4]
  clear hw4
  go_wp2_with fail
  refine DX.out.mono ?_
  rintro e w5 ⟨pv5, rfl, hb, ho⟩
  have ed : drawL 1 (max 0 9) [(1, 0, 3), (2, 0, 5)] = [(pk11, -3), (pk12, -5)] := by
    have : drawL 1 (max 0 9) [(1, 0, 3), (2, 0, 5)] = [(Acct.nameB wPack [1, 1], -3), (Acct.nameB wPack [1, 2], -5)] := rfl
    rw [this, nm11, nm12]
  have er : drawR (max 0 9) [(1, 0, 3), (2, 0, 5)] = 1 := rfl
  rw [ed] at ho
  rw [er]
  obtain ⟨g5, o5, c5, rfl, -, -, -, k4⟩ := two_parts (drawn_rows ho)
  obtain ⟨g', o', c', e', j1, j2, j3, j4⟩ := two_parts (R4.out.below hb)
  obtain ⟨rfl, rfl⟩ : g = g' ∧ o = o' := by
    injection e' with e1 _ _
    injection e1 with e1
    injection e1 with e1 e2 _
    exact ⟨e1, e2⟩
  have n1 : Acct.nameB wPack [((1 : Nat) : Int), ((1 : Nat) : Int)] = pk11 := nm11
  have n2 : Acct.nameB wSold [((1 : Nat) : Int)] = sold1 := nms1
  simp only [addParts] at j1 j2 j3 j4
  rw [n1] at j1
  rw [n2] at j3
  have B5 := Lib.hid (onward hb B4.out)
  have TX := Lib.hid (totalP_any _ [(1, 0, 3), (2, 0, 5)] w5 (L4.out.below hb) (by simp) (by simp))
  have eu : usumP [(1, 0, 3), (2, 0, 5)] = 8 := rfl
  rw [eu] at TX
  clear ho hb DX ed er L4 R4
  go_wp2_with fail
  refine TX.out.mono ?_
  rintro e w6 ⟨rfl, hb⟩
  have B6 := Lib.hid (onward hb B5.out)
  go_wp2_with fail
  go_ret
  exact ⟨rfl, B6.out⟩
end Go.Proofs.YtcaihncnmjegoaaGreatDoor

/-! The walk of the law PacksOrder. -/
namespace Go.Proofs.YtcaihncnmjegoaaGreatDoor
open Go.RowKit Go.WideMaps Go.Maps
set_option linter.unusedVariables false
set_option linter.unusedSimpArgs false
set_option maxRecDepth 100000
theorem NumsAt.cellP {k : IntKind} {w : World} {a : Option Addr} {n c : Nat} {ns : List Int} (h : NumsAt k w (.slice a n c) ns) (i : Nat) (hi : i < ns.length) : ∃ g o, a = some ⟨g, o, none⟩ ∧ w.cell? ⟨g, o + i, none⟩ = some (.int k ns[i]) := by
  obtain ⟨a', c', e, hx⟩ := h
  injection e with e1 _ _
  subst e1
  obtain ⟨g, o, rfl, h1⟩ := hx i hi
  exact ⟨g, o, rfl, by rw [h1, getD_at _ _ _ hi]⟩
theorem NumsAt.formP {k : IntKind} {w : World} {v : Value} {ns : List Int} (h : NumsAt k w v ns) : ∃ a c, v = .slice a ns.length c := by
  obtain ⟨a, c, e, -⟩ := h
  exact ⟨a, c, e⟩
theorem NumsAt.belowP {k : IntKind} {w w' : World} {v : Value} {ns : List Int} (h : NumsAt k w v ns) (hb : Below w.heap.size w w') : NumsAt k w' v ns := by
  obtain ⟨a, c, rfl, hx⟩ := h
  exact ⟨a, c, rfl, fun i hi => by
    obtain ⟨b, o, rfl, h1⟩ := hx i hi
    exact ⟨b, o, rfl, stays hb h1⟩⟩
end Go.Proofs.YtcaihncnmjegoaaGreatDoor

/-! The walk of the laws' lefts; plain facts of what is drawn. -/
namespace Go.Proofs.YtcaihncnmjegoaaGreatDoor
open Go.RowKit Go.WideMaps Go.Maps
set_option linter.unusedVariables false
set_option linter.unusedSimpArgs false
set_option maxRecDepth 100000
/-- packs of these units -/
def lfs (us : List Int) : List Lf := (List.range us.length).map fun i => (((i + 1 : Nat) : Int), (i : Int), us.getD i 0)
theorem lfs_len (us : List Int) : (lfs us).length = us.length := by simp [lfs]
theorem lfs_take (us : List Int) (i : Nat) (h : i < us.length) : (lfs us).take (i + 1) = (lfs us).take i ++ [(((i + 1 : Nat) : Int), (i : Int), us[i])] := by
  rw [List.take_succ_eq_append_getElem (by rw [lfs_len]; exact h)]
  congr 2
  unfold lfs
  rw [List.getElem_map, List.getElem_range]
  simp [List.getD, h]
theorem lfs_mem {us : List Int} (h : ∀ t ∈ us, 0 ≤ t ∧ t < 4294967296) : ∀ x ∈ lfs us, 0 ≤ x.2.2 ∧ x.2.2 ≤ 4294967295 := by
  intro x hx
  obtain ⟨i, hi, rfl⟩ := List.mem_map.1 hx
  have hi' := List.mem_range.1 hi
  have h1 := h us[i] (List.getElem_mem hi')
  have e : us.getD i 0 = us[i] := by simp [List.getD, hi']
  show 0 ≤ us.getD i 0 ∧ us.getD i 0 ≤ 4294967295
  rw [e]
  omega
theorem lfs_ids {us : List Int} (h : us.length ≤ 100) : ∀ x ∈ lfs us, 0 ≤ x.1 ∧ x.1 < 4294967296 := by
  intro x hx
  obtain ⟨i, hi, rfl⟩ := List.mem_map.1 hx
  have hi' := List.mem_range.1 hi
  show 0 ≤ ((i + 1 : Nat) : Int) ∧ ((i + 1 : Nat) : Int) < 4294967296
  omega
set_option maxHeartbeats 2000000 in
theorem leftsW_any (uv : Value) (us : List Int) (w : World) (hU : NumsAt .u32 w uv us) (hu : ∀ t ∈ us, 0 ≤ t ∧ t < 4294967296) (hl : us.length ≤ 100) :
    Calls Tryz.prog 8 #[uv] w fun e w' => ∃ v, e = .returned v ∧ w'.ownsRow w.heap.size 34 3 v us.length (leftsC (lfs us)) ∧ Below w.heap.size w w' := by
  have HU := Lib.hid hU
  have HB := Lib.hid hu
  obtain ⟨a, c, rfl⟩ := hU.formP
  clear hU hu
  obtain ⟨i0, hi, hz0, hz1, hz2⟩ := info_parts infoLeft
  go_enter Tryz.func8, Tryz.ntmps8
  go_wp2_with fail
  go_loopw [3, 4] (fun ov iv wr => ∃ i : Nat, i ≤ us.length ∧ iv = .int .i64 i ∧ Hid (wr.ownsRow w.heap.size 34 3 ov i (leftsC ((lfs us).take i))) ∧ Hid (Below w.heap.size w wr)) (fun _ iv _ => us.length - (intOf iv).toNat)
  case atStart => exact ⟨0, by omega, rfl, World.ownsRow_nil _ _ _ _, Below.refl _ _⟩
  case round =>
    obtain ⟨i, hi1, rfl, OR, BR⟩ := hrel
    by_cases hlt : i < us.length
    · have hz : (i : Int) < (us.length : Int) := by omega
      obtain ⟨g, o, rfl, hc⟩ := (HU.out.belowP BR.out).cellP i hlt
      have hx := HB.out _ (List.getElem_mem hlt)
      have HS := Lib.hid (lfs_take us i hlt)
      generalize us[i] = x at *
      have hw1 : IntKind.u32.wrap ((i : Int) + 1) = (i : Int) + 1 := by
        have e : ∀ z : Int, IntKind.u32.wrap z = z % 4294967296 := fun _ => rfl
        rw [e]; omega
      have hw2 : IntKind.i64.wrap x = x := IntWalk.i64_in _ (by omega)
      have hle := BR.out.size
      go_wp2_with (at_builtin; refine wpList_append_own _ rfl _ _ 24 rfl w.heap.size 34 i0 _ 3 24 Tryz.underlying24 hi hz0 hz1 hz2 rfl (by decide) _ _ _ rfl (OR.out.alloc _) ⟨wr.heap.size, 0, none⟩ 1 1 [.int .u32 ((i : Int) + 1), .int .i64 i, .int .i64 x] rfl rfl (new_cells _ _ _) (by intro u hu; simp only [List.mem_cons, List.not_mem_nil, or_false] at hu; rcases hu with rfl | rfl | rfl <;> rfl) (by unfold maxLen; omega) (by omega) (by simp; omega) ?_)
      intro v' w9 hown9 hgrow9 _
      have B9 : Hid (Below w.heap.size w w9) := owned_below (OR.out.alloc _) (BR.out.alloc BR.out.size _) hgrow9
      have O9 : Hid (w9.ownsRow w.heap.size 34 3 v' (i + 1) (leftsC ((lfs us).take (i + 1)))) := by
        unfold Hid
        rw [HS.out]
        unfold leftsC
        rw [List.flatMap_append]
        exact hown9
      clear hown9 hgrow9 OR HS hc
      go_wp2_with fail
      go_roundw
      case rel => exact ⟨i + 1, by omega, by go_num, O9.out, B9.out⟩
      case measure => simp [intOf]; omega
    · obtain rfl : i = us.length := by omega
      have dk0 : decide ((us.length : Int) < (us.length : Int)) = false := decide_eq_false (by omega)
      go_wp2_with fail
      go_ret
      exact ⟨_, rfl, by have := OR.out; rw [List.take_of_length_le (by rw [lfs_len]; exact Nat.le_refl _)] at this; exact this, BR.out⟩
theorem draw_zero (t : Int) : ∀ (ls : List Lf), (∀ x ∈ ls, 0 ≤ x.2.2) → drawL t 0 ls = []
  | [], _ => rfl
  | x :: r, h => by
    have h1 := h x List.mem_cons_self
    unfold drawL
    rw [if_neg (by omega)]
    exact draw_zero t r fun y hy => h y (List.mem_cons_of_mem _ hy)
theorem drawR_pos : ∀ (ls : List Lf) (R : Int), 0 ≤ R → 0 ≤ drawR R ls
  | [], R, h => h
  | x :: r, R, h => by
    unfold drawR
    by_cases hm : 0 < min R x.2.2
    · rw [if_pos hm]; exact drawR_pos r _ (by omega)
    · rw [if_neg hm]; exact drawR_pos r R h
theorem drawR_all : ∀ (ls : List Lf) (R : Int), (∀ x ∈ ls, 0 ≤ x.2.2) → 0 ≤ R → drawR R ls = max 0 (R - usumP ls)
  | [], R, _, h => by show R = max 0 (R - 0); omega
  | x :: r, R, h, hR => by
    have h1 := h x List.mem_cons_self
    have h2 : ∀ y ∈ r, 0 ≤ y.2.2 := fun y hy => h y (List.mem_cons_of_mem _ hy)
    have e : usumP (x :: r) = x.2.2 + usumP r := by simp [usumP]
    have hs : ∀ (l : List Lf), (∀ y ∈ l, 0 ≤ y.2.2) → 0 ≤ usumP l := by
      intro l
      induction l with
      | nil => intro _; exact Int.le_refl 0
      | cons y s ih =>
        intro hl
        have e2 : usumP (y :: s) = y.2.2 + usumP s := by simp [usumP]
        have h3 := ih fun z hz => hl z (List.mem_cons_of_mem _ hz)
        have h4 := hl y List.mem_cons_self
        rw [e2]; omega
    have hsr := hs r h2
    unfold drawR
    rw [e]
    by_cases hm : 0 < min R x.2.2
    · rw [if_pos hm, drawR_all r _ h2 (by omega)]
      omega
    · rw [if_neg hm, drawR_all r R h2 hR]
      omega
theorem draw_step (t : Int) : ∀ (ls : List Lf) (R : Int), (∀ x ∈ ls, 0 ≤ x.2.2) → 0 ≤ R → ∀ p D, drawL t R ls = p :: D → ∃ j, j < ls.length ∧ (∀ i, i < j → ls[i]!.2.2 = 0) ∧ 0 < ls[j]!.2.2 ∧ 0 < R ∧ p = (Acct.nameB wPack [t, ls[j]!.1], -(min R ls[j]!.2.2)) ∧ D = drawL t (R - min R ls[j]!.2.2) (ls.drop (j + 1)) ∧ drawR R ls = drawR (R - min R ls[j]!.2.2) (ls.drop (j + 1)) ∧ (D ≠ [] → min R ls[j]!.2.2 = ls[j]!.2.2)
  | [], R, _, _, p, D, h => by cases h
  | x :: r, R, h, hR, p, D, hd => by
    have h1 := h x List.mem_cons_self
    have h2 : ∀ y ∈ r, 0 ≤ y.2.2 := fun y hy => h y (List.mem_cons_of_mem _ hy)
    unfold drawL at hd
    by_cases hm : 0 < min R x.2.2
    · rw [if_pos hm] at hd
      injection hd with e1 e2
      refine ⟨0, by simp, fun i hi => absurd hi (Nat.not_lt_zero _), by show 0 < x.2.2; omega, by omega, e1.symm, e2.symm, ?_, fun hne => ?_⟩
      · show drawR R (x :: r) = drawR (R - min R x.2.2) r
        rw [drawR, if_pos hm]
      · show min R x.2.2 = x.2.2
        by_cases hz : R - min R x.2.2 = 0
        · rw [hz, draw_zero t r h2] at e2
          exact absurd e2.symm hne
        · omega
    · rw [if_neg hm] at hd
      obtain ⟨j, j1, j2, j3, j4, j5, j6, j7, j8⟩ := draw_step t r R h2 hR p D hd
      refine ⟨j + 1, by simp; omega, fun i hi => ?_, j3, j4, j5, j6, ?_, j8⟩
      · cases i with
        | zero => show x.2.2 = 0; omega
        | succ i => exact j2 i (by omega)
      · show drawR R (x :: r) = drawR (R - min R r[j]!.2.2) (r.drop (j + 1))
        rw [drawR, if_neg hm]
        exact j7
theorem draw_len (t : Int) : ∀ (ls : List Lf) (R : Int), (drawL t R ls).length ≤ ls.length
  | [], R => Nat.le_refl _
  | x :: r, R => by
    unfold drawL
    split
    · simp only [List.length_cons]; have := draw_len t r (R - min R x.2.2); omega
    · simp only [List.length_cons]; have := draw_len t r R; omega
end Go.Proofs.YtcaihncnmjegoaaGreatDoor

/-! The walk of the law PacksDraw. -/
namespace Go.Proofs.YtcaihncnmjegoaaGreatDoor
open Go.RowKit Go.WideMaps Go.Maps
set_option linter.unusedVariables false
set_option linter.unusedSimpArgs false
set_option maxRecDepth 10000000
theorem lefts_own {w : World} {B : Nat} {v : Value} {n : Nat} {ls : List Lf} (h : w.ownsRow B 34 3 v n (leftsC ls)) (hn : ls.length = n) : LeftsAt w v ls := by
  rcases Go.Joins.ownsRow_forms h with ⟨rfl, h0⟩ | ⟨g, cap, rfl⟩
  · obtain rfl : ls = [] := List.length_eq_zero_iff.1 (by omega)
    exact ⟨none, 0, rfl, fun i hi => by simp at hi⟩
  · have := lefts_at_take (m := n) (c := cap) h hn (Nat.le_refl _)
    rw [List.take_of_length_le (by omega)] at this
    exact this
end Go.Proofs.YtcaihncnmjegoaaGreatDoor

