/- A store of packs of which nothing was posted: Add and Live; the walks of the laws' parts and lefts, and of packs.Total. The walk of the law PacksKnown. The walk of the law PacksOrder. -/
import Derived.Test.YtcaihncnmjegoaaGreatDoorPkPacks15
import Derived.Test.YtcaihncnmjegoaaGreatDoorPkPacks4
/-! A store of packs of which nothing was posted: Add and Live; the walks of the laws' parts and lefts, and of packs.Total. -/
namespace Go.Proofs.YtcaihncnmjegoaaGreatDoor
open Go.RowKit Go.WideMaps Go.Maps
set_option linter.unusedVariables false
set_option linter.unusedSimpArgs false
set_option maxRecDepth 100000
/-- packs of which nothing was posted -/
def psL (ex : Nat → Nat → Int) (u n : Nat) : List (Nat × Int × Int) := (List.range n).map fun i => (i + 1, ex u (i + 1), 0)
theorem psL_len (ex : Nat → Nat → Int) (u n : Nat) : (psL ex u n).length = n := by simp [psL]
theorem ps_at {D : DM} {cnt : Nat → Nat} {ex : Nat → Nat → Int} (h : PS D cnt ex) (hS : StrD D) (u : Nat) (hu : u < 4294967296) (hn : cnt u < 1000000) : PackAt D u (psL ex u (cnt u)) := by
  refine ⟨?_, ?_, ?_, ?_⟩
  · rw [ps_pre h hS u hu hn]
    unfold psL
    rw [List.map_map]
    rfl
  · intro x hx
    obtain ⟨i, hi, rfl⟩ := List.mem_map.1 hx
    have := List.mem_range.1 hi
    exact ⟨by show i + 1 < _; omega, h.exs u (i + 1)⟩
  · intro x hx
    obtain ⟨i, hi, rfl⟩ := List.mem_map.1 hx
    have := List.mem_range.1 hi
    exact ps_bal h (pname_acc ⟨by omega, by omega⟩ ⟨by omega, by omega⟩)
  · unfold psL
    rw [List.pairwise_map]
    exact List.pairwise_lt_range.imp fun {a b} hab e => by
      simp only at e
      omega
theorem psL_next (ex : Nat → Nat → Int) (u : Nat) : ∀ n, nextN (psL ex u n) = n + 1
  | 0 => rfl
  | n + 1 => by
    have h1 : psL ex u (n + 1) = psL ex u n ++ [(n + 1, ex u (n + 1), 0)] := by simp [psL, List.range_succ]
    have h2 := psL_next ex u n
    unfold nextN at *
    rw [h1, List.foldl_append, h2]
    show max (n + 1) (n + 1 + 1) = _
    omega
theorem psL_live (ex : Nat → Nat → Int) (u n : Nat) (now : Int) : liveL now (lefts (psL ex u n)) = [] := by
  have h : (lefts (psL ex u n)).filter (fun x => !deadB now x) = [] := by
    rw [List.filter_eq_nil_iff]
    intro x hx
    obtain ⟨y, hy, rfl⟩ := List.mem_map.1 hx
    obtain ⟨i, hi, rfl⟩ := List.mem_map.1 hy
    simp [deadB]
  unfold liveL
  rw [h]
  simp [sortL]
def badA (units e now : Int) : Prop := units < 1 ∨ 1099511627776 < units ∨ e ≤ now ∨ 137438953472 < e
instance (units e now : Int) : Decidable (badA units e now) := inferInstanceAs (Decidable (_ ∨ _))
def pkR (cnt : Nat → Nat) (u : Nat) (units e now : Int) : Nat × List Pt × Int := if badA units e now then (0, [], 1) else (cnt u + 1, addParts u (cnt u + 1) units, 0)
def pkC (cnt : Nat → Nat) (u : Nat) (units e now : Int) : Nat → Nat := if badA units e now then cnt else cntP cnt u
def pkE (cnt : Nat → Nat) (ex : Nat → Nat → Int) (u : Nat) (units e now : Int) : Nat → Nat → Int := if badA units e now then ex else exP cnt ex u e
theorem pkC_le {cnt : Nat → Nat} {m u : Nat} {units e now : Int} (h : ∀ x, cnt x ≤ m) : ∀ x, pkC cnt u units e now x ≤ m + 1 := fun x => by
  have h1 := h x
  have h2 := h u
  unfold pkC cntP
  split
  · omega
  · dsimp only
    split <;> omega
def PkEnd (p b1 b2 n : Nat) (cnt : Nat → Nat) (ex : Nat → Nat → Int) (u : Nat) (units e now : Int) (w : World) (en : Ending) (w' : World) : Prop := ∃ pv D', en = .returned (.tuple #[.int .u32 (pkR cnt u units e now).1, pv, .int .i64 (pkR cnt u units e now).2.2]) ∧ RowsIn w' pv 2 ((pkR cnt u units e now).2.1.map Pt.cells) ∧ MemS w' p b1 b2 (-1) (n + 1) D' (.map []) ∧ PS D' (pkC cnt u units e now) (pkE cnt ex u units e now) ∧ Turned b1 w w'
theorem pkey_len (u id : Nat) : (pkey u id).length = 17 := rfl
theorem pk_add {p b1 b2 n : Nat} {D : DM} {cnt : Nat → Nat} {ex : Nat → Nat → Int} (u : Nat) (units e now : Int) (w : World) (hE : EnvA w) (hM : MemS w p b1 b2 (-1) n D (.map [])) (hP : PS D cnt ex) (hn : n < 900000) (hu : u < 4294967296) (hc : ∀ x, cnt x < 1000) (hun : Acct.inInt units) (hex : Acct.inInt e) :
    Calls Tryz.prog 13 #[memI p, .int .u32 u, .int .i64 units, .int .i64 e, .int .i64 now] w (PkEnd p b1 b2 n cnt ex u units e now w) := by
  have hcu := hc u
  refine (add_any u units e now w hE hM (by omega) hP.isM (ps_at hP hM.now.strD u hu (by omega)) hu (by rw [psL_len]; omega) (fun x hx => by
    obtain ⟨i, hi, rfl⟩ := List.mem_map.1 hx
    have := List.mem_range.1 hi
    show i + 1 < _
    omega) hun hex).mono ?_
  rintro en w' ⟨pv, he, hr, hm, ht⟩
  by_cases hbad : badA units e now
  · have e1 : addF (-1) D (psL ex u (cnt u)) u units e now = (0, [], 1, D) := if_pos hbad
    have e2 : pkR cnt u units e now = (0, [], 1) := if_pos hbad
    have e3 : pkC cnt u units e now = cnt := if_pos hbad
    have e4 : pkE cnt ex u units e now = ex := if_pos hbad
    rw [e1] at he hr hm
    exact ⟨pv, D, by rw [e2]; exact he, by rw [e2]; exact hr, hm, by rw [e3, e4]; exact hP, ht⟩
  · have hput : putE (-1) D (pkey u (cnt u + 1)) (packL (cnt u + 1) e) = 0 := putE_free (by unfold pkey; exact List.cons_ne_nil _ _) (by rw [pkey_len]; omega) (by simp [packL, big8])
    have e0 : addF (-1) D (psL ex u (cnt u)) u units e now = (cnt u + 1, addParts u (cnt u + 1) units, 0, pt D (pkey u (cnt u + 1)) (packL (cnt u + 1) e)) := by
      have hb : ¬ (units < 1 ∨ 1099511627776 < units ∨ e ≤ now ∨ 137438953472 < e) := hbad
      unfold addF
      rw [if_neg hb, psL_live, if_neg (by simp), psL_next, if_pos hput]
      unfold putD
      rw [if_pos hput]
    have e2 : pkR cnt u units e now = (cnt u + 1, addParts u (cnt u + 1) units, 0) := if_neg hbad
    have e3 : pkC cnt u units e now = cntP cnt u := if_neg hbad
    have e4 : pkE cnt ex u units e now = exP cnt ex u e := if_neg hbad
    rw [e0] at he hr hm
    exact ⟨pv, _, by rw [e2]; exact he, by rw [e2]; exact hr, hm, by rw [e3, e4]; exact ps_put hP hu (fun x => by have := hc x; omega) hex, ht⟩
set_option maxHeartbeats 1000000 in
theorem partsP_any (v1 v2 : Value) (L : List Pt) (w : World) (h1 : RowsIn w v1 2 (L.map Pt.cells)) (h2 : RowsIn w v2 2 (L.map Pt.cells)) (hn : L.length ≤ 100000) : Calls Tryz.prog 15 #[v1, v2] w fun e w' => e = .returned (.bool true) ∧ Below w.heap.size w w' := by
  have H1 := Lib.hid h1
  have H2 := Lib.hid h2
  obtain ⟨a1, c1, rfl⟩ := pt_form h1
  obtain ⟨a2, c2, rfl⟩ := pt_form h2
  clear h1 h2
  go_enter Tryz.func15, Tryz.ntmps15
  go_wp2_with fail
  go_loopw [5] (fun iv wr => ∃ i : Nat, i ≤ L.length ∧ iv = .int .i64 i ∧ Hid (Below w.heap.size w wr)) (fun iv _ => L.length - (intOf iv).toNat)
  case atStart => exact ⟨0, by omega, rfl, Below.refl _ _⟩
  case round =>
    obtain ⟨i, hi, rfl, BR⟩ := hrel
    by_cases hlt : i < L.length
    · have hz : (i : Int) < (L.length : Int) := by omega
      obtain ⟨g, o, rfl, z0, z1⟩ := pt_cells (H1.out.below BR.out) i hlt
      obtain ⟨g', o', rfl, z0', z1'⟩ := pt_cells (H2.out.below BR.out) i hlt
      generalize L[i] = q at *
      obtain ⟨nm, am⟩ := q
      dsimp only at z0 z1 z0' z1'
      go_upto_region 6 with fail
      go_quiet (fail)
      have BQ := Lib.hid (World.below_drewN (Below.refl wr.heap.size wr) nq)
      go_wp2_with fail
      go_roundw
      case rel => exact ⟨i + 1, by omega, by go_num, onward BQ.out BR.out⟩
      case measure => simp [intOf]; omega
    · obtain rfl : i = L.length := by omega
      have di : decide ((L.length : Int) < (L.length : Int)) = false := decide_eq_false (by omega)
      go_wp2_with fail
      go_ret
      exact ⟨rfl, BR.out⟩
theorem drawn_rows {w : World} {base : Nat} {v : Value} {l : List (ByteArray × Int)} (h : w.ownsRow base 30 2 v l.length (partsC l)) : RowsIn w v 2 ((l.map fun x => (⟨x.1, x.2⟩ : Pt)).map Pt.cells) := by
  refine jrows_own (base := base) (e := 30) (fun r hr => ?_) ?_
  · obtain ⟨x, -, rfl⟩ := List.mem_map.1 hr
    rfl
  · rw [List.length_map, List.length_map, List.map_map]
    have e : ((l.map (Pt.cells ∘ fun x => (⟨x.1, x.2⟩ : Pt))).flatten) = partsC l := by
      unfold partsC
      rw [List.flatMap_def]
      rfl
    rw [e]
    exact h
def usumP (l : List Lf) : Int := (l.map fun x => x.2.2).sum
theorem usumP_snoc (l : List Lf) (x : Lf) : usumP (l ++ [x]) = usumP l + x.2.2 := by simp [usumP]
theorem usumP_bd : ∀ (l : List Lf), (∀ x ∈ l, 0 ≤ x.2.2 ∧ x.2.2 ≤ 4294967295) → 0 ≤ usumP l ∧ usumP l ≤ 4294967295 * (l.length : Int)
  | [], _ => by simp [usumP]
  | x :: r, h => by
    have h1 := usumP_bd r fun y hy => h y (List.mem_cons_of_mem _ hy)
    have h2 := h x List.mem_cons_self
    have e : usumP (x :: r) = x.2.2 + usumP r := by simp [usumP]
    rw [e, List.length_cons]
    omega
set_option maxHeartbeats 1000000 in
theorem totalP_any (v : Value) (ls : List Lf) (w : World) (hL : LeftsAt w v ls) (hls : ∀ x ∈ ls, 0 ≤ x.2.2 ∧ x.2.2 ≤ 4294967295) (hll : ls.length ≤ 1000) :
    Calls Tryz.prog 10 #[v] w fun e w' => e = .returned (.int .i64 (usumP ls)) ∧ Below w.heap.size w w' := by
  obtain ⟨a, c, rfl, hc⟩ := hL
  have HC := Lib.hid hc
  have HB : Hid (∀ k, k ≤ ls.length → 0 ≤ usumP (ls.take k) ∧ usumP (ls.take k) ≤ 4294967295000) := fun k hk => by
    have h1 := usumP_bd (ls.take k) fun x hx => hls x (List.mem_of_mem_take hx)
    have h2 : (ls.take k).length = k := by rw [List.length_take]; omega
    rw [h2] at h1
    omega
  have HU := Lib.hid hls
  clear hc hls
  go_enter Tryz.func10, Tryz.ntmps10
  go_wp2_with fail
  go_loopw [3, 8] (fun t i wr => ∃ k : Nat, k ≤ ls.length ∧ i = .int .i64 k ∧ t = .int .i64 (usumP (ls.take k)) ∧ Below w.heap.size w wr) (fun _ i _ => ls.length - (intOf i).toNat)
  case atStart => exact ⟨0, by omega, rfl, by simp [usumP], Below.refl _ _⟩
  case round =>
    obtain ⟨k, hk, rfl, rfl, hbr⟩ := hrel
    have BR := Lib.hid hbr
    have hb0 := HB.out k hk
    clear hbr
    by_cases hlt : k < ls.length
    · obtain ⟨b, o, rfl, h1, h2, h3⟩ := HC.out k hlt
      replace h1 := stays BR.out h1
      replace h2 := stays BR.out h2
      replace h3 := stays BR.out h3
      have hx := HU.out _ (List.getElem_mem hlt)
      rw [getD_at _ _ _ hlt] at h1 h2 h3
      have HT : Hid (usumP (ls.take (k + 1)) = usumP (ls.take k) + ls[k].2.2) := by
        unfold Hid
        rw [List.take_succ_eq_append_getElem hlt, usumP_snoc]
      have hb1 := HB.out (k + 1) (by omega)
      rw [HT.out] at hb1
      generalize ls[k] = x at *
      obtain ⟨id, ex, un⟩ := x
      simp only at h1 h2 h3 hx HT hb1
      have B2 := Lib.hid (onward (below_alloc _ (.cells #[.int .u32 id, .int .i64 ex, .int .i64 un] 34)) BR.out)
      clear HB
      generalize usumP (ls.take k) = S at *
      go_wp2
      go_roundw
      case rel => exact ⟨k + 1, by omega, by go_num, by rw [HT.out], B2.out⟩
      case measure => simp [intOf]; omega
    · obtain rfl : k = ls.length := by omega
      rw [List.take_length] at *
      go_wp2
      go_ret
      exact ⟨rfl, BR.out⟩
theorem lefts2 {w : World} {g : Nat} {a b c a' b' c' : Int} (h : w.heap[g]? = some (.cells #[.int .u32 a, .int .i64 b, .int .i64 c, .int .u32 a', .int .i64 b', .int .i64 c'] 34 (0, 0))) : LeftsAt w (.slice (some ⟨g, 0, none⟩) 2 2) [(a, b, c), (a', b', c')] :=
  ⟨_, 2, rfl, fun i hi => ⟨g, 0, rfl, by
    have hi2 : i = 0 ∨ i = 1 := by simp at hi; omega
    rcases hi2 with rfl | rfl <;> exact ⟨by rw [cell_of_row h]; rfl, by rw [cell_of_row h]; rfl, by rw [cell_of_row h]; rfl⟩⟩⟩
abbrev pk11 : ByteArray := ⟨#[112, 97, 99, 107, 47, 49, 47, 49]⟩
abbrev pk12 : ByteArray := ⟨#[112, 97, 99, 107, 47, 49, 47, 50]⟩
abbrev sold1 : ByteArray := ⟨#[115, 111, 108, 100, 47, 49]⟩
theorem nm11 : Acct.nameB wPack [1, 1] = pk11 := by decide +kernel
theorem nm12 : Acct.nameB wPack [1, 2] = pk12 := by decide +kernel
theorem nms1 : Acct.nameB wSold [1] = sold1 := by decide +kernel
theorem two_parts {w : World} {v : Value} {p q : Pt} (h : RowsIn w v 2 ([p, q].map Pt.cells)) : ∃ b o c, v = .slice (some ⟨b, o, none⟩) 2 c ∧ w.cell? ⟨b, o, none⟩ = some (.string p.a) ∧ w.cell? ⟨b, o + 1, none⟩ = some (.int .i64 p.n) ∧ w.cell? ⟨b, o + 2, none⟩ = some (.string q.a) ∧ w.cell? ⟨b, o + 2 + 1, none⟩ = some (.int .i64 q.n) := by
  obtain ⟨a, c, rfl⟩ := pt_form h
  obtain ⟨b, o, rfl, h1, h2⟩ := pt_cells h 0 (by simp)
  obtain ⟨b', o', e, h3, h4⟩ := pt_cells h 1 (by simp)
  injection e with e
  injection e with e1 e2 _
  subst e1 e2
  exact ⟨b, o, c, rfl, by simpa using h1, by simpa using h2, by simpa using h3, by simpa using h4⟩
set_option maxHeartbeats 2000000 in
theorem goesP_any (w : World) (hE : EnvA w) : Calls Tryz.prog 11 #[] w fun e w' => e = .returned (.bool true) ∧ Below w.heap.size w w' := by
  have HE := Lib.hid hE
  clear hE
  go_enter Tryz.func11, Tryz.ntmps11
  go_wp2_with fail
  refine (new_any (-1) w).mono ?_
  rintro e w1 ⟨p, b1, b2, rfl, hm, hb, -, hb1, -⟩
  have B1 := Lib.hid hb
  have M1 := Lib.hid hm
  have HB1 : Hid (w.heap.size ≤ b1) := hb1
  have AX := Lib.hid (pk_add 1 10 100 5 w1 (HE.out.below hb) hm ps_empty (by omega) (by omega) (fun _ => by omega) ⟨by omega, by omega⟩ ⟨by omega, by omega⟩)
  clear hm hb hb1
  go_wp2_with fail
  refine AX.out.mono ?_
  rintro e w2 ⟨pv, D2, rfl, hr, hm, hp, ht⟩
  have e1 : pkR (fun _ => 0) 1 10 100 5 = (1, addParts 1 1 10, 0) := if_neg (by unfold badA; omega)
  rw [e1] at hr ⊢
  have B2 : Hid (Below w.heap.size w w2) := B1.out.trans (ht.below B1.out.size HB1.out)
  obtain ⟨g, o, c, rfl, -⟩ := two_parts hr
  have R2 := Lib.hid hr
  have AY := Lib.hid (pk_add 1 10 5 5 w2 (HE.out.below B2.out) hm hp (by omega) (by omega) (fun x => by have := pkC_le (cnt := fun _ => 0) (m := 0) (u := 1) (units := 10) (e := 100) (now := 5) (fun _ => Nat.le_refl 0) x; omega) ⟨by omega, by omega⟩ ⟨by omega, by omega⟩)
  clear hr hm hp ht e1 AX
  dsimp only
  go_wp2_with fail
  refine AY.out.mono ?_
  rintro e w3 ⟨pv3, D3, rfl, hr, hm, hp, ht⟩
  have e1 : ∀ c, pkR c 1 10 5 5 = (0, [], 1) := fun c => if_pos (by unfold badA; omega)
  rw [e1] at hr ⊢
  obtain ⟨a3, c3, rfl⟩ := pt_form hr
  have B3 : Hid (Below w.heap.size w w3) := B2.out.trans (ht.below B2.out.size HB1.out)
  have R3 := Lib.hid (ht.rows R2.out (pt_rows _))
  clear hr hm hp ht e1 AY R2
  simp only
  obtain ⟨w4, hw4⟩ : ∃ W, W = w3.alloc (.cells #[.int .u32 1, .int .i64 0, .int .i64 3, .int .u32 2, .int .i64 0, .int .i64 5] 34) := ⟨_, rfl⟩
  have hb4 : Below w3.heap.size w3 w4 := by rw [hw4]; exact below_alloc _ _
  have h4 : w4.heap[w3.heap.size]? = some (.cells #[.int .u32 1, .int .i64 0, .int .i64 3, .int .u32 2, .int .i64 0, .int .i64 5] 34 (0, 0)) := by rw [hw4]; exact alloc_block _ _ _ _
  have B4 := Lib.hid (onward hb4 B3.out)
  have L4 := Lib.hid (lefts2 h4)
  have R4 := Lib.hid (R3.out.below hb4)
  have DX := Lib.hid (draw_any 1 9 _ [(1, 0, 3), (2, 0, 5)] w4 (HE.out.below (onward hb4 B3.out)).pow (lefts2 h4) (by omega) (by simp) ⟨by omega, by omega⟩ (by simp))
  clear hb4 h4 R3
  go_upto_region 5 with fail
  rw [← hw4]
  clear hw4
  go_wp2_with fail
  refine DX.out.mono ?_
  rintro e w5 ⟨pv5, rfl, hb, ho⟩
  have ed : drawL 1 (max 0 9) [(1, 0, 3), (2, 0, 5)] = [(pk11, -3), (pk12, -5)] := by
    have : drawL 1 (max 0 9) [(1, 0, 3), (2, 0, 5)] = [(Acct.nameB wPack [1, 1], -3), (Acct.nameB wPack [1, 2], -5)] := rfl
    rw [this, nm11, nm12]
  have er : drawR (max 0 9) [(1, 0, 3), (2, 0, 5)] = 1 := rfl
  rw [ed] at ho
  rw [er]
  obtain ⟨g5, o5, c5, rfl, -, -, -, k4⟩ := two_parts (drawn_rows ho)
  obtain ⟨g', o', c', e', j1, j2, j3, j4⟩ := two_parts (R4.out.below hb)
  obtain ⟨rfl, rfl⟩ : g = g' ∧ o = o' := by
    injection e' with e1 _ _
    injection e1 with e1
    injection e1 with e1 e2 _
    exact ⟨e1, e2⟩
  have n1 : Acct.nameB wPack [((1 : Nat) : Int), ((1 : Nat) : Int)] = pk11 := nm11
  have n2 : Acct.nameB wSold [((1 : Nat) : Int)] = sold1 := nms1
  simp only [addParts] at j1 j2 j3 j4
  rw [n1] at j1
  rw [n2] at j3
  have B5 := Lib.hid (onward hb B4.out)
  have TX := Lib.hid (totalP_any _ [(1, 0, 3), (2, 0, 5)] w5 (L4.out.below hb) (by simp) (by simp))
  have eu : usumP [(1, 0, 3), (2, 0, 5)] = 8 := rfl
  rw [eu] at TX
  clear ho hb DX ed er L4 R4
  go_wp2_with fail
  refine TX.out.mono ?_
  rintro e w6 ⟨rfl, hb⟩
  have B6 := Lib.hid (onward hb B5.out)
  go_wp2_with fail
  go_ret
  exact ⟨rfl, B6.out⟩
end Go.Proofs.YtcaihncnmjegoaaGreatDoor

/-! The walk of the law PacksKnown. -/
namespace Go.Proofs.YtcaihncnmjegoaaGreatDoor
open Go.RowKit Go.WideMaps Go.Maps
set_option linter.unusedVariables false
set_option linter.unusedSimpArgs false
set_option maxRecDepth 100000
theorem full_add {p b1 b2 : Nat} (w : World) (hE : EnvA w) (hM : MemS w p b1 b2 0 0 (.map []) (.map [])) : Calls Tryz.prog 13 #[memI p, .int .u32 1, .int .i64 1, .int .i64 10, .int .i64 5] w fun en w' => (∃ pv, en = .returned (.tuple #[.int .u32 0, pv, .int .i64 3]) ∧ ∃ a c, pv = .slice a 0 c) ∧ Turned b1 w w' := by
  refine (add_any 1 1 10 5 w hE hM (by omega) ps_empty.isM (ps_at ps_empty hM.now.strD 1 (by omega) (by omega)) (by omega) (by simp [psL]) (fun x hx => by simp [psL] at hx) ⟨by omega, by omega⟩ ⟨by omega, by omega⟩).mono ?_
  rintro en w' ⟨pv, he, hr, hm, ht⟩
  have hput : putE 0 (.map []) (pkey 1 (nextN [])) (packL (nextN []) 10) = 3 := by
    unfold putE
    rw [if_neg (by unfold pkey; exact List.cons_ne_nil _ _), if_neg (by simp [pkey, packL, big8]), if_pos ⟨rfl, by omega, by simp [size]⟩]
  have e0 : addF 0 (.map []) (psL (fun _ _ => 0) 1 0) 1 1 10 5 = (0, [], 3, putD 0 (.map []) (pkey 1 (nextN [])) (packL (nextN []) 10)) := by
    unfold addF
    rw [if_neg (by omega), psL_live, if_neg (by simp)]
    have e1 : psL (fun _ _ => 0) 1 0 = [] := rfl
    rw [e1, hput, if_neg (by omega)]
  rw [e0] at he hr
  obtain ⟨a, c, h⟩ := pt_form hr
  exact ⟨⟨pv, he, a, c, h⟩, ht⟩
theorem nil_lefts (w : World) : LeftsAt w (.slice none 0 0) [] := ⟨none, 0, rfl, fun i hi => by simp at hi⟩
set_option maxHeartbeats 4000000 in
theorem packsKnown_any (w : World) (hE : EnvA w) : Calls Tryz.prog 6 #[] w fun e w' => e = .returned (.bool true) ∧ Below w.heap.size w w' := by
  have HE := Lib.hid hE
  clear hE
  go_enter Tryz.func6, Tryz.ntmps6
  go_wp2_with fail
  refine (new_any (-1) w).mono ?_
  rintro e w1 ⟨p, b1, b2, rfl, hm, hb, -, hb1, -⟩
  have B1 := Lib.hid hb
  have HB1 : Hid (w.heap.size ≤ b1) := hb1
  have AX := Lib.hid (pk_add 1 0 100 5 w1 (HE.out.below hb) hm ps_empty (by omega) (by omega) (fun _ => by omega) ⟨by omega, by omega⟩ ⟨by omega, by omega⟩)
  clear hm hb hb1
  go_wp2_with fail
  refine AX.out.mono ?_
  rintro e w2 ⟨pv, D2, rfl, hr, hm, hp, ht⟩
  have e1 : ∀ c, pkR c 1 0 100 5 = (0, [], 1) := fun c => if_pos (by unfold badA; omega)
  have e2 : ∀ c, pkC c 1 0 100 5 = c := fun c => if_pos (by unfold badA; omega)
  rw [e1] at hr ⊢
  rw [e2] at hp
  obtain ⟨a2, c2, rfl⟩ := pt_form hr
  have B2 : Hid (Below w.heap.size w w2) := B1.out.trans (ht.below B1.out.size HB1.out)
  have AX2 := Lib.hid (pk_add 1 1099511627777 100 5 w2 (HE.out.below B2.out) hm hp (by omega) (by omega) (fun _ => by omega) ⟨by omega, by omega⟩ ⟨by omega, by omega⟩)
  clear hr hm hp ht e1 e2 AX
  dsimp only
  go_wp2_with fail
  refine AX2.out.mono ?_
  rintro e w3 ⟨pv, D3, rfl, hr, hm, hp, ht⟩
  have e1 : ∀ c, pkR c 1 1099511627777 100 5 = (0, [], 1) := fun c => if_pos (by unfold badA; omega)
  have e2 : ∀ c, pkC c 1 1099511627777 100 5 = c := fun c => if_pos (by unfold badA; omega)
  rw [e1] at hr ⊢
  rw [e2] at hp
  obtain ⟨a3, c3, rfl⟩ := pt_form hr
  have B3 : Hid (Below w.heap.size w w3) := B2.out.trans (ht.below B2.out.size HB1.out)
  have AX3 := Lib.hid (pk_add 1 1 137438953473 5 w3 (HE.out.below B3.out) hm hp (by omega) (by omega) (fun _ => by omega) ⟨by omega, by omega⟩ ⟨by omega, by omega⟩)
  clear hr hm hp ht e1 e2 AX2
  dsimp only
  go_wp2_with fail
  refine AX3.out.mono ?_
  rintro e w4 ⟨pv, D4, rfl, hr, hm, hp, ht⟩
  have e1 : ∀ c, pkR c 1 1 137438953473 5 = (0, [], 1) := fun c => if_pos (by unfold badA; omega)
  have e2 : ∀ c, pkC c 1 1 137438953473 5 = c := fun c => if_pos (by unfold badA; omega)
  rw [e1] at hr ⊢
  rw [e2] at hp
  obtain ⟨a4, c4, rfl⟩ := pt_form hr
  have B4 : Hid (Below w.heap.size w w4) := B3.out.trans (ht.below B3.out.size HB1.out)
  have AX4 := Lib.hid (pk_add 1 1099511627776 137438953472 (-5) w4 (HE.out.below B4.out) hm hp (by omega) (by omega) (fun _ => by omega) ⟨by omega, by omega⟩ ⟨by omega, by omega⟩)
  clear hr hm hp ht e1 e2 AX3
  dsimp only
  go_wp2_with fail
  refine AX4.out.mono ?_
  rintro e w5 ⟨pv, D5, rfl, hr, hm, hp, ht⟩
  have e1 : pkR (fun _ => 0) 1 1099511627776 137438953472 (-5) = (1, addParts 1 1 1099511627776, 0) := if_neg (by unfold badA; omega)
  rw [e1] at hr ⊢
  obtain ⟨a5, c5, rfl⟩ := pt_form hr
  have B5 : Hid (Below w.heap.size w w5) := B4.out.trans (ht.below B4.out.size HB1.out)
  clear hr hm hp ht e1 AX4
  dsimp only
  go_wp2_with fail
  refine (new_any 0 w5).mono ?_
  rintro e w6 ⟨p', b1', b2', rfl, hm, hb, -, hb1, -⟩
  have B6 := Lib.hid (onward hb B5.out)
  have HB6 : Hid (w.heap.size ≤ b1') := Nat.le_trans B5.out.size hb1
  have AX5 := Lib.hid (full_add w6 (HE.out.below (onward hb B5.out)) hm)
  clear hm hb hb1
  go_wp2_with fail
  refine AX5.out.mono ?_
  rintro e w7 ⟨⟨pv, rfl, a7, c7, rfl⟩, ht⟩
  have B7 : Hid (Below w.heap.size w w7) := B6.out.trans (ht.below B6.out.size HB6.out)
  clear ht AX5
  obtain ⟨w8, hw8⟩ : ∃ W, W = w7.alloc (.cells #[.int .u32 1, .int .i64 0, .int .i64 3, .int .u32 2, .int .i64 0, .int .i64 5] 34) := ⟨_, rfl⟩
  have hb8 : Below w7.heap.size w7 w8 := by rw [hw8]; exact below_alloc _ _
  have h8 : w8.heap[w7.heap.size]? = some (.cells #[.int .u32 1, .int .i64 0, .int .i64 3, .int .u32 2, .int .i64 0, .int .i64 5] 34 (0, 0)) := by rw [hw8]; exact alloc_block _ _ _ _
  have B8 := Lib.hid (onward hb8 B7.out)
  have L8 := Lib.hid (lefts2 h8)
  have DX := Lib.hid (draw_any 1 4 _ [(1, 0, 3), (2, 0, 5)] w8 (HE.out.below (onward hb8 B7.out)).pow (lefts2 h8) (by omega) (by simp) ⟨by omega, by omega⟩ (by simp))
  clear hb8 h8
  go_upto_region 8 with fail
  rw [← hw8]
  clear hw8
  go_wp2_with fail
  refine DX.out.mono ?_
  rintro e w9 ⟨pv9, rfl, hb, ho⟩
  have ed : drawL 1 (max 0 4) [(1, 0, 3), (2, 0, 5)] = [(pk11, -3), (pk12, -1)] := by
    have : drawL 1 (max 0 4) [(1, 0, 3), (2, 0, 5)] = [(Acct.nameB wPack [1, 1], -3), (Acct.nameB wPack [1, 2], -1)] := rfl
    rw [this, nm11, nm12]
  have er : drawR (max 0 4) [(1, 0, 3), (2, 0, 5)] = 0 := rfl
  rw [ed] at ho
  rw [er]
  have B9 := Lib.hid (onward hb B8.out)
  have R9 := Lib.hid (drawn_rows ho)
  obtain ⟨a9, c9, rfl⟩ := pt_form (drawn_rows ho)
  have DX2 := Lib.hid (draw_any 1 (-4) _ [(1, 0, 3), (2, 0, 5)] w9 (HE.out.below (onward hb B8.out)).pow (L8.out.below hb) (by omega) (by simp) ⟨by omega, by omega⟩ (by simp))
  clear hb ho ed er DX L8
  simp only [List.length_map, List.length_cons, List.length_nil, Nat.zero_add, Nat.reduceAdd] at R9 ⊢
  go_wp2_with fail
  refine DX2.out.mono ?_
  rintro e w10 ⟨pv10, rfl, hb, ho⟩
  have ed : drawL 1 (max 0 (-4)) [(1, 0, 3), (2, 0, 5)] = [] := rfl
  have er : drawR (max 0 (-4)) [(1, 0, 3), (2, 0, 5)] = 0 := rfl
  rw [ed] at ho
  rw [er]
  have B10 := Lib.hid (onward hb B9.out)
  have R10 := Lib.hid (R9.out.below hb)
  obtain ⟨a10, c10, rfl⟩ := pt_form (drawn_rows ho)
  clear hb ho ed er DX2 R9
  simp only [List.length_map, List.length_cons, List.length_nil, Nat.zero_add, Nat.reduceAdd]
  obtain ⟨w11, hw11⟩ : ∃ W, W = w10.alloc (.cells #[.string pk11, .int .i64 (-3), .string pk12, .int .i64 (-1)] 30) := ⟨_, rfl⟩
  have hb11 : Below w10.heap.size w10 w11 := by rw [hw11]; exact below_alloc _ _
  have h11 : w11.heap[w10.heap.size]? = some (.cells #[.string pk11, .int .i64 (-3), .string pk12, .int .i64 (-1)] 30 (0, 0)) := by rw [hw11]; exact alloc_block _ _ _ _
  have B11 := Lib.hid (onward hb11 B10.out)
  have PX := Lib.hid (partsP_any _ _ [⟨pk11, -3⟩, ⟨pk12, -1⟩] w11 (R10.out.below hb11) (rows2P (p := ⟨pk11, -3⟩) (q := ⟨pk12, -1⟩) h11) (by simp))
  clear hb11 h11 R10
  go_wp2_with fail
  rw [← hw11]
  clear hw11
  refine PX.out.mono ?_
  rintro e w12 ⟨rfl, hb⟩
  have B12 := Lib.hid (onward hb B11.out)
  clear hb PX
  go_wp2_with fail
  refine (totalP_any _ [] w12 (nil_lefts _) (by simp) (by simp)).mono ?_
  rintro e w13 ⟨rfl, hb⟩
  have B13 := Lib.hid (onward hb B12.out)
  have eu : usumP [] = 0 := rfl
  rw [eu]
  clear hb eu
  go_wp2_with fail
  refine (goesP_any w13 (HE.out.below B13.out)).mono ?_
  rintro e w14 ⟨rfl, hb⟩
  have B14 := Lib.hid (onward hb B13.out)
  clear hb
  go_wp2_with fail
  go_ret
  exact ⟨rfl, B14.out⟩
end Go.Proofs.YtcaihncnmjegoaaGreatDoor

/-! The walk of the law PacksOrder. -/
namespace Go.Proofs.YtcaihncnmjegoaaGreatDoor
open Go.RowKit Go.WideMaps Go.Maps
set_option linter.unusedVariables false
set_option linter.unusedSimpArgs false
set_option maxRecDepth 100000
theorem NumsAt.cellP {k : IntKind} {w : World} {a : Option Addr} {n c : Nat} {ns : List Int} (h : NumsAt k w (.slice a n c) ns) (i : Nat) (hi : i < ns.length) : ∃ g o, a = some ⟨g, o, none⟩ ∧ w.cell? ⟨g, o + i, none⟩ = some (.int k ns[i]) := by
  obtain ⟨a', c', e, hx⟩ := h
  injection e with e1 _ _
  subst e1
  obtain ⟨g, o, rfl, h1⟩ := hx i hi
  exact ⟨g, o, rfl, by rw [h1, getD_at _ _ _ hi]⟩
theorem NumsAt.formP {k : IntKind} {w : World} {v : Value} {ns : List Int} (h : NumsAt k w v ns) : ∃ a c, v = .slice a ns.length c := by
  obtain ⟨a, c, e, -⟩ := h
  exact ⟨a, c, e⟩
theorem NumsAt.belowP {k : IntKind} {w w' : World} {v : Value} {ns : List Int} (h : NumsAt k w v ns) (hb : Below w.heap.size w w') : NumsAt k w' v ns := by
  obtain ⟨a, c, rfl, hx⟩ := h
  exact ⟨a, c, rfl, fun i hi => by
    obtain ⟨b, o, rfl, h1⟩ := hx i hi
    exact ⟨b, o, rfl, stays hb h1⟩⟩
set_option maxHeartbeats 4000000 in
theorem packsOrder_any (u : Nat) (tv : Value) (ts : List Int) (now : Int) (w : World) (hE : EnvA w) (hT : NumsAt .u16 w tv ts) (ht : ∀ t ∈ ts, 0 ≤ t ∧ t < 65536) (hu : u < 4294967296) (hl : ts.length ≤ 9223372036854775807) (hnow : 0 ≤ now ∧ now < 65536) :
    Calls Tryz.prog 4 #[.int .u32 u, tv, .int .u16 now] w fun e w' => e = .returned (.bool true) ∧ Below w.heap.size w w' := by
  have HE := Lib.hid hE
  have HT := Lib.hid hT
  have HTB := Lib.hid ht
  obtain ⟨ta, tc, rfl⟩ := hT.formP
  clear hE hT ht
  by_cases h30 : ts.length > 30
  · have hz : (ts.length : Int) > 30 := by omega
    go_enter Tryz.func4, Tryz.ntmps4
    go_wp2_with fail
    go_ret
    exact ⟨rfl, Below.refl _ _⟩
  have hz : ¬ (ts.length : Int) > 30 := by omega
  have H30 : Hid (ts.length ≤ 30) := by show _ ≤ _; omega
  clear h30
  go_enter Tryz.func4, Tryz.ntmps4
  go_wp2_with fail
  refine (new_any (-1) w).mono ?_
  rintro e w1 ⟨p, b1, b2, rfl, hm, hb, -, hb1, -⟩
  have B1 := Lib.hid hb
  have M1 := Lib.hid hm
  have HB1 : Hid (w.heap.size ≤ b1) := hb1
  clear hm hb hb1
  go_wp2_with fail
  go_loopw [8, 9, 10, 11] (fun iv _ _ _ wr => ∃ i : Nat, i ≤ ts.length ∧ iv = .int .i64 i ∧ Hid (∃ D cnt ex, MemS wr p b1 b2 (-1) i D (.map []) ∧ PS D cnt ex ∧ ∀ x, cnt x ≤ i) ∧ Hid (Below w.heap.size w wr)) (fun iv _ _ _ _ => ts.length - (intOf iv).toNat)
  case atStart => exact ⟨0, by omega, rfl, ⟨_, _, _, M1.out, ps_empty, fun _ => Nat.le_refl _⟩, B1.out⟩
  case round =>
    obtain ⟨i, hi, rfl, HM, BR⟩ := hrel
    by_cases hlt : i < ts.length
    · have hzz : (i : Int) < (ts.length : Int) := by omega
      obtain ⟨g, o, rfl, hc⟩ := (HT.out.belowP BR.out).cellP i hlt
      have hx := HTB.out _ (List.getElem_mem hlt)
      generalize ts[i] = x at *
      have hw1 : IntKind.i64.wrap x = x := IntWalk.i64_in _ (by omega)
      have hw2 : IntKind.i64.wrap (1 + x) = 1 + x := IntWalk.i64_in _ (by omega)
      have AX : Hid (Calls Tryz.prog 13 #[memI p, .int .u32 u, .int .i64 1, .int .i64 (1 + x), .int .i64 0] wr fun en w' => (∃ pv, en = .returned (.tuple #[.int .u32 (pv : Value × Nat).2, pv.1, .int .i64 0]) ∧ ∃ a c, pv.1 = .slice a 2 c) ∧ (∃ D cnt ex, MemS w' p b1 b2 (-1) (i + 1) D (.map []) ∧ PS D cnt ex ∧ ∀ x, cnt x ≤ i + 1) ∧ Turned b1 wr w') := by
        obtain ⟨D, cnt, ex, hm, hp, hcnt⟩ := HM.out
        have h30 := H30.out
        refine (pk_add u 1 (1 + x) 0 wr (HE.out.below BR.out) hm hp (by omega) hu (fun y => by have := hcnt y; omega) ⟨by omega, by omega⟩ ⟨by omega, by omega⟩).mono ?_
        rintro en w' ⟨pv, D', rfl, hr, hm', hp', ht'⟩
        have e1 : pkR cnt u 1 (1 + x) 0 = (cnt u + 1, addParts u (cnt u + 1) 1, 0) := if_neg (by unfold badA; omega)
        rw [e1] at hr ⊢
        obtain ⟨a, c, hv⟩ := pt_form hr
        exact ⟨⟨(pv, cnt u + 1), rfl, a, c, hv⟩, ⟨D', _, _, hm', hp', pkC_le hcnt⟩, ht'⟩
      clear HM
      go_wp2_with fail
      refine AX.out.mono ?_
      rintro e w2 ⟨⟨⟨pv, k⟩, rfl, a, c, hpv⟩, hm2, ht2⟩
      simp only at hpv
      subst hpv
      have M2 := Lib.hid hm2
      have B2 : Hid (Below w.heap.size w w2) := BR.out.trans (ht2.below BR.out.size HB1.out)
      clear hm2 ht2 AX hc
      dsimp only
      have h30 := H30.out
      go_wp2_with fail
      go_roundw
      case rel => exact ⟨i + 1, by omega, by go_num, M2.out, B2.out⟩
      case measure => simp [intOf]; omega
    · obtain rfl : i = ts.length := by omega
      have dk0 : decide ((ts.length : Int) < (ts.length : Int)) = false := decide_eq_false (by omega)
      have hw1 : IntKind.i64.wrap now = now := IntWalk.i64_in _ (by omega)
      have LX : Hid (Calls Tryz.prog 14 #[memI p, .int .u32 u, .int .i64 now] wr (LiveEnd [] wr)) := by
        obtain ⟨D, cnt, ex, hm, hp, hcnt⟩ := HM.out
        have h30 := H30.out
        have hcu := hcnt u
        have h := live_any u now wr (HE.out.below BR.out) hm (by omega) hp.isM (ps_at hp hm.now.strD u hu (by omega)) hu (by rw [psL_len]; omega)
        rw [psL_live] at h
        exact h
      clear HM
      go_wp2_with fail
      refine LX.out.mono ?_
      rintro e w2 ⟨lv, rfl, hlv, hb⟩
      have B2 := Lib.hid (onward hb BR.out)
      have TX := Lib.hid (totalP_any lv [] w2 hlv (by simp) (by simp))
      obtain ⟨la, lc, rfl, -⟩ := hlv
      have eu : usumP [] = 0 := rfl
      rw [eu] at TX
      clear hb LX
      go_wp2_with fail
      refine TX.out.mono ?_
      rintro e w3 ⟨rfl, hb⟩
      have B3 := Lib.hid (onward hb B2.out)
      clear hb TX
      go_wp2_with fail
      refine (goesP_any w3 (HE.out.below B3.out)).mono ?_
      rintro e w4 ⟨rfl, hb⟩
      have B4 := Lib.hid (onward hb B3.out)
      clear hb
      go_wp2_with fail
      go_ret
      exact ⟨rfl, B4.out⟩
end Go.Proofs.YtcaihncnmjegoaaGreatDoor

