/- The walks of render's reader: small, number, next, must, month. -/
import Derived.Test.YtmppkhjjlgngkaaGreatDoorRnE
import Derived.WalkLawsBesides
namespace Go.Proofs.YtmppkhjjlgngkaaGreatDoor
open Go.RowKit Civ Ren Go.Shelf
set_option linter.unusedVariables false
set_option linter.unusedSimpArgs false
/-- what is thrown -/
abbrev thrown : List PanicEntry := [{ v := .iface 26 (.int .i64 21), recovered := false }]
structure EnvR (w : World) : Prop where
  env : Env w
  maxl : ∃ m, w.cell? ⟨2, 0, none⟩ = some (.int .i64 m)
theorem EnvR.below {w w' : World} (h : EnvR w) (hb : Below w.heap.size w w') : EnvR w' := by
  obtain ⟨h1, ⟨m, h2⟩⟩ := h
  exact ⟨h1.below hb, ⟨m, stays hb h2⟩⟩
theorem small_ok (n : Int) (w : World) (h : smallS n = some n) : Calls Tryz.prog 30 #[.int .i64 n] w fun e w' => e = .returned (.int .u32 n) ∧ w = w' := by
  unfold smallS at h
  have h1 : ¬ (n < 0 ∨ 4294967295 < n) := by
    intro hc
    rw [if_pos hc] at h
    cases h
  have h2 : 0 ≤ n := by omega
  have h3 : n ≤ 4294967295 := by omega
  have hw : IntKind.u32.wrap n = n := by
    show n % 4294967296 = n
    omega
  clear h h1
  go_enter Tryz.func30, Tryz.ntmps30
  go_wp2_with fail
  go_ret
  exact ⟨rfl, rfl⟩
theorem small_no (n : Int) (w : World) (h : smallS n = none) : Calls Tryz.prog 30 #[.int .i64 n] w fun e w' => e = .panicked thrown ∧ w = w' := by
  unfold smallS at h
  have h1 : n < 0 ∨ 4294967295 < n := by
    by_cases hc : n < 0 ∨ 4294967295 < n
    · exact hc
    · rw [if_neg hc] at h
      cases h
  clear h
  by_cases h2 : n < 0
  · clear h1
    go_enter Tryz.func30, Tryz.ntmps30
    go_wp2_with fail
    exact ⟨rfl, rfl, rfl⟩
  · have h3 : 4294967295 < n := by omega
    have h4 : 0 ≤ n := by omega
    clear h1 h2
    go_enter Tryz.func30, Tryz.ntmps30
    go_wp2_with fail
    exact ⟨rfl, rfl, rfl⟩
theorem small_cases (n : Int) : smallS n = some n ∨ smallS n = none := by
  unfold smallS
  split
  · exact .inr rfl
  · exact .inl rfl
/-- strconv.ParseInt, at whatever string: a number and no error, or an error. -/
theorem pint_any (s : ByteArray) (w : World) (hE : Env w) (hs : s.size ≤ 281474976710656) : Calls Tryz.prog 54 #[.string s, .int .i64 10, .int .i64 64] w fun e w' => ∃ v ev, e = .returned (.tuple #[.int .i64 v, ev]) ∧ Below w.heap.size w w' ∧
    ((ev = .nilIface ∧ Lib.parseIntB 64 s.data.toList = .ok v) ∨ ∃ t p, ev = .iface t p ∧ ∀ u, Lib.parseIntB 64 s.data.toList ≠ .ok u) := by
  obtain ⟨t1, p1, h1⟩ := hE.syn
  obtain ⟨t2, p2, h2⟩ := hE.ran
  cases ha : Lib.parseIntB 64 s.data.toList
  · rename_i v
    refine (Tryz.strconv_ParseInt_10_at64_ok s (by omega) v ha w).mono ?_
    rintro e w' ⟨he, hw⟩
    refine ⟨v, _, he, ?_, .inl ⟨rfl, rfl⟩⟩
    rcases hw with rfl | ⟨t, rfl⟩
    · exact Below.refl _ _
    · exact Lib.bytesWorld_below w _ _
  · refine (Any.strconv_ParseInt_10_at64_syntax Tryz.laysC174 s hs ha _ w h1 (.inr ⟨_, _, rfl⟩)).mono ?_
    rintro e w' ⟨N, he, _, _, hb⟩
    exact ⟨_, _, he, hb, .inr ⟨_, _, rfl, fun u h => by cases h⟩⟩
  · refine (Any.strconv_ParseInt_10_at64_range Tryz.laysC174 s hs ha _ w h2 (.inr ⟨_, _, rfl⟩)).mono ?_
    rintro e w' ⟨N, he, _, _, hb⟩
    exact ⟨_, _, he, hb, .inr ⟨_, _, rfl, fun u h => by cases h⟩⟩
/-- texts lie in memory, not below a place, not in a block -/
def StrsAt (w : World) (B r : Nat) (v : Value) (ls : List (List UInt8)) : Prop :=
  ∃ a c, v = .slice a ls.length c ∧ ls.length ≤ c ∧ ∀ i, (h : i < ls.length) → ∃ g o, a = some ⟨g, o, none⟩ ∧ B ≤ g ∧ g ≠ r ∧ w.cell? ⟨g, o + i, none⟩ = some (.string ⟨ls[i].toArray⟩)
theorem StrsAt.step {w w' : World} {B r : Nat} {v : Value} {ls : List (List UInt8)} {S : Nat → Prop} (h : StrsAt w B r v ls) (hk : Kept S w w') (hs : ∀ k, B ≤ k → k ≠ r → v.ownBlock = some k → ¬ S k) : StrsAt w' B r v ls := by
  obtain ⟨a, c, h1, h2, h3⟩ := h
  refine ⟨a, c, h1, h2, fun i hi => ?_⟩
  obtain ⟨g, o, h4, h5, h6, h7⟩ := h3 i hi
  exact ⟨g, o, h4, h5, h6, hk.cell h7 (hs g h5 h6 (by rw [h1, h4]; rfl))⟩
theorem StrsAt.below {w w' : World} {B r : Nat} {v : Value} {ls : List (List UInt8)} (h : StrsAt w B r v ls) (hb : Below w.heap.size w w') : StrsAt w' B r v ls := h.step (Kept.of_below hb fun _ => False) fun _ _ _ _ h => h
set_option maxHeartbeats 1000000 in
theorem number_ok (v : Value) (ws : List (List UInt8)) (i : Nat) (n : Int) (B r : Nat) (w : World) (hE : Env w) (hS : StrsAt w B r v ws) (hl : ∀ x ∈ ws, x.length ≤ 1000000) (h : numS ws i = some n) : Calls Tryz.prog 34 #[v, .int .i64 i] w fun e w' => e = .returned (.int .i64 n) ∧ Below w.heap.size w w' := by
  obtain ⟨a, c, rfl, hc, hs⟩ := hS
  unfold numS at h
  split at h
  · cases h
  rename_i x hx
  obtain ⟨hi, hxe⟩ := List.getElem?_eq_some_iff.1 hx
  obtain ⟨g, o, rfl, -, -, hcell⟩ := hs i hi
  rw [hxe] at hcell
  have hxl := hl x (by rw [← hxe]; exact List.getElem_mem hi)
  have hz : (i : Int) < ws.length := by omega
  split at h
  case h_2 => cases h
  rename_i n' hp
  injection h with h
  subst h
  have HP := Lib.hid hp
  clear hs hx hxe hp hi
  go_enter Tryz.func34, Tryz.ntmps34
  go_wp2_with fail
  refine (pint_any ⟨x.toArray⟩ w hE (by simp [ByteArray.size]; omega)).mono ?_
  rintro e w2 ⟨m, ev, rfl, hb, ⟨rfl, hok⟩ | ⟨t, p, rfl, hno⟩⟩
  · have HB := Lib.hid hb
    have e : m = n' := by
      have h1 := HP.out
      have h2 : Lib.parseIntB 64 x = .ok m := hok
      rw [h2] at h1
      injection h1
    subst e
    clear hb hok
    go_wp2_with fail
    go_ret
    exact ⟨rfl, HB.out⟩
  · exact absurd HP.out (hno _)
set_option maxHeartbeats 1000000 in
theorem number_no (v : Value) (ws : List (List UInt8)) (i : Nat) (B r : Nat) (w : World) (hE : Env w) (hS : StrsAt w B r v ws) (hl : ∀ x ∈ ws, x.length ≤ 1000000) (h : numS ws i = none) : Calls Tryz.prog 34 #[v, .int .i64 i] w fun e w' => e = .panicked thrown ∧ Below w.heap.size w w' := by
  obtain ⟨a, c, rfl, hc, hs⟩ := hS
  unfold numS at h
  by_cases hi : i < ws.length
  case neg =>
    have hz : (ws.length : Int) ≤ i := by omega
    clear hs h hi
    go_enter Tryz.func34, Tryz.ntmps34
    go_wp2_with fail
    exact ⟨rfl, rfl, Below.refl _ _⟩
  obtain ⟨g, o, rfl, -, -, hcell⟩ := hs i hi
  have hx : ws[i]? = some ws[i] := List.getElem?_eq_getElem hi
  rw [hx] at h
  have hxl := hl ws[i] (List.getElem_mem hi)
  generalize ws[i] = x at *
  have hz : (i : Int) < ws.length := by omega
  have HP : Hid (∀ n, Lib.parseIntB 64 x ≠ .ok n) := fun n hn => by
    simp only at h
    rw [hn] at h
    cases h
  clear hs hx hi h
  go_enter Tryz.func34, Tryz.ntmps34
  go_wp2_with fail
  refine (pint_any ⟨x.toArray⟩ w hE (by simp [ByteArray.size]; omega)).mono ?_
  rintro e w2 ⟨m, ev, rfl, hb, ⟨rfl, hok⟩ | ⟨t, p, rfl, hno⟩⟩
  · exact absurd hok (HP.out m)
  · have HB := Lib.hid hb
    clear hb hno
    go_wp2_with fail
    exact ⟨rfl, rfl, HB.out⟩
theorem splitB_at (c : UInt8) (s : List UInt8) : (Lib.splitB ⟨#[c]⟩ 0 (Lib.countB ⟨s.toArray⟩ ⟨#[c]⟩) ⟨s.toArray⟩).map (·.data.toList) = Lib.split s [c] := by
  rw [Lib.splitB_data]
  rfl
theorem split_any (c : UInt8) (s : List UInt8) (B r : Nat) (w : World) (hE : EnvR w) (hs : s.length ≤ 1000000) (hB : B ≤ w.heap.size) (hr : r < w.heap.size) : Calls Tryz.prog 29 #[.string ⟨s.toArray⟩, .string ⟨#[c]⟩] w fun e w' => ∃ v, e = .returned v ∧ StrsAt w' B r v (Lib.split s [c]) ∧ Below w.heap.size w w' := by
  obtain ⟨m, hm⟩ := hE.maxl
  refine (Tryz.strings_Split ⟨s.toArray⟩ ⟨#[c]⟩ m w (by simp [ByteArray.size]; omega) hm (by show 1 ≤ 1; exact Nat.le_refl _)).mono ?_
  rintro e w' ⟨rfl, rfl⟩
  have h1 := splitB_at c s
  have h2 := splitK_len c _ s (Nat.le_refl _)
  have h3 : (Lib.splitB ⟨#[c]⟩ 0 (Lib.countB ⟨s.toArray⟩ ⟨#[c]⟩) ⟨s.toArray⟩).length = Lib.countB ⟨s.toArray⟩ ⟨#[c]⟩ + 1 := by
    have := congrArg List.length h1
    rw [List.length_map] at this
    exact this.trans h2
  have h4 : (Lib.split s [c]).length = Lib.countB ⟨s.toArray⟩ ⟨#[c]⟩ + 1 := by rw [← h1, List.length_map]; exact h3
  refine ⟨_, rfl, ⟨_, _, by rw [h4], by rw [h4]; exact Nat.le_refl _, fun i hi => ⟨w.heap.size, 0, rfl, hB, by omega, ?_⟩⟩, below_alloc _ _⟩
  have hi' : i < (Lib.splitB ⟨#[c]⟩ 0 (Lib.countB ⟨s.toArray⟩ ⟨#[c]⟩) ⟨s.toArray⟩).length := by rw [h3, ← h4]; exact hi
  rw [Nat.zero_add, World.cell?_alloc_new]
  have e1 : (Lib.split s [c])[i] = ((Lib.splitB ⟨#[c]⟩ 0 (Lib.countB ⟨s.toArray⟩ ⟨#[c]⟩) ⟨s.toArray⟩)[i]).data.toList := by
    have h5 : (Lib.split s [c])[i]? = ((Lib.splitB ⟨#[c]⟩ 0 (Lib.countB ⟨s.toArray⟩ ⟨#[c]⟩) ⟨s.toArray⟩).map (·.data.toList))[i]? := by rw [h1]
    rw [List.getElem?_eq_getElem hi, List.getElem?_map, List.getElem?_eq_getElem hi'] at h5
    injection h5 with h5
  rw [e1]
  simp [hi']
structure RdrAt (w : World) (B r : Nat) (ls : List (List UInt8)) : Prop where
  at_ : ∃ lv, w.heap[r]? = some (.cells #[lv] 63 (0, 0)) ∧ StrsAt w B r lv ls ∧ ∀ k, lv.ownBlock = some k → k < r
  le : B ≤ r
theorem RdrAt.lt {w : World} {B r : Nat} {ls : List (List UInt8)} (h : RdrAt w B r ls) : r < w.heap.size := by
  obtain ⟨⟨lv, h, -, -⟩, -⟩ := h
  exact lt_of_block h
theorem RdrAt.step {w w' : World} {B r : Nat} {ls : List (List UInt8)} {S : Nat → Prop} (h : RdrAt w B r ls) (hk : Kept S w w') (hs : ∀ k, B ≤ k → k ≤ r → ¬ S k) : RdrAt w' B r ls := by
  have hlt := h.lt
  obtain ⟨⟨lv, h1, h2, h4⟩, h3⟩ := h
  exact ⟨⟨lv, (hk.block r hlt (hs r h3 (Nat.le_refl _))).trans h1, h2.step hk fun k h _ ho => hs k h (Nat.le_of_lt (h4 k ho)), h4⟩, h3⟩
theorem RdrAt.below {w w' : World} {B r : Nat} {ls : List (List UInt8)} (h : RdrAt w B r ls) (hb : Below w.heap.size w w') : RdrAt w' B r ls := h.step (Kept.of_below hb fun _ => False) fun _ _ _ h => h
def Small (ls : List (List UInt8)) : Prop := ∀ x ∈ ls, x.length ≤ 1000000
theorem next_small {word : List UInt8} {ls ws r : List (List UInt8)} (h : nextS word ls = some (ws, r)) (hs : Small ls) : Small ws ∧ Small r := by
  cases ls with
  | nil => cases h
  | cons l ls =>
    unfold nextS at h
    simp only at h
    split at h
    · injection h with h
      injection h with h1 h2
      subst h1 h2
      exact ⟨fun x hx => by
        have := splitK_le 32 l.length _ l (Nat.le_refl _) x hx
        have := hs l (by simp)
        omega, fun x hx => hs x (List.mem_cons_of_mem _ hx)⟩
    · cases h
theorem pre_any (l p : List UInt8) (w : World) : Calls Tryz.prog 53 #[.string ⟨l.toArray⟩, .string ⟨p.toArray⟩] w fun e w' => e = .returned (.bool (p.isPrefixOf l)) ∧ w' = w :=
  Tryz.strings_HasPrefix ⟨l.toArray⟩ ⟨p.toArray⟩ w
set_option maxHeartbeats 2000000 in
set_option maxRecDepth 100000 in
theorem next_no (word : List UInt8) (ls : List (List UInt8)) (B r : Nat) (w : World) (hR : RdrAt w B r ls) (hw : word.length ≤ 100) (h : nextS word ls = none) : Calls Tryz.prog 33 #[.pointer (some ⟨r, 0, none⟩), .string ⟨word.toArray⟩] w fun e w' => e = .returned (.tuple #[.slice none 0 0, .bool false]) ∧ w = w' := by
  obtain ⟨⟨lv, h1, ⟨a, c, rfl, hc, hs⟩, hob⟩, h3⟩ := hR
  have hcell := cell_of_row (i := 0) h1
  simp only [List.getElem?_toArray, List.getElem?_cons_zero] at hcell
  cases ls with
  | nil =>
    clear hs h
    go_enter Tryz.func33, Tryz.ntmps33
    go_wp2_with fail
    exact bodyPost_ret (v := .tuple #[.slice none 0 0, .bool false]) (by simp [results, Tryz.results33, go_sem]) rfl ⟨rfl, rfl⟩
  | cons l ls =>
    unfold nextS at h
    simp only at h
    split at h
    · cases h
    rename_i hp
    have hp : (word ++ [32]).isPrefixOf l = false := by simpa only [Bool.not_eq_true] using hp
    obtain ⟨g, o, rfl, -, -, hl⟩ := hs 0 (by simp)
    rw [Nat.add_zero] at hl
    simp only [List.getElem_cons_zero] at hl
    have A := baApp word [32]
    have L : ¬ 9223372036854775807 < word.length + 1 := by omega
    have hne : (((l :: ls).length : Nat) : Int) = ls.length + 1 := by simp
    have HP := Lib.hid (pre_any l (word ++ [32]) w)
    rw [hp] at HP
    clear hs h hp
    go_enter Tryz.func33, Tryz.ntmps33
    go_wp2_with fail
    refine HP.out.mono ?_
    rintro e w2 ⟨rfl, rfl⟩
    go_wp2_with fail
    exact bodyPost_ret (v := .tuple #[.slice none 0 0, .bool false]) (by simp [results, Tryz.results33, go_sem]) rfl ⟨rfl, rfl⟩
end Go.Proofs.YtmppkhjjlgngkaaGreatDoor
