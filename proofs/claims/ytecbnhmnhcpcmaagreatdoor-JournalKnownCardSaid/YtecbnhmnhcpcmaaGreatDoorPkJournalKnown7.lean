/- The walks of kv.Key, With, journal.key, kv.Number, Set, journal.Last. -/
import Derived.Test.YtecbnhmnhcpcmaaGreatDoorPkJournalKnown6
import Derived.Lib.AppendStr
/-! The walks of kv.Key, With, journal.key, kv.Number, Set, journal.Last. -/
namespace Go.Proofs.YtecbnhmnhcpcmaaGreatDoor
open Go.RowKit Go.WideMaps Go.Maps
set_option linter.unusedVariables false
set_option linter.unusedSimpArgs false
set_option maxRecDepth 100000
set_option maxHeartbeats 1000000 in
theorem clone_own (B : Nat) (v : Value) (bs : Bs) (w : World) (hB : BytesAt B w v bs) (hl : bs.length ≤ 1000000) : Calls Tryz.prog 82 #[v] w fun e w' => ∃ v', e = .returned v' ∧ w'.ownsRow w.heap.size 5 1 v' bs.length (bytesV bs) ∧ Below w.heap.size w w' := by
  have HB := Lib.hid hB
  obtain ⟨a, c, rfl, hn, hx⟩ := hB
  have hnil := fun (W : World) (a : Option Addr) (n c n' c' : Nat) => Lib.run_eql_slice_nil (P := Tryz.prog) W 61 5 a n c n' c' Tryz.underlying61
  cases a with
  | none =>
    obtain rfl := hn rfl
    obtain rfl : bs = [] := by
      cases bs with
      | nil => rfl
      | cons x r => obtain ⟨b, o, h3, _⟩ := hx 0 (by simp); cases h3
    clear hx hn
    go_enter Tryz.func82, Tryz.ntmps82
    go_wp2_with fail
    go_ret
    exact ⟨_, rfl, World.ownsRow_nil _ _ _ _, Below.refl _ _⟩
  | some ad =>
    clear hx hn
    obtain ⟨i0, hi, hz0, hz1, hz2⟩ := info_parts infoB
    have O0 := Lib.hid (own_emptyB w)
    have B0 := Lib.hid (below_alloc w (.cells #[] 5))
    have H0 := Lib.hid (HB.out.below (below_alloc w (.cells #[] 5)))
    clear HB
    go_enter Tryz.func82, Tryz.ntmps82
    go_wp2_with (at_builtin; refine wpList_append_own _ rfl (.tmp 5) (.tmp 6) 61 rfl w.heap.size 5 i0 _ 1 1 Tryz.underlying61 hi hz0 hz1 hz2 rfl (by decide) _ _ _ rfl O0.out ad bs.length c (bytesV bs) rfl (by rw [bytesV_len, Nat.mul_one]) (bytes_src H0.out) (bytes_one bs) (by unfold maxLen; omega) (by omega) (by simp) ?_)
    intro v2 w2 hown2 hgrow2 _
    try simp only [Nat.zero_add, List.nil_append] at hown2
    have B2 := Lib.hid (owned_below O0.out B0.out hgrow2)
    have O2 := Lib.hid hown2
    clear hown2 hgrow2 O0 B0 H0
    go_wp2
    go_ret
    exact ⟨_, rfl, O2.out, B2.out⟩
theorem bytes_append (B : Nat) (w : World) (v : Value) (bs : Bs) (s : ByteArray) (base : Nat) (h : w.ownsRow base 5 1 v (bs.length + s.size) (bytesV bs ++ Lib.strCells s)) : BytesAt B w v (bs ++ s.data.toList) := by
  refine BytesAt.of_own (base := base) ?_
  have e : s.data.toList.length = s.size := by rw [Array.length_toList]; rfl
  rw [bytesV_app, List.length_append, e]
  exact h
set_option maxHeartbeats 1000000 in
theorem with_any (B : Nat) (v : Value) (bs : Bs) (s : ByteArray) (w : World) (hB : BytesAt B w v bs) (hl : bs.length ≤ 1000000) (hs : s.size ≤ 1000000) : Calls Tryz.prog 57 #[v, .string s] w fun e w' => ∃ v', e = .returned v' ∧ BytesAt 0 w' v' (bs ++ s.data.toList) ∧ Below w.heap.size w w' := by
  obtain ⟨i0, hi, hz0, hz1, hz2⟩ := info_parts infoB
  have HC := Lib.hid (clone_own B v bs w hB hl)
  clear hB
  go_enter Tryz.func57, Tryz.ntmps57
  go_wp2_with fail
  refine HC.out.mono ?_
  rintro e w1 ⟨v1, rfl, ho, hb⟩
  have O1 := Lib.hid ho
  have B1 := Lib.hid hb
  clear ho hb HC
  go_wp2_with (at_builtin; refine Lib.wpList_append_own_string _ rfl (.tmp 6) (.tmp 7) 61 9 rfl w.heap.size 5 i0 Tryz.underlying61 Tryz.underlying9 hi hz0 hz1 hz2 _ _ _ rfl O1.out s rfl (by unfold maxLen; omega) (by omega) B1.out.size ?_)
  intro v2 w2 hown hgr _
  have H2 := Lib.hid (bytes_append 0 w2 v2 bs s _ hown)
  have B2 := Lib.hid (B1.out.grown hgr B1.out.size (fun k hk => (O1.out.lt k hk).1))
  clear hown hgr
  go_wp2
  go_ret
  exact ⟨_, rfl, H2.out, B2.out⟩
set_option maxHeartbeats 1000000 in
theorem key0_any (kind : UInt8) (w : World) : Calls Tryz.prog 36 #[.int .u8 kind.toNat, .slice none 0 0] w fun e w' => ∃ v', e = .returned v' ∧ BytesAt 0 w' v' [kind] ∧ Below w.heap.size w w' := by
  have HA := Lib.hid (bytes_block (B := 0) (bs := [kind]) (alloc_block w #[.int .u8 kind.toNat] 5 (0, 0)))
  have BA := Lib.hid (below_alloc w (.cells #[.int .u8 kind.toNat] 5))
  go_enter Tryz.func36, Tryz.ntmps36
  go_wp2_with fail
  generalize w.alloc (.cells #[.int .u8 kind.toNat] 5) = W1 at *
  go_loopw [5, 12] (fun bv iv wr => bv = .slice (some ⟨w.heap.size, 0, none⟩) 1 1 ∧ iv = .int .i64 0 ∧ wr = W1) (fun _ iv _ => 0)
  case atStart => exact ⟨rfl, rfl, rfl⟩
  case round =>
    obtain ⟨rfl, rfl, rfl⟩ := hrel
    go_wp2_with fail
    go_ret
    exact ⟨_, rfl, HA.out, BA.out⟩
set_option maxHeartbeats 2000000 in
theorem key1_any (kind : UInt8) (x g : Nat) (w : World) (hx : x < 18446744073709551616) (hc : w.cell? ⟨g, 0, none⟩ = some (.int .u64 x)) : Calls Tryz.prog 36 #[.int .u8 kind.toNat, .slice (some ⟨g, 0, none⟩) 1 1] w fun e w' => ∃ v', e = .returned v' ∧ BytesAt 0 w' v' (kind :: big8 x) ∧ Below w.heap.size w w' := by
  have OA : Hid ((w.alloc (.cells #[.int .u8 kind.toNat] 5)).ownsRow w.heap.size 5 1 (.slice (some ⟨w.heap.size, 0, none⟩) 1 1) [kind].length (bytesV [kind])) :=
    ⟨rfl, .inr ⟨w.heap.size, 1, #[.int .u8 kind.toNat], rfl, Nat.le_refl _, heap_alloc_new _ _, Nat.le_refl _, by unfold maxLen; omega, rfl, rfl⟩⟩
  have BA := Lib.hid (below_alloc w (.cells #[.int .u8 kind.toNat] 5))
  have S1 : w.heap.size + 1 = (w.alloc (.cells #[.int .u8 kind.toNat] 5)).heap.size := by simp
  have c1 := stays BA.out hc
  clear hc
  go_enter Tryz.func36, Tryz.ntmps36
  go_wp2_with fail
  generalize w.alloc (.cells #[.int .u8 kind.toNat] 5) = W1 at *
  go_loopw [5, 12] (fun bv iv wr => (bv = .slice (some ⟨w.heap.size, 0, none⟩) 1 1 ∧ iv = .int .i64 0 ∧ wr = W1) ∨ (iv = .int .i64 1 ∧ BytesAt 0 wr bv (kind :: big8 x) ∧ Below w.heap.size w wr)) (fun _ iv _ => 1 - (intOf iv).toNat)
  case atStart => exact .inl ⟨rfl, rfl, rfl⟩
  case round =>
    rcases hrel with ⟨rfl, rfl, hwr⟩ | ⟨rfl, hB, hb⟩
    · have hwr' := hwr.symm
      subst hwr'
      clear hwr
      go_wp2_with fail
      refine (big_any w.heap.size _ [kind] x _ hx OA.out (by omega) (by simp)).mono ?_
      rintro e w2 ⟨v2, rfl, ho, hg, hn⟩
      have H2 : Hid (BytesAt 0 w2 v2 (kind :: big8 x)) := BytesAt.of_own ho
      have B2 := Lib.hid (BA.out.grown hg BA.out.size (fun k hk => (OA.out.lt k hk).1))
      clear ho hg hn
      go_wp2_with fail
      go_roundw
      case rel => exact .inr ⟨by go_num, H2.out, B2.out⟩
      case measure => simp [intOf]
    · have HB := Lib.hid hB
      have BB := Lib.hid hb
      clear hB hb
      go_wp2_with fail
      go_ret
      exact ⟨_, rfl, HB.out, BB.out⟩
set_option maxHeartbeats 1000000 in
theorem jkey_any (s : ByteArray) (w : World) (hs : s.size ≤ 1000000) : Calls Tryz.prog 38 #[.string s] w fun e w' => ∃ v', e = .returned v' ∧ BytesAt 0 w' v' (98 :: s.data.toList) ∧ Below w.heap.size w w' := by
  go_enter Tryz.func38, Tryz.ntmps38
  go_wp2_with fail
  refine (key0_any 98 w).mono ?_
  rintro e w1 ⟨v1, rfl, hB, hb⟩
  have B1 := Lib.hid hb
  have WX := Lib.hid (with_any 0 v1 [98] s w1 hB (by simp) hs)
  clear hB hb
  go_wp2_with fail
  refine WX.out.mono ?_
  rintro e w2 ⟨v2, rfl, hB, hb⟩
  have H2 := Lib.hid hB
  have B2 := Lib.hid (onward hb B1.out)
  clear hB hb
  go_wp2
  go_ret
  exact ⟨_, rfl, H2.out, B2.out⟩
/-! numbers in a store -/
def unbig (l : Bs) : Nat := l.foldl (fun v c => v * 256 + c.toNat) 0
/-- a number that is kept -/
def numAt (D : DM) (k : Bs) : Int × Int := match gt D k with
  | none => (0, 0)
  | some b => if b.length = 8 then (((unbig b : Nat) : Int), 0) else (0, 10)
theorem unbig_lt : ∀ (l : Bs), unbig l < 256 ^ l.length := by
  have key : ∀ (l : Bs) (a : Nat), l.foldl (fun v c => v * 256 + c.toNat) a < (a + 1) * 256 ^ l.length := by
    intro l
    induction l with
    | nil => intro a; simp
    | cons x r ih =>
      intro a
      rw [List.foldl_cons, List.length_cons, Nat.pow_succ]
      have h1 := ih (a * 256 + x.toNat)
      have h2 : x.toNat < 256 := x.toNat_lt
      have h3 : (a * 256 + x.toNat + 1) * 256 ^ r.length ≤ (a + 1) * 256 * 256 ^ r.length := Nat.mul_le_mul_right _ (by omega)
      have h4 : (a + 1) * (256 ^ r.length * 256) = (a + 1) * 256 * 256 ^ r.length := by
        rw [Nat.mul_comm (256 ^ r.length) 256, Nat.mul_assoc]
      omega
  intro l
  have := key l 0
  simpa [unbig] using this
theorem unbig_snoc (l : Bs) (c : UInt8) : unbig (l ++ [c]) = unbig l * 256 + c.toNat := by unfold unbig; rw [List.foldl_append]; rfl
theorem unbig_big (x : Nat) (h : x < 18446744073709551616) : unbig (big8 x) = x := by
  unfold unbig big8
  simp only [List.foldl_cons, List.foldl_nil, byt_nat]
  omega
end Go.Proofs.YtecbnhmnhcpcmaaGreatDoor
