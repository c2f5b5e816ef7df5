/- The walks of kv.Number, kv.Set, journal.Last: through the interface. -/
import Derived.Test.YtecbnhmnhcpcmaaGreatDoorPkJournalPlays5
import Derived.Laws.BitsAllLaws
/-! The walks of kv.Number, kv.Set, journal.Last: through the interface. -/
namespace Go.Proofs.YtecbnhmnhcpcmaaGreatDoor
open Go.RowKit Go.WideMaps Go.Maps
set_option linter.unusedVariables false
set_option linter.unusedSimpArgs false
set_option maxRecDepth 100000
/-- the store as an interface's value -/
abbrev memI (p : Nat) : Value := .iface 25 (.pointer (some ⟨p, 0, none⟩))
theorem or_step (a c : Nat) (ha : a < 72057594037927936) (hc : c < 256) : bits BinOp.or IntKind.u64 (IntKind.u64.wrap ((a : Nat) * 256)) (IntKind.u64.wrap (c : Nat)) = ((a * 256 + c : Nat) : Int) := by
  have e : ∀ z : Int, IntKind.u64.wrap z = z % 18446744073709551616 := fun _ => rfl
  rw [e, e, show ((a : Nat) : Int) * 256 % 18446744073709551616 = ((a * 256 : Nat) : Int) from by omega, show ((c : Nat) : Int) % 18446744073709551616 = ((c : Nat) : Int) from by omega, u64_or_nat _ _ (by omega) (by omega)]
  congr 1
  rw [show a * 256 = a <<< 8 from by rw [Nat.shiftLeft_eq]]
  rw [← Nat.shiftLeft_add_eq_or_of_lt (by omega : c < 2 ^ 8)]
theorem BytesAt.cell_at {B : Nat} {w : World} {a : Option Addr} {n c : Nat} {bs : Bs} (h : BytesAt B w (.slice a n c) bs) (k : Nat) (hk : k < bs.length) : ∃ g o, a = some ⟨g, o, none⟩ ∧ w.cell? ⟨g, o + k, none⟩ = some (.int .u8 (bs[k]).toNat) := by
  obtain ⟨a', c', h1, h2, h3⟩ := h
  injection h1 with h1 _ _
  subst h1
  obtain ⟨g, o, h4, h5, -⟩ := h3 k hk
  rw [getD_at _ _ _ hk] at h5
  exact ⟨g, o, h4, h5⟩
set_option maxHeartbeats 2000000 in
theorem kvnum_any {p b1 b2 n : Nat} {room : Int} {D D2 : DM} (w : World) (hM : MemS w p b1 b2 room n D D2) {B : Nat} (kv : Value) (ks : Bs) (hk : BytesAt B w kv ks) (hl : ks.length ≤ 1000000) : Calls Tryz.prog 42 #[memI p, kv] w fun e w' => e = .returned (.tuple #[.int .u64 (numAt D ks).1, .int .i64 (numAt D ks).2]) ∧ Below w.heap.size w w' := by
  have GX := Lib.hid (get_any w hM kv ks hk hl)
  clear hM hk
  go_enter Tryz.func42, Tryz.ntmps42
  go_wp2_with fail
  refine GX.out.mono ?_
  rintro e w1 ⟨hb, hm⟩
  have B1 := Lib.hid hb
  clear hb GX
  cases hg : gt D ks with
  | none =>
    rw [hg] at hm
    have he : e = .returned (.tuple #[.slice none 0 0, .bool false, .int .i64 0]) := hm
    subst he
    have HN : Hid (numAt D ks = (0, 0)) := by show _ = _; unfold numAt; rw [hg]
    clear hm hg
    go_wp2_with fail
    go_ret2
    exact ⟨by rw [HN.out]; rfl, B1.out⟩
  | some vs =>
    rw [hg] at hm
    obtain ⟨v, hv, hvl, rfl⟩ := hm
    obtain ⟨va, vc, rfl⟩ := hv.form
    have HV := Lib.hid hv
    by_cases h8 : vs.length = 8
    · have HN : Hid (numAt D ks = (((unbig vs : Nat) : Int), 0)) := by show _ = _; unfold numAt; rw [hg]; (try simp only); rw [if_pos h8]
      have e8 : ((((vs.length : Nat) : Int)) != 8) = false := by rw [h8]; rfl
      clear hg hv
      go_wp2_with fail
      go_loopw [9, 33] (fun nv iv wr => ∃ k : Nat, k ≤ 8 ∧ iv = .int .i64 k ∧ nv = .int .u64 (unbig (vs.take k) : Nat) ∧ wr = w1) (fun _ iv _ => 8 - (intOf iv).toNat)
      case atStart => exact ⟨0, by omega, rfl, rfl, rfl⟩
      case round =>
        obtain ⟨k, hk, rfl, rfl, hwr⟩ := hrel
        have hwr' := hwr.symm
        subst hwr'
        clear hwr
        by_cases hlt : k < 8
        · obtain ⟨g, o, rfl, hc⟩ := HV.out.cell_at k (by omega)
          have hi1 : (k : Int) < 8 := by omega
          have hi2 : (k : Int) < ((vs.length : Nat) : Int) := by omega
          have hst : vs.take (k + 1) = vs.take k ++ [vs[k]] := List.take_succ_eq_append_getElem (by omega)
          have hub := unbig_lt (vs.take k)
          have hlk : (vs.take k).length ≤ 7 := by rw [List.length_take]; omega
          have hpow : 256 ^ (vs.take k).length ≤ 256 ^ 7 := Nat.pow_le_pow_right (by omega) hlk
          have hor : Hid (bits BinOp.or IntKind.u64 (IntKind.u64.wrap ((unbig (vs.take k) : Nat) * 256)) (IntKind.u64.wrap ((vs[k]).toNat : Nat)) = ((unbig (vs.take (k + 1)) : Nat) : Int)) := by
            show _ = _
            rw [hst, unbig_snoc]
            exact or_step _ _ (by omega) (vs[k]).toNat_lt
          clear hst hub hlk hpow
          go_wp2_with fail
          go_roundw
          case rel => exact ⟨k + 1, by omega, by go_num, by rw [hor.out], by trivial⟩
          case measure => simp [intOf]; omega
        · obtain rfl : k = 8 := by omega
          have HT : Hid (vs.take 8 = vs) := List.take_of_length_le (by omega)
          go_wp2_with fail
          go_ret2
          exact ⟨by rw [HN.out, HT.out]; rfl, B1.out⟩
    · have HN : Hid (numAt D ks = (0, 10)) := by show _ = _; unfold numAt; rw [hg]; (try simp only); rw [if_neg h8]
      have e8 : ((((vs.length : Nat) : Int)) != 8) = true := by rw [bne_iff_ne]; omega
      clear hg hv
      go_wp2_with fail
      go_ret2
      exact ⟨by rw [HN.out]; rfl, B1.out⟩
/-- what a number is kept as -/
def setD (room : Int) (D : DM) (k : Bs) (x : Nat) : DM := if x = 0 then dl D k else putD room D k (big8 x)
def setE (room : Int) (D : DM) (k : Bs) (x : Nat) : Int := if x = 0 then 0 else putE room D k (big8 x)
theorem nil_put (p f : Nat) (w : World) : (nilAhead (f + 1) 25 (.pointer (some ⟨p, 0, none⟩)) "Put").run Tryz.prog w = .ok (some false) w := by kernel_rfl
theorem rown_formB {w : World} {base : Nat} {v : Value} {n : Nat} {xs : List Value} (h : w.ownsRow base 5 1 v n xs) : ∃ a c, v = .slice a n c := by
  obtain ⟨_, ⟨rfl, h1⟩ | ⟨g, cap, cur, rfl, -⟩⟩ := h
  · exact ⟨none, 0, by rw [h1]⟩
  · exact ⟨_, cap, rfl⟩
set_option maxHeartbeats 4000000 in
theorem set_any {p b1 b2 n : Nat} {room : Int} {D D2 : DM} (w : World) (hM : MemS w p b1 b2 room n D D2) (hn : n < 1000000) {B : Nat} (kv : Value) (ks : Bs) (x : Nat) (hk : BytesAt B w kv ks) (hl : ks.length ≤ 1000000) (hx : x < 18446744073709551616) : Calls Tryz.prog 37 #[memI p, kv, .int .u64 x] w fun e w' => e = .returned (.int .i64 (setE room D ks x)) ∧ MemS w' p b1 b2 room (n + 1) (setD room D ks x) D2 ∧ Turned b1 w w' := by
  have HM := Lib.hid hM
  have HK := Lib.hid hk
  obtain ⟨ka, kc, rfl⟩ := hk.form
  by_cases h0 : x = 0
  · have DX := Lib.hid (del_any w hM _ ks hk hl)
    have HE : Hid (setE room D ks x = 0) := if_pos h0
    have HD : Hid (setD room D ks x = dl D ks) := if_pos h0
    have e0 : (((x : Nat) : Int) == 0) = true := by rw [h0]; rfl
    clear hM hk h0
    go_enter Tryz.func37, Tryz.ntmps37
    go_wp2_with fail
    refine DX.out.mono ?_
    rintro e w1 ⟨rfl, hm, ht⟩
    have M1 := Lib.hid (hm.mono (Nat.le_succ n))
    have T1 := Lib.hid ht
    clear hm ht DX
    go_wp2_with fail
    go_ret
    exact ⟨by rw [HE.out]; rfl, by rw [HD.out]; exact M1.out, T1.out⟩
  · have HE : Hid (setE room D ks x = putE room D ks (big8 x)) := if_neg h0
    have HD : Hid (setD room D ks x = putD room D ks (big8 x)) := if_neg h0
    have e0 : (((x : Nat) : Int) == 0) = false := by rw [beq_eq_false_iff_ne]; omega
    have hmf : ∀ (fn : Fn) (first cap : Array Value) (w : World), (Instr.makeFunc fn first cap).run Tryz.prog w = .ok (.func fn first cap) w := fun _ _ _ _ => rfl
    have hna := nil_put p
    clear hM hk h0
    go_enter Tryz.func37, Tryz.ntmps37
    go_upto_region 4 with fail
    refine wp_region_held_drew (S := (fun _ => True)) (by kernel_rfl) ?_ (fun hHeld => ?_)
    · (try dsimp only)
      all_goals trivial
    refine Plan.start (plan := [0, 1, 2]) (fuel := 6) (by decide +kernel) (by assumption) ?_
    refine Plan.free (i := 0) (ds := some 18) (v := ?_) rfl rfl rfl ?_ (fun _ _ _ h => h) ?_
    rotate_left
    · (intro w hSw; (try dsimp only at hSw); go_simp; first | done | with_reducible rfl)
    (try simp only [Act.put, List.setIfInBounds_toArray, List.set_cons_zero, List.set_cons_succ])
    refine Plan.free (i := 1) (ds := some 19) (v := ?_) rfl rfl rfl ?_ (fun _ _ _ h => h) ?_
    rotate_left
    · (intro w hSw; (try dsimp only at hSw); go_simp; first | done | with_reducible rfl)
    (try simp only [Act.put, List.setIfInBounds_toArray, List.set_cons_zero, List.set_cons_succ])
    refine Plan.free (i := 2) (ds := some 20) (v := ?_) rfl rfl rfl ?_ (fun _ _ _ h => h) ?_
    rotate_left
    · (intro w hSw; (try dsimp only at hSw); go_simp; first | done | with_reducible rfl)
    (try simp only [Act.put, List.setIfInBounds_toArray, List.set_cons_zero, List.set_cons_succ])
    refine Plan.stop (fun hHeld => ?_)
    refine wpAnyH_ready (rs := [3, 4]) (by decide +kernel) (by simp) ?_
    refine AllReadyH.cons (o := _) rfl ?_ ?_
    · intro K hK
      rw [if_pos (wanted_none (by rfl))]
      (go_simp; go_at_call 56; refine (big_any w.heap.size (.slice none 0 0) [] x w.drew hx (World.ownsRow_nil _ _ _ _) (Nat.le_refl _) (by simp)).mono ?_; rintro e w3 ⟨v3, rfl, ho, hg, -⟩; obtain ⟨a3, c3, rfl⟩ := rown_formB ho; have B3 : Hid (Below w.heap.size w w3) := ((Below.refl _ _).drew).grown hg (Nat.le_refl _) (fun k hk => by cases hk); have V3 : Hid (BytesAt 0 w3 (.slice a3 8 c3) (big8 x)) := BytesAt.of_own ho; clear ho hg)
      refine hK.out _ _ ?_ (fun hHeld => ?_)
      · (try dsimp only)
        all_goals trivial
      clear hK K
      (try simp only [Act.put, List.setIfInBounds_toArray, List.set_cons_zero, List.set_cons_succ])
      refine wpAnyH_ready (rs := [4]) (by decide +kernel) (by simp) ?_
      refine AllReadyH.cons (o := _) rfl ?_ AllReadyH.nil
      intro K hK
      rw [if_pos (wanted_none (by rfl))]
      (go_simp)
      refine hK.out _ _ ?_ (fun hHeld => ?_)
      · (try dsimp only)
        all_goals trivial
      clear hK K
      (try simp only [Act.put, List.setIfInBounds_toArray, List.set_cons_zero, List.set_cons_succ])
      refine Plan.start (plan := [5, 6]) (fuel := 2) (by decide +kernel) (by assumption) ?_
      refine Plan.free (i := 5) (ds := some 23) (v := ?_) rfl rfl rfl ?_ (fun _ _ _ h => h) ?_
      rotate_left
      · (intro w hSw; (try dsimp only at hSw); go_simp; first | done | with_reducible rfl)
      (try simp only [Act.put, List.setIfInBounds_toArray, List.set_cons_zero, List.set_cons_succ])
      refine Plan.free (i := 6) (ds := some 24) (v := ?_) rfl rfl rfl ?_ (fun _ _ _ h => h) ?_
      rotate_left
      · (intro w hSw; (try dsimp only at hSw); go_simp; first | done | with_reducible rfl)
      (try simp only [Act.put, List.setIfInBounds_toArray, List.set_cons_zero, List.set_cons_succ])
      refine Plan.stop (fun hHeld => ?_)
      refine wpAnyH_ready (rs := [7]) (by decide +kernel) (by simp) ?_
      refine AllReadyH.cons (o := _) rfl ?_ AllReadyH.nil
      intro K hK
      rw [if_pos (wanted_none (by rfl))]
      (go_simp; refine (put_any w3 (HM.out.below B3.out) hn _ _ ks (big8 x) (HK.out.below B3.out) V3.out hl (by simp [big8])).mono ?_; rintro e w4 ⟨rfl, hm, ht⟩; have M4 := Lib.hid hm; have T4 := Lib.hid ((Turned.of_below B3.out HM.out.now.isM).trans ht); clear hm ht)
      refine hK.out _ _ ?_ (fun hHeld => ?_)
      · (try dsimp only)
        all_goals trivial
      clear hK K
      (try simp only [Act.put, List.setIfInBounds_toArray, List.set_cons_zero, List.set_cons_succ])
      refine Plan.start (plan := [8]) (fuel := 0) (by decide +kernel) (by assumption) ?_
      refine Plan.free (i := 8) (ds := some 6) (v := ?_) rfl rfl rfl ?_ (fun _ _ _ h => h) ?_
      rotate_left
      · (intro w hSw; (try dsimp only at hSw); go_simp; first | done | with_reducible rfl)
      (try simp only [Act.put, List.setIfInBounds_toArray, List.set_cons_zero, List.set_cons_succ])
      refine Plan.stop (fun hHeld => ?_)
      refine wpAnyH_done (by decide +kernel) ?_ _
      go_wp2_with fail
      go_ret
      exact ⟨by rw [HE.out]; rfl, by rw [HD.out]; exact M4.out, T4.out⟩
    refine AllReadyH.cons (o := _) rfl ?_ ?_
    · intro K hK
      rw [if_pos (wanted_none (by rfl))]
      (go_simp)
      refine hK.out _ _ ?_ (fun hHeld => ?_)
      · (try dsimp only)
        all_goals trivial
      clear hK K
      (try simp only [Act.put, List.setIfInBounds_toArray, List.set_cons_zero, List.set_cons_succ])
      refine Plan.start (plan := [5, 6]) (fuel := 3) (by decide +kernel) (by assumption) ?_
      refine Plan.free (i := 5) (ds := some 23) (v := ?_) rfl rfl rfl ?_ (fun _ _ _ h => h) ?_
      rotate_left
      · (intro w hSw; (try dsimp only at hSw); go_simp; first | done | with_reducible rfl)
      (try simp only [Act.put, List.setIfInBounds_toArray, List.set_cons_zero, List.set_cons_succ])
      refine Plan.free (i := 6) (ds := some 24) (v := ?_) rfl rfl rfl ?_ (fun _ _ _ h => h) ?_
      rotate_left
      · (intro w hSw; (try dsimp only at hSw); go_simp; first | done | with_reducible rfl)
      (try simp only [Act.put, List.setIfInBounds_toArray, List.set_cons_zero, List.set_cons_succ])
      refine Plan.stop (fun hHeld => ?_)
      refine wpAnyH_ready (rs := [3]) (by decide +kernel) (by simp) ?_
      refine AllReadyH.cons (o := _) rfl ?_ AllReadyH.nil
      intro K hK
      rw [if_pos (wanted_none (by rfl))]
      (go_simp; go_at_call 56; refine (big_any w.heap.size (.slice none 0 0) [] x w.drew hx (World.ownsRow_nil _ _ _ _) (Nat.le_refl _) (by simp)).mono ?_; rintro e w3 ⟨v3, rfl, ho, hg, -⟩; obtain ⟨a3, c3, rfl⟩ := rown_formB ho; have B3 : Hid (Below w.heap.size w w3) := ((Below.refl _ _).drew).grown hg (Nat.le_refl _) (fun k hk => by cases hk); have V3 : Hid (BytesAt 0 w3 (.slice a3 8 c3) (big8 x)) := BytesAt.of_own ho; clear ho hg)
      refine hK.out _ _ ?_ (fun hHeld => ?_)
      · (try dsimp only)
        all_goals trivial
      clear hK K
      (try simp only [Act.put, List.setIfInBounds_toArray, List.set_cons_zero, List.set_cons_succ])
      refine wpAnyH_ready (rs := [7]) (by decide +kernel) (by simp) ?_
      refine AllReadyH.cons (o := _) rfl ?_ AllReadyH.nil
      intro K hK
      rw [if_pos (wanted_none (by rfl))]
      (go_simp; refine (put_any w3 (HM.out.below B3.out) hn _ _ ks (big8 x) (HK.out.below B3.out) V3.out hl (by simp [big8])).mono ?_; rintro e w4 ⟨rfl, hm, ht⟩; have M4 := Lib.hid hm; have T4 := Lib.hid ((Turned.of_below B3.out HM.out.now.isM).trans ht); clear hm ht)
      refine hK.out _ _ ?_ (fun hHeld => ?_)
      · (try dsimp only)
        all_goals trivial
      clear hK K
      (try simp only [Act.put, List.setIfInBounds_toArray, List.set_cons_zero, List.set_cons_succ])
      refine Plan.start (plan := [8]) (fuel := 0) (by decide +kernel) (by assumption) ?_
      refine Plan.free (i := 8) (ds := some 6) (v := ?_) rfl rfl rfl ?_ (fun _ _ _ h => h) ?_
      rotate_left
      · (intro w hSw; (try dsimp only at hSw); go_simp; first | done | with_reducible rfl)
      (try simp only [Act.put, List.setIfInBounds_toArray, List.set_cons_zero, List.set_cons_succ])
      refine Plan.stop (fun hHeld => ?_)
      refine wpAnyH_done (by decide +kernel) ?_ _
      go_wp2_with fail
      go_ret
      exact ⟨by rw [HE.out]; rfl, by rw [HD.out]; exact M4.out, T4.out⟩
    exact AllReadyH.nil
set_option maxHeartbeats 1000000 in
theorem last_any {p b1 b2 n : Nat} {room : Int} {D D2 : DM} (w : World) (hM : MemS w p b1 b2 room n D D2) : Calls Tryz.prog 17 #[memI p] w fun e w' => e = .returned (.tuple #[.int .u64 (numAt D [113]).1, .int .i64 (numAt D [113]).2]) ∧ Below w.heap.size w w' := by
  have HM := Lib.hid hM
  clear hM
  go_enter Tryz.func17, Tryz.ntmps17
  go_wp2_with fail
  refine (key0_any 113 w).mono ?_
  rintro e w1 ⟨v1, rfl, hB, hb⟩
  have B1 := Lib.hid hb
  have NX := Lib.hid (kvnum_any w1 (HM.out.below hb) v1 [113] hB (by simp))
  clear hB hb
  go_wp2_with fail
  refine NX.out.mono ?_
  rintro e w2 ⟨rfl, hb⟩
  have B2 := Lib.hid (onward hb B1.out)
  clear hb NX

  go_wp2_with fail
  go_ret2
  exact ⟨rfl, B2.out⟩
end Go.Proofs.YtecbnhmnhcpcmaaGreatDoor
