/- The walk of entry.PutPosting. (Printed by gen_jni.py.) Plain text of an account's name: a word of small letters, numbers behind strokes. No program. -/
import Derived.Test.YtecbnhmnhcpcmaaGreatDoorPkJournalPlays9
import Derived.Lib.ItoaMem
import Derived.Lib.ItoaLen
import Derived.Lib.Split
import Derived.Shelf.GgClosure.StringsIndexFunc
import Derived.Lib.TrimUEq
import Derived.Lib.SpaceUEq
/-! The walk of entry.PutPosting. (Printed by gen_jni.py.) -/
namespace Go.Proofs.YtecbnhmnhcpcmaaGreatDoor
open Go.RowKit Go.WideMaps Go.Maps
set_option linter.unusedVariables false
set_option linter.unusedSimpArgs false
set_option maxRecDepth 100000
set_option maxHeartbeats 8000000 in
theorem putp_any (seq : Nat) (time : Int) (ten : Nat) (lv : Value) (L : List Pt) (w : World) (hl : RowsIn w lv 2 (L.map Pt.cells)) (hs : seq < 18446744073709551616) (ht : ten < 4294967296) :
    Calls Tryz.prog 30 #[postV seq time ten lv] w (PutpEnd seq time ten L w) := by
  have PX := Lib.hid (fun (W : World) (hb : Below w.heap.size w W) => posts_any seq time ten lv L W (hl.below hb))
  have HL := Lib.hid hl
  obtain ⟨a, c, rfl⟩ := pt_form hl
  clear hl
  show Calls Tryz.prog 30 #[.agg #[.int .u64 seq, .int .i64 time, .int .u32 ten, .slice a L.length c]] w _
  have B0 := Lib.hid (below_alloc w (.cells #[.int .u64 seq, .int .i64 time, .int .u32 ten, .slice a L.length c] 49))
  have G0 := Lib.hid (heap_alloc_new w (.cells #[.int .u64 seq, .int .i64 time, .int .u32 ten, .slice a L.length c] 49))
  go_enter Tryz.func30, Tryz.ntmps30
  go_wp2_with fail
  refine (PX.out _ B0.out).mono ?_
  generalize w.alloc (.cells #[.int .u64 seq, .int .i64 time, .int .u32 ten, .slice a L.length c] 49) = W0 at *
  rintro e w1 ⟨rfl, hb⟩
  have Y1 := Lib.hid hb
  clear hb PX
  cases hp : postsB seq time L
  · have HP := Lib.hid hp
    clear hp
    go_wp2_with fail
    go_ret2
    exact PutpEnd.no HP.out (onward Y1.out B0.out) rfl
  obtain ⟨p1, p2, p3, p4, p5, p6⟩ := posts_yes hp
  have HP6 := Lib.hid p6
  have HP := Lib.hid hp
  clear hp p6
  have hwt : IntKind.u64.wrap ten = ten := by
    have e : IntKind.u64.wrap ten = (ten : Int) % 18446744073709551616 := rfl
    rw [e]
    omega
  have hwl : IntKind.u64.wrap ((L.length : Nat) : Int) = ((L.length : Nat) : Int) := by
    have e : IntKind.u64.wrap ((L.length : Nat) : Int) = ((L.length : Nat) : Int) % 18446744073709551616 := rfl
    rw [e]
    omega
  have KS : Hid (∀ W, Below w1.heap.size w1 W → W.cell? ⟨w.heap.size, 0, none⟩ = some (.int .u64 seq) ∧ W.cell? ⟨w.heap.size, 1, none⟩ = some (.int .i64 time) ∧ W.cell? ⟨w.heap.size, 2, none⟩ = some (.int .u32 ten) ∧ W.cell? ⟨w.heap.size, 3, none⟩ = some (.slice a L.length c)) := fun W hb => post_cells (stays_block (onward hb Y1.out) G0.out)
  go_upto_region 3 with fail
  refine wp_region_held_drew (S := (fun W => W.cell? ⟨w.heap.size, 0, none⟩ = some (.int .u64 seq) ∧ W.cell? ⟨w.heap.size, 1, none⟩ = some (.int .i64 time) ∧ W.cell? ⟨w.heap.size, 2, none⟩ = some (.int .u32 ten) ∧ W.cell? ⟨w.heap.size, 3, none⟩ = some (.slice a L.length c))) (by kernel_rfl) ?_ (fun hHeld => ?_)
  · (try dsimp only)
    exact KS.out _ (Below.refl _ _).drew
  refine Plan.start (plan := [0, 1, 3, 4, 6, 7, 8]) (fuel := 4) (by decide +kernel) (by assumption) ?_
  refine Plan.free (i := 0) (ds := some 10) (v := ?_) rfl rfl rfl ?_ (fun _ _ _ h => h) ?_
  rotate_left
  · (intro w hSw; (try dsimp only at hSw); go_simp; first | done | with_reducible rfl)
  (try simp only [Act.put, List.setIfInBounds_toArray, List.set_cons_zero, List.set_cons_succ])
  refine Plan.free (i := 1) (ds := some 11) (v := ?_) rfl rfl rfl ?_ (fun _ _ _ h => h) ?_
  rotate_left
  · (intro w hSw; (try dsimp only at hSw); go_simp; first | done | with_reducible rfl)
  (try simp only [Act.put, List.setIfInBounds_toArray, List.set_cons_zero, List.set_cons_succ])
  refine Plan.free (i := 3) (ds := some 13) (v := ?_) rfl rfl rfl ?_ (fun _ _ _ h => h) ?_
  rotate_left
  · (intro w hSw; (try dsimp only at hSw); go_simp; first | done | with_reducible rfl)
  (try simp only [Act.put, List.setIfInBounds_toArray, List.set_cons_zero, List.set_cons_succ])
  refine Plan.free (i := 4) (ds := some 14) (v := ?_) rfl rfl rfl ?_ (fun _ _ _ h => h) ?_
  rotate_left
  · (intro w hSw; (try dsimp only at hSw); go_simp; first | done | with_reducible rfl)
  (try simp only [Act.put, List.setIfInBounds_toArray, List.set_cons_zero, List.set_cons_succ])
  refine Plan.free (i := 6) (ds := some 16) (v := ?_) rfl rfl rfl ?_ (fun _ _ _ h => h) ?_
  rotate_left
  · (intro w hSw; (try dsimp only at hSw); go_simp; first | done | with_reducible rfl)
  (try simp only [Act.put, List.setIfInBounds_toArray, List.set_cons_zero, List.set_cons_succ])
  refine Plan.free (i := 7) (ds := some 17) (v := ?_) rfl rfl rfl ?_ (fun _ _ _ h => h) ?_
  rotate_left
  · (intro w hSw; (try dsimp only at hSw); go_simp; first | done | with_reducible rfl)
  (try simp only [Act.put, List.setIfInBounds_toArray, List.set_cons_zero, List.set_cons_succ])
  refine Plan.free (i := 8) (ds := some 18) (v := ?_) rfl rfl rfl ?_ (fun _ _ _ h => h) ?_
  rotate_left
  · (intro w hSw; (try dsimp only at hSw); go_simp; first | done | with_reducible rfl)
  (try simp only [Act.put, List.setIfInBounds_toArray, List.set_cons_zero, List.set_cons_succ])
  refine Plan.stop (fun hHeld => ?_)
  refine wpAnyH_ready (rs := [2]) (by decide +kernel) (by simp) ?_
  refine AllReadyH.cons (o := _) rfl ?_ AllReadyH.nil
  intro K hK
  rw [if_pos (wanted_none (by rfl))]
  (go_simp; go_at_call 53; refine (wuint_any 0 (.slice none 0 0) [] seq _ (BytesAt.of_own (base := 0) (World.ownsRow_nil _ _ _ _)) (by simp) hs).mono ?_; rintro e w2 ⟨v2, rfl, hB, hb⟩; have H2 := Lib.hid hB; have Y2 := Lib.hid (onward hb (Below.refl _ _).drew); clear hb hB)
  refine hK.out _ _ ?_ (fun hHeld => ?_)
  · (try dsimp only)
    exact KS.out _ Y2.out
  clear hK K
  (try simp only [Act.put, List.setIfInBounds_toArray, List.set_cons_zero, List.set_cons_succ])
  refine wpAnyH_ready (rs := [5]) (by decide +kernel) (by simp) ?_
  refine AllReadyH.cons (o := _) rfl ?_ AllReadyH.nil
  intro K hK
  rw [if_pos (wanted_none (by rfl))]
  (go_simp; go_at_call 54; refine (wint_any 0 v2 _ time _ H2.out (by simp [big8])).mono ?_; rintro e w3 ⟨v3, rfl, hB, hb⟩; have H3 := Lib.hid hB; have Y3 := Lib.hid (onward hb Y2.out); clear hb hB)
  refine hK.out _ _ ?_ (fun hHeld => ?_)
  · (try dsimp only)
    exact KS.out _ Y3.out
  clear hK K
  (try simp only [Act.put, List.setIfInBounds_toArray, List.set_cons_zero, List.set_cons_succ])
  refine wpAnyH_ready (rs := [9]) (by decide +kernel) (by simp) ?_
  refine AllReadyH.cons (o := _) rfl ?_ AllReadyH.nil
  intro K hK
  rw [if_pos (wanted_none (by rfl))]
  (go_simp; go_at_call 53; refine (wuint_any 0 v3 _ ten _ H3.out (by simp [big8]) (by omega)).mono ?_; rintro e w4 ⟨v4, rfl, hB, hb⟩; have H4 := Lib.hid hB; have Y4 := Lib.hid (onward hb Y3.out); clear hb hB)
  refine hK.out _ _ ?_ (fun hHeld => ?_)
  · (try dsimp only)
    exact KS.out _ Y4.out
  clear hK K
  (try simp only [Act.put, List.setIfInBounds_toArray, List.set_cons_zero, List.set_cons_succ])
  refine Plan.start (plan := [10]) (fuel := 0) (by decide +kernel) (by assumption) ?_
  refine Plan.free (i := 10) (ds := some 4) (v := ?_) rfl rfl rfl ?_ (fun _ _ _ h => h) ?_
  rotate_left
  · (intro w hSw; (try dsimp only at hSw); go_simp; first | done | with_reducible rfl)
  (try simp only [Act.put, List.setIfInBounds_toArray, List.set_cons_zero, List.set_cons_succ])
  refine Plan.stop (fun hHeld => ?_)
  refine wpAnyH_done (by decide +kernel) ?_ _
  go_wp2_with fail
  obtain ⟨-, -, -, q3⟩ := KS.out _ Y4.out
  go_wp2_with fail
  refine (wuint_any 0 v4 _ L.length _ H4.out (by simp [big8]) (by omega)).mono ?_
  rintro e w5 ⟨v5, rfl, hB, hb⟩
  have H5 : Hid (BytesAt 0 w5 v5 (headL seq time ten L.length)) := hB
  have Y5 := Lib.hid (onward hb Y4.out)
  have B5 := Lib.hid (onward (onward Y5.out Y1.out) B0.out)
  clear hb hB q3 H2 H3 H4 Y2 Y3 Y4
  obtain ⟨-, -, -, q3⟩ := KS.out _ Y5.out
  go_wp2_with fail
  clear q3
  go_loopw [4, 29] (fun bv iv wr => ∃ (k : Nat) (xs : Bs), k ≤ L.length ∧ iv = .int .i64 k ∧ Hid (xs = headL seq time ten L.length ++ (L.take k).flatMap partL) ∧ Hid (BytesAt 0 wr bv xs) ∧ Hid (Below w.heap.size w wr)) (fun _ iv _ => L.length - (intOf iv).toNat)
  case atStart => exact ⟨0, headL seq time ten L.length, by omega, rfl, by (show _ = _); simp, H5.out, B5.out⟩
  case round =>
    obtain ⟨k, xs, hk, rfl, HXS0, HX, BR⟩ := hrel
    have hxl : xs.length ≤ 1000 := by
      have h := parts_len (L.take k) (fun p hp => (HP6.out p (List.mem_of_mem_take hp)).2.1)
      rw [HXS0.out, List.length_append, headL_len]
      have h2 : (L.take k).length ≤ 16 := by rw [List.length_take]; omega
      omega
    by_cases hlt : k < L.length
    · obtain ⟨g, o, rfl, y0, y1⟩ := pt_cells (HL.out.below BR.out) k hlt
      have hz : (k : Int) < L.length := by omega
      have HST0 : Hid (headL seq time ten L.length ++ (L.take (k + 1)).flatMap partL = xs ++ partL L[k]) := by
        show _ = _
        rw [HXS0.out, List.take_succ_eq_append_getElem hlt, List.flatMap_append, List.append_assoc]
        simp
      have h32 := (HP6.out L[k] (List.getElem_mem hlt)).2.1
      generalize L[k] = p at *
      obtain ⟨s, m⟩ := p
      dsimp only at y0 y1 h32
      have hsl : s.data.toList.length = s.size := by rw [Array.length_toList]; rfl
      have HXS : Hid (xs ++ partL ⟨s, m⟩ = xs ++ ((big8 s.data.toList.length).drop 4) ++ s.data.toList ++ big8 (toU m)) := by
        show _ = _
        unfold partL
        rw [hsl]
        simp [List.append_assoc]
      have HST : Hid (xs ++ partL ⟨s, m⟩ = headL seq time ten L.length ++ (L.take (k + 1)).flatMap partL) := HST0.out.symm
      have ba := below_alloc wr (.cells #[.string s, .int .i64 m] 41)
      have P6 := Lib.hid (heap_alloc_new wr (.cells #[.string s, .int .i64 m] 41))
      have HX6 := Lib.hid (HX.out.below ba)
      have BV := Lib.hid (onward ba BR.out)
      clear ba HX BR HST0 HXS0
      go_upto_region 8 with fail
      generalize wr.alloc (.cells #[.string s, .int .i64 m] 41) = V at *
      have HX := HX6
      have KT : Hid (∀ W, Below V.heap.size V W → W.cell? ⟨wr.heap.size, 0, none⟩ = some (.string s) ∧ W.cell? ⟨wr.heap.size, 1, none⟩ = some (.int .i64 m)) := fun W hb => part_cells2 (stays_block hb P6.out)
      have SB := string_bytes
      refine wp_region_held_drew (S := (fun W => W.cell? ⟨wr.heap.size, 0, none⟩ = some (.string s) ∧ W.cell? ⟨wr.heap.size, 1, none⟩ = some (.int .i64 m))) (by kernel_rfl) ?_ (fun hHeld => ?_)
      · (try dsimp only)
        exact KT.out _ (Below.refl _ _).drew
      refine Plan.start (plan := [0, 1, 2, 5, 6]) (fuel := 4) (by decide +kernel) (by assumption) ?_
      refine Plan.free (i := 0) (ds := some 33) (v := ?_) rfl rfl rfl ?_ (fun _ _ _ h => h) ?_
      rotate_left
      · (intro w hSw; (try dsimp only at hSw); go_simp; first | done | with_reducible rfl)
      (try simp only [Act.put, List.setIfInBounds_toArray, List.set_cons_zero, List.set_cons_succ])
      refine Plan.free (i := 1) (ds := some 34) (v := ?_) rfl rfl rfl ?_ (fun _ _ _ h => h) ?_
      rotate_left
      · (intro w hSw; (try dsimp only at hSw); go_simp; first | done | with_reducible rfl)
      (try simp only [Act.put, List.setIfInBounds_toArray, List.set_cons_zero, List.set_cons_succ])
      refine Plan.free (i := 2) (ds := some 35) (v := ?_) rfl rfl rfl ?_ (fun _ _ _ h => h) ?_
      rotate_left
      · (intro w hSw; (try dsimp only at hSw); go_simp; first | done | with_reducible rfl)
      (try simp only [Act.put, List.setIfInBounds_toArray, List.set_cons_zero, List.set_cons_succ])
      refine Plan.free (i := 5) (ds := some 38) (v := ?_) rfl rfl rfl ?_ (fun _ _ _ h => h) ?_
      rotate_left
      · (intro w hSw; (try dsimp only at hSw); go_simp; first | done | with_reducible rfl)
      (try simp only [Act.put, List.setIfInBounds_toArray, List.set_cons_zero, List.set_cons_succ])
      refine Plan.free (i := 6) (ds := some 39) (v := ?_) rfl rfl rfl ?_ (fun _ _ _ h => h) ?_
      rotate_left
      · (intro w hSw; (try dsimp only at hSw); go_simp; first | done | with_reducible rfl)
      (try simp only [Act.put, List.setIfInBounds_toArray, List.set_cons_zero, List.set_cons_succ])
      refine Plan.stop (fun hHeld => ?_)
      refine wpAnyH_ready (rs := [3]) (by decide +kernel) (by simp) ?_
      refine AllReadyH.cons (o := _) rfl ?_ AllReadyH.nil
      intro K hK
      rw [if_pos (wanted_none (by rfl))]
      (go_simp; have HBB := Lib.hid (bytesWorld_at (B := 0) V.drew s (grownCap V.drew s.size 0 5)); have Y6 := Lib.hid (onward (below_bytes V.drew s) (Below.refl _ _).drew); generalize Lib.bytesWorld V.drew 5 s = V6 at *)
      refine hK.out _ _ ?_ (fun hHeld => ?_)
      · (try dsimp only)
        exact KT.out _ Y6.out
      clear hK K
      (try simp only [Act.put, List.setIfInBounds_toArray, List.set_cons_zero, List.set_cons_succ])
      refine wpAnyH_ready (rs := [4]) (by decide +kernel) (by simp) ?_
      refine AllReadyH.cons (o := _) rfl ?_ AllReadyH.nil
      intro K hK
      rw [if_pos (wanted_none (by rfl))]
      (go_simp; go_at_call 55; refine (wtext_any 0 0 u4 _ xs s.data.toList _ (HX.out.below Y6.out) HBB.out (by omega) (by omega)).mono ?_; rintro e w7 ⟨v7, rfl, hB, hb⟩; have H7 := Lib.hid hB; have Y7 := Lib.hid (onward hb Y6.out); clear hb hB)
      refine hK.out _ _ ?_ (fun hHeld => ?_)
      · (try dsimp only)
        exact KT.out _ Y7.out
      clear hK K
      (try simp only [Act.put, List.setIfInBounds_toArray, List.set_cons_zero, List.set_cons_succ])
      refine wpAnyH_ready (rs := [7]) (by decide +kernel) (by simp) ?_
      refine AllReadyH.cons (o := _) rfl ?_ AllReadyH.nil
      intro K hK
      rw [if_pos (wanted_none (by rfl))]
      (go_simp; go_at_call 54; refine (wint_any 0 v7 _ m _ H7.out (by rw [List.length_append, List.length_append, List.length_drop, big8_len]; omega)).mono ?_; rintro e w8 ⟨v8, rfl, hB, hb⟩; have H8 := Lib.hid hB; have Y8 := Lib.hid (onward hb Y7.out); clear hb hB)
      refine hK.out _ _ ?_ (fun hHeld => ?_)
      · (try dsimp only)
        exact KT.out _ Y8.out
      clear hK K
      (try simp only [Act.put, List.setIfInBounds_toArray, List.set_cons_zero, List.set_cons_succ])
      refine Plan.start (plan := [8]) (fuel := 0) (by decide +kernel) (by assumption) ?_
      refine Plan.free (i := 8) (ds := some 4) (v := ?_) rfl rfl rfl ?_ (fun _ _ _ h => h) ?_
      rotate_left
      · (intro w hSw; (try dsimp only at hSw); go_simp; first | done | with_reducible rfl)
      (try simp only [Act.put, List.setIfInBounds_toArray, List.set_cons_zero, List.set_cons_succ])
      refine Plan.stop (fun hHeld => ?_)
      refine wpAnyH_done (by decide +kernel) ?_ _
      go_wp2_with fail
      go_roundw
      case rel => exact ⟨k + 1, _, by omega, by go_num, HST.out, by (show BytesAt _ _ _ _); rw [HXS.out]; exact H8.out, onward Y8.out BV.out⟩
      case measure => simp [intOf]; omega
    · obtain rfl : k = L.length := by omega
      have HX0 := HX.out
      rw [HXS0.out, List.take_length] at HX0
      have HX1 := Lib.hid HX0
      clear HX0 HX HXS0
      go_wp2_with fail
      go_ret2
      exact PutpEnd.yes HP.out BR.out HX1.out rfl
end Go.Proofs.YtecbnhmnhcpcmaaGreatDoor
/-! Plain text of an account's name: a word of small letters, numbers behind strokes. No program. -/
namespace Go.Proofs.YtecbnhmnhcpcmaaGreatDoor.Acct
open Go Go.Lib
set_option linter.unusedVariables false
def isL (c : UInt8) : Bool := decide (97 ≤ c.toNat) && decide (c.toNat ≤ 122)
def lettersL (l : List UInt8) : Bool := !l.isEmpty && l.all isL
/-- what the closure in acct.letters tells of a rune -/
def notL (x : Nat) : Bool := decide (x < 97) || decide (122 < x)
theorem isL_iff (c : UInt8) : isL c = true ↔ 97 ≤ c.toNat ∧ c.toNat ≤ 122 := by simp [isL]
theorem notL_iff (x : Nat) : notL x = false ↔ 97 ≤ x ∧ x ≤ 122 := by simp [notL]
theorem rune_hi (n b0 b1 b2 b3 : Nat) (h : 128 ≤ b0) : 128 ≤ (decodeN n b0 b1 b2 b3).1 := by
  rcases decodeN_cases n b0 b1 b2 b3 with ⟨c, _⟩ | ⟨_, _, _, c, e⟩ | ⟨_, _, _, _, c, e⟩ | ⟨c, _⟩ | e
  · omega
  · rw [e]; exact c
  · rw [e]; simp only; omega
  · omega
  · rw [e]; simp only; omega
/-- a rune is a small letter just if it is one byte, a small letter -/
theorem letter_rune (s : ByteArray) (pos : Nat) : (notL (Utf8.decode s pos).1 = false ∧ (Utf8.decode s pos).2 = 1 ∧ isL (s.get! pos) = true) ∨ (notL (Utf8.decode s pos).1 = true ∧ isL (s.get! pos) = false) := by
  rw [decode_at]
  by_cases h : (s.get! pos).toNat < 128
  · rw [decodeN_ascii _ _ _ _ _ h]
    by_cases c : 97 ≤ (s.get! pos).toNat ∧ (s.get! pos).toNat ≤ 122
    · exact .inl ⟨(notL_iff _).2 c, rfl, (isL_iff _).2 c⟩
    · exact .inr ⟨by rw [← Bool.not_eq_false]; exact fun e => c ((notL_iff _).1 e), by rw [← Bool.not_eq_true]; exact fun e => c ((isL_iff _).1 e)⟩
  · have hh := rune_hi (s.size - pos) (s.get! pos).toNat (s.get! (pos + 1)).toNat (s.get! (pos + 2)).toNat (s.get! (pos + 3)).toNat (by omega)
    have k1 : ¬ notL (decodeN (s.size - pos) (s.get! pos).toNat (s.get! (pos + 1)).toNat (s.get! (pos + 2)).toNat (s.get! (pos + 3)).toNat).1 = false := fun e => by have := (notL_iff _).1 e; omega
    have k2 : ¬ isL (s.get! pos) = true := fun e => by have := (isL_iff _).1 e; omega
    exact .inr ⟨by simpa using k1, by simpa using k2⟩
theorem idx_from (s : ByteArray) : ∀ (f pos : Nat), s.size ≤ pos + f → (idxFuncFrom notL true s f pos < 0 ↔ ∀ j, pos ≤ j → j < s.size → isL (s.get! j) = true)
  | 0, pos, h => ⟨fun _ j h1 h2 => by omega, fun _ => by simp [idxFuncFrom]⟩
  | f + 1, pos, h => by
    unfold idxFuncFrom
    by_cases hp : pos < s.size
    · rw [if_pos hp]
      rcases letter_rune s pos with ⟨h1, h2, h3⟩ | ⟨h1, h2⟩
      · rw [if_neg (by rw [h1]; decide), h2, idx_from s f (pos + 1) (by omega)]
        constructor
        · intro hj j j1 j2
          by_cases e : j = pos
          · subst e; exact h3
          · exact hj j (by omega) j2
        · exact fun hj j j1 j2 => hj j (by omega) j2
      · rw [if_pos h1]
        constructor
        · intro hc; omega
        · intro hj; have := hj pos (Nat.le_refl _) hp; rw [h2] at this; cases this
    · rw [if_neg hp]
      exact ⟨fun _ j h1 h2 => by omega, fun _ => by decide⟩
theorem get_list (s : ByteArray) (j : Nat) (h : j < s.size) : s.get! j = s.data.toList[j]'(by simpa using h) := by
  show s.data[j]! = _
  rw [getElem!_pos s.data j h]
  simp
theorem idx_letters (s : ByteArray) : decide (0 ≤ idxFunc notL true s) = !s.data.toList.all isL := by
  have h := idx_from s s.size 0 (by omega)
  have e : s.data.toList.all isL = true ↔ ∀ j, 0 ≤ j → j < s.size → isL (s.get! j) = true := by
    rw [List.all_eq_true]
    constructor
    · intro ha j _ hj
      rw [get_list s j hj]
      exact ha _ (List.getElem_mem _)
    · intro ha x hx
      obtain ⟨j, hj, rfl⟩ := List.getElem_of_mem hx
      have hj' : j < s.size := by simpa using hj
      rw [← get_list s j hj']
      exact ha j (Nat.zero_le _) hj'
  cases hb : s.data.toList.all isL
  · have : ¬ idxFunc notL true s < 0 := fun hc => by
      have := e.2 (h.1 hc)
      rw [hb] at this; cases this
    exact decide_eq_true (by omega)
  · have := h.2 (e.1 hb)
    exact decide_eq_false (by unfold idxFunc; omega)
/-- numbers behind strokes -/
def partsL : List Int → List UInt8
  | [] => []
  | n :: r => 47 :: (itoa n ++ partsL r)
theorem partsL_append (a b : List Int) : partsL (a ++ b) = partsL a ++ partsL b := by
  induction a with
  | nil => rfl
  | cons x a ih => simp [partsL, ih]
theorem partsL_snoc (a : List Int) (n : Int) : partsL (a ++ [n]) = partsL a ++ 47 :: itoa n := by rw [partsL_append]; simp [partsL]
def inInt (n : Int) : Prop := -9223372036854775808 ≤ n ∧ n ≤ 9223372036854775807
theorem partsL_len (a : List Int) (h : ∀ n ∈ a, inInt n) : (partsL a).length ≤ 22 * a.length := by
  induction a with
  | nil => simp [partsL]
  | cons x a ih =>
    have h1 := ih (fun n hn => h n (List.mem_cons_of_mem _ hn))
    have h2 := itoa_length_le x (h x (List.mem_cons_self)).1 (h x (List.mem_cons_self)).2
    simp [partsL]; omega
/-- an account's name; empty: there is none -/
def nameL (word : List UInt8) (ns : List Int) : List UInt8 := if lettersL word = true ∧ (word ++ partsL ns).length ≤ 32 then word ++ partsL ns else []
def nameB (word : ByteArray) (ns : List Int) : ByteArray := ⟨(nameL word.data.toList ns).toArray⟩
theorem nameL_yes {l : List UInt8} {ns : List Int} (h : lettersL l = true) (h' : (l ++ partsL ns).length ≤ 32) : nameL l ns = l ++ partsL ns := if_pos ⟨h, h'⟩
theorem nameL_long {l : List UInt8} {ns : List Int} (h' : ¬ (l ++ partsL ns).length ≤ 32) : nameL l ns = [] := if_neg fun h => h' h.2
theorem nameL_word {l : List UInt8} {ns : List Int} (h' : lettersL l = false) : nameL l ns = [] := if_neg fun h => by rw [h'] at h; cases h.1
end Go.Proofs.YtecbnhmnhcpcmaaGreatDoor.Acct
