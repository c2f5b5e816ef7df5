/- The walks of packs.account, packs.Total and packs.Draw. -/
import Derived.Test.YtbjofejloeppkaaDoorAcA
import Derived.Laws.AppendOwn
import Derived.Laws.OwnMore
import Derived.WalkKit
import Derived.WalkLawsBesides
namespace Go.Proofs.YtbjofejloeppkaaDoor
open Go.RowKit Go.Shelf Acct
set_option linter.unusedVariables false
set_option linter.unusedSimpArgs false
def wPack : ByteArray := ⟨#[112, 97, 99, 107]⟩
theorem lit2 (w : World) (x y : Int) (T : Nat) : IntsAt (w.alloc (.cells #[.int .i64 x, .int .i64 y] T)) (.slice (some ⟨w.heap.size, 0, none⟩) 2 2) [x, y] :=
  ⟨_, 2, rfl, fun i hi => ⟨w.heap.size, 0, rfl, by
    rw [Nat.zero_add, World.cell?_alloc_new]
    have : i = 0 ∨ i = 1 := by simp at hi; omega
    rcases this with rfl | rfl <;> rfl⟩⟩
set_option maxHeartbeats 1000000 in
theorem account_any (t id : Int) (w : World) (hP : Pow w) (ht : 0 ≤ t ∧ t < 4294967296) (hi : 0 ≤ id ∧ id < 4294967296) : Calls Tryd.prog 19 #[.int .u32 t, .int .u32 id] w fun e w' => e = .returned (.string (nameB wPack [t, id])) ∧ Below w.heap.size w w' := by
  have HP := Lib.hid hP
  clear hP
  go_enter Tryd.func19, Tryd.ntmps19
  go_wp2_with fail
  refine (name_any wPack _ [t, id] _ (pow_below HP.out ((Below.refl _ _).alloc (Nat.le_refl _) _)) (lit2 w t id 2) (by simp [inInt]; omega) (by simp) (by decide)).mono ?_
  rintro e w1 ⟨rfl, hb⟩
  have HB : Hid (Below w.heap.size w w1) := ((Below.refl _ _).alloc (Nat.le_refl _) _).trans (hb.mono (by simp))
  clear hb
  go_wp2
  go_ret
  exact ⟨rfl, HB.out⟩
/-- packs lie in memory: a number, when it ends, its units -/
def LeftsAt (w : World) (v : Value) (ls : List (Int × Int × Int)) : Prop := ∃ a c, v = .slice a ls.length c ∧ ∀ i, i < ls.length → ∃ b o, a = some ⟨b, o, none⟩ ∧ w.cell? ⟨b, o + i * 3, none⟩ = some (.int .u32 (ls.getD i (0, 0, 0)).1) ∧ w.cell? ⟨b, o + i * 3 + 1, none⟩ = some (.int .i64 (ls.getD i (0, 0, 0)).2.1) ∧ w.cell? ⟨b, o + i * 3 + 2, none⟩ = some (.int .i64 (ls.getD i (0, 0, 0)).2.2)
theorem LeftsAt.below {w w' : World} {v : Value} {ns : List (Int × Int × Int)} (h : LeftsAt w v ns) (hb : Below w.heap.size w w') : LeftsAt w' v ns := by
  obtain ⟨a, c, rfl, hc⟩ := h
  exact ⟨a, c, rfl, fun i hi => by
    obtain ⟨b, o, rfl, h1, h2, h3⟩ := hc i hi
    exact ⟨b, o, rfl, stays hb h1, stays hb h2, stays hb h3⟩⟩
/-- a part of a posting: its cells -/
def partC (p : ByteArray × Int) : List Value := [.string p.1, .int .i64 p.2]
def partsC (l : List (ByteArray × Int)) : List Value := l.flatMap partC
/-- what Draw takes of packs -/
def drawL (t : Int) : Int → List (Int × Int × Int) → List (ByteArray × Int)
  | _, [] => []
  | rest, x :: l => if 0 < min rest x.2.2 then (nameB wPack [t, x.1], -(min rest x.2.2)) :: drawL t (rest - min rest x.2.2) l else drawL t rest l
def drawR : Int → List (Int × Int × Int) → Int
  | rest, [] => rest
  | rest, x :: l => if 0 < min rest x.2.2 then drawR (rest - min rest x.2.2) l else drawR rest l
theorem infoPart : (Tryd.prog.info? 42).map (fun i => (i.zero, i.size, i.bytes)) = some (some (.agg #[.string ⟨#[]⟩, .int .i64 0]), 2, 24) := by kernel_rfl
set_option maxHeartbeats 1000000 in
theorem draw_any (t units : Int) (v : Value) (ls : List (Int × Int × Int)) (w : World) (hP : Pow w) (hL : LeftsAt w v ls) (ht : 0 ≤ t ∧ t < 4294967296) (hls : ∀ x ∈ ls, 0 ≤ x.1 ∧ x.1 < 4294967296) (hu : inInt units) (hll : ls.length ≤ 1000000) :
    Calls Tryd.prog 16 #[.int .u32 t, v, .int .i64 units] w fun e w' => ∃ pv, e = .returned (.tuple #[pv, .int .i64 (drawR (max 0 units) ls)]) ∧ Below w.heap.size w w' ∧ w'.ownsRow w.heap.size 42 2 pv (drawL t (max 0 units) ls).length (partsC (drawL t (max 0 units) ls)) := by
  have HP := Lib.hid hP
  obtain ⟨a, c, rfl, hc⟩ := hL
  have HC := Lib.hid hc
  clear hP hc
  go_enter Tryd.func16, Tryd.ntmps16
  go_wp2_with fail
  obtain ⟨i0, hi, hz0, hz1, hz2⟩ := info_parts infoPart
  go_loopw [8, 9, 17] (fun pv r i wr => ∃ (k : Nat) (R : Int) (done : List (ByteArray × Int)), k ≤ ls.length ∧ i = .int .i64 k ∧ r = .int .i64 R ∧ 0 ≤ R ∧ R ≤ 9223372036854775807 ∧ Below w.heap.size w wr ∧ wr.ownsRow w.heap.size 42 2 pv done.length (partsC done) ∧ done.length ≤ k ∧
      drawL t (max 0 units) ls = done ++ drawL t R (ls.drop k) ∧ drawR (max 0 units) ls = drawR R (ls.drop k)) (fun _ _ i _ => ls.length - (intOf i).toNat)
  case atStart => exact ⟨0, max 0 units, [], by omega, rfl, rfl, by omega, by have := hu.2; omega, Below.refl _ _, World.ownsRow_nil _ _ _ _, by simp, by simp, by simp⟩
  case round =>
    obtain ⟨k, R, done, hk, rfl, rfl, hR0, hR1, hbr, hown, hdk, hD, hDR⟩ := hrel
    have BR := Lib.hid hbr
    have HO := Lib.hid hown
    have HD := Lib.hid hD
    have HDR := Lib.hid hDR
    clear hbr hown hD hDR
    by_cases hlt : k < ls.length
    · obtain ⟨b, o, rfl, h1, h2, h3⟩ := HC.out k hlt
      replace h1 := stays BR.out h1
      replace h2 := stays BR.out h2
      replace h3 := stays BR.out h3
      have hx := hls _ (List.getElem_mem hlt)
      have HX : Hid (ls.drop k = ls[k] :: ls.drop (k + 1)) := List.drop_eq_getElem_cons hlt
      rw [getD_at _ _ _ hlt] at h1 h2 h3
      obtain ⟨x, hxx⟩ : ∃ x, ls[k] = x := ⟨_, rfl⟩
      rw [hxx] at h1 h2 h3 HX hx
      clear hxx
      obtain ⟨id, ex, un⟩ := x
      simp only at h1 h2 h3 hx
      by_cases hm : 0 < min R un
      · go_wp2_with fail
        refine (account_any t id _ (pow_below HP.out (onward ((Below.refl _ _).alloc (Nat.le_refl _) _) BR.out)) ht hx).mono ?_
        rintro e w2 ⟨rfl, hb⟩
        have B2 : Hid (Below w.heap.size w w2) := onward ((Below.refl _ _).alloc (Nat.le_refl _) _ |>.trans (hb.mono (by simp))) BR.out
        have O2 := Lib.hid (ownsRow_below (HO.out.alloc _) hb)
        clear hb h1 h2 h3 BR HO HC
        go_wp2_with (at_builtin; refine wpList_append_own _ rfl _ _ 39 rfl w.heap.size 42 i0 _ 2 24 Tryd.underlying39 hi hz0 hz1 hz2 rfl (by decide) _ _ _ rfl (O2.out.alloc _) ⟨w2.heap.size, 0, none⟩ 1 1 [.string (nameB wPack [t, id]), .int .i64 (-(min R un))] rfl rfl (new_cells _ _ _) (one2 _ _ _) (by unfold maxLen; omega) (by omega) (by have := B2.out.size; simp; omega) ?_)
        intro v' w3 hown3 hgrow3 _
        have B3 := Lib.hid (owned_below (O2.out.alloc _) (B2.out.alloc B2.out.size _) hgrow3)
        have HX' := HX.out
        have HA := Lib.hid (show drawL t R (ls.drop k) = (nameB wPack [t, id], -(min R un)) :: drawL t (R - min R un) (ls.drop (k + 1)) from by rw [HX', drawL, if_pos hm])
        have HAR := Lib.hid (show drawR R (ls.drop k) = drawR (R - min R un) (ls.drop (k + 1)) from by rw [HX', drawR, if_pos hm])
        have O3 : Hid (w3.ownsRow w.heap.size 42 2 v' (done ++ [(nameB wPack [t, id], -(min R un))]).length (partsC (done ++ [(nameB wPack [t, id], -(min R un))]))) := by
          unfold Hid partsC
          rw [List.flatMap_append, List.length_append]
          exact hown3
        clear hown3 hgrow3 O2 B2 HX HX'
        go_wp2
        go_roundw
        case rel => exact ⟨k + 1, R - min R un, _, by omega, by go_num, rfl, by omega, by omega, B3.out, O3.out, by simp; omega, by rw [HD.out, HA.out, List.append_assoc]; rfl, by rw [HDR.out, HAR.out]⟩
        case measure => simp [intOf]; omega
      · have HX' := HX.out
        have HA := Lib.hid (show drawL t R (ls.drop k) = drawL t R (ls.drop (k + 1)) from by rw [HX', drawL, if_neg hm])
        have HAR := Lib.hid (show drawR R (ls.drop k) = drawR R (ls.drop (k + 1)) from by rw [HX', drawR, if_neg hm])
        clear HX HX'
        go_wp2
        go_roundw
        case rel => exact ⟨k + 1, R, done, by omega, by go_num, rfl, by omega, by omega, onward ((Below.refl _ _).alloc (Nat.le_refl _) _) BR.out, HO.out.alloc _, by omega, by rw [HD.out, HA.out], by rw [HDR.out, HAR.out]⟩
        case measure => simp [intOf]; omega
    · obtain rfl : k = ls.length := by omega
      have HZ : Hid (drawL t (max 0 units) ls = done ∧ drawR (max 0 units) ls = R) := by
        have h1 := HD.out
        have h2 := HDR.out
        rw [List.drop_length] at h1 h2
        exact ⟨by rw [h1]; simp [drawL], by rw [h2]; rfl⟩
      go_wp2
      go_ret2
      refine ⟨_, by rw [HZ.out.2]; rfl, BR.out, by rw [HZ.out.1]; exact HO.out⟩
end Go.Proofs.YtbjofejloeppkaaDoor
