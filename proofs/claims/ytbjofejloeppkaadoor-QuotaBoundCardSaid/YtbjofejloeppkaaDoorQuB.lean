/- The walk of quota.Split. -/
import Derived.Test.YtbjofejloeppkaaDoorQuA
import Derived.OneCell
import Derived.Deep.RegionHeld3
import Derived.Deep.AppendLies
import Derived.Deep.RegionLaw
import Derived.Deep.DrawnRows
namespace Go.Proofs.YtbjofejloeppkaaDoor
open Go.RowKit Go.Shelf Acct
attribute [local go_sem ↓] Go.wp_at_zero Go.wp_at_succ
set_option linter.unusedVariables false
set_option linter.unusedSimpArgs false
theorem lit2d (w : World) (x y : Int) (T : Nat) : IntsAt (w.alloc (.cells #[.int .i64 x, .int .i64 y] T)).drew (.slice (some ⟨w.heap.size, 0, none⟩) 2 2) [x, y] := (lit2 w x y T).below (Below.refl _ _).drew
/-- the variable 'out' of Split (block o) holds the parts so far -/
def OutIs (o : Nat) (done : List (ByteArray × Int)) (dv : Value) (dl : List (ByteArray × Int)) (w : World) : Prop :=
  ∃ v, w.heap[o]? = some (.cells #[v] 39 (0, 0)) ∧ w.ownsRow (o + 1) 42 2 v done.length (partsC done) ∧ w.ownsRow (o + 1) 42 2 dv dl.length (partsC dl) ∧ (dv.ownBlock = none ∨ v.ownBlock ≠ dv.ownBlock)
theorem add_close {w0 w w1 w3 : World} {o x g cap : Nat} {v : Value} {done dl : List (ByteArray × Int)} {dv : Value} {nm : ByteArray} {am t : Int}
    (HB : Below w0.heap.size w0 w) (B1 : Below w.heap.size w w1) (ho : w0.heap.size ≤ o) (hxo : x < o) (HO : w.ownsRow (o + 1) 42 2 v done.length (partsC done)) (HV : w.heap[o]? = some (.cells #[v] 39 (0, 0))) (hx : w.cell? ⟨x, 0, none⟩ = some (.int .u32 t)) (HD : w.ownsRow (o + 1) 42 2 dv dl.length (partsC dl)) (HN : dv.ownBlock = none ∨ v.ownBlock ≠ dv.ownBlock)
    (hat : v.ownBlock = some g ∨ g = (w1.alloc (.cells #[.string nm, .int .i64 am] 42)).heap.size) (hown : w3.ownsRow (o + 1) 42 2 (.slice (some ⟨g, 0, none⟩) (done.length + 1) cap) (done.length + 1) (partsC done ++ [.string nm, .int .i64 am]))
    (hg : (w1.alloc (.cells #[.string nm, .int .i64 am] 42)).grownBy w3 v.ownBlock) (HV3 : w3.heap[o]? = some (.cells #[v] 39 (0, 0))) :
    Below w0.heap.size w0 (w3.setCell ⟨o, 0, none⟩ (.slice (some ⟨g, 0, none⟩) (done.length + 1) cap)) ∧ OutIs o (done ++ [(nm, am)]) dv dl (w3.setCell ⟨o, 0, none⟩ (.slice (some ⟨g, 0, none⟩) (done.length + 1) cap)) ∧ (w3.setCell ⟨o, 0, none⟩ (.slice (some ⟨g, 0, none⟩) (done.length + 1) cap)).cell? ⟨x, 0, none⟩ = some (.int .u32 t) := by
  have ha : Below w0.heap.size w0 (w1.alloc (.cells #[.string nm, .int .i64 am] 42)) := onward (below_alloc _ _) (onward B1 HB)
  have hrow : ∀ k, v.ownBlock = some k → o + 1 ≤ k := fun k hk => (HO.lt k hk).1
  refine ⟨(ha.grown hg ha.size (fun k hk => by have := hrow k hk; omega)).setCell ho _, ⟨_, one_setCell HV3, ?_, ?_, ?_⟩, ?_⟩
  · have h1 := ownsRow_setCell_other (a := ⟨o, 0, none⟩) hown (fun e => by have := (hown.lt o e).1; omega) (.slice (some ⟨g, 0, none⟩) (done.length + 1) cap)
    unfold partsC
    rw [List.flatMap_append, List.length_append]
    exact h1
  · have h1 := (((ownsRow_below HD B1).alloc (.cells #[.string nm, .int .i64 am] 42)).kept hg (by rcases HN with h | h; exact .inl h; exact .inr (Ne.symm h)))
    exact ownsRow_setCell_other (a := ⟨o, 0, none⟩) h1 (fun e => by have := (HD.lt o e).1; omega) _
  · rcases hdv : dv.ownBlock with _ | k
    · exact .inl rfl
    · refine .inr fun e => ?_
      have ek : g = k := by simpa [Value.ownBlock] using e
      have hk := ((ownsRow_below HD B1).lt k hdv).2
      rcases HN with h | h
      · rw [hdv] at h; cases h
      · rcases hat with hv | hv
        · exact h (by rw [hv, hdv, ek])
        · simp at hv; omega
  · have hc := stays (below_alloc w1 (.cells #[.string nm, .int .i64 am] 42)) (stays B1 hx)
    have h3 := hg.cell hc (fun e => by have := hrow x e.symm; omega)
    exact (World.cell?_setCell_other _ _ _ _ (by intro e; injection e with e; omega)).trans h3
set_option maxHeartbeats 4000000 in
set_option maxRecDepth 10000000 in
theorem add_any (word : ByteArray) (n am t : Int) (o x : Nat) (done : List (ByteArray × Int)) (dv : Value) (dl : List (ByteArray × Int)) (w0 w : World) (hP : Pow w) (ho : w0.heap.size ≤ o) (hb : Below w0.heap.size w0 w) (hO : OutIs o done dv dl w) (hx : w.cell? ⟨x, 0, none⟩ = some (.int .u32 t)) (hxo : x < o) (hd : done.length ≤ 1000000) (ht : 0 ≤ t ∧ t < 4294967296) (hn : inInt n) (hs : word.size ≤ 1000) :
    Calls Tryd.prog 14 #[.string word, .int .i64 n, .int .i64 am, .pointer (some ⟨o, 0, none⟩), .pointer (some ⟨x, 0, none⟩)] w fun e w' => e = .returned (.tuple #[]) ∧ Below w0.heap.size w0 w' ∧ OutIs o (if am = 0 then done else done ++ [(nameB word [t, n], am)]) dv dl w' ∧ w'.cell? ⟨x, 0, none⟩ = some (.int .u32 t) := by
  have HP := Lib.hid hP
  have HB := Lib.hid hb
  obtain ⟨v, hv, hown, hdl, hdn⟩ := hO
  have HDL := Lib.hid hdl
  have HDN := Lib.hid hdn
  clear hdl hdn
  have HO := Lib.hid hown
  clear hP hb hown
  by_cases ham : am = 0
  · subst ham
    go_enter Tryd.func14, Tryd.ntmps14
    go_wp2_with fail
    go_end0
    exact ⟨rfl, HB.out, ⟨v, hv, HO.out, HDL.out, HDN.out⟩, hx⟩
  · have hm : (am != 0) = true := by simpa using ham
    have hc := cell_of_one hv
    have hf := free_of_one hv
    obtain ⟨i0, hi, hz0, hz1, hz2⟩ := info_parts infoPart
    go_enter Tryd.func14, Tryd.ntmps14
    go_wp2_with fail
    have hwt : IntKind.i64.wrap t = t := IntWalk.i64_in t (by omega)
    have hin2 : ∀ z ∈ [t, n], inInt z := by
      intro z hz
      simp only [List.mem_cons, List.not_mem_nil, or_false] at hz
      rcases hz with rfl | rfl
      · exact ⟨by omega, by omega⟩
      · exact hn
    have HI2 := Lib.hid hin2
    clear hin2 hn
    have HV := Lib.hid hv
    clear hv
    have hA : (w.alloc (.cells #[.int .i64 t, .int .i64 n] 2)).cell? ⟨o, 0, none⟩ = some v := stays (below_alloc _ _) hc
    go_region_law (first | (go_simp; go_at_call 15; ((with_reducible refine (name_any word _ [t, n] _ (pow_below HP.out (below_alloc _ _).drew) (lit2d w t n 2) HI2.out (by simp) (by omega)).mono ?_); rintro e w1 ⟨rfl, hb⟩; have B1 := Lib.hid (via1 hb); clear hb; have hc1 := stays B1.out hc; have hc2 : (w1.alloc (.cells #[.string (nameB word [t, n]), .int .i64 am] 42)).cell? ⟨o, 0, none⟩ = some v := stays (below_alloc _ _) hc1)) | ((refine step_append_lies _ (by rfl) _ _ _ (by rfl) (o + 1) 42 i0 _ 2 24 Tryd.underlying39 hi hz0 hz1 hz2 rfl (by decide) v done.length (partsC done) (by rfl) ((ownsRow_below HO.out B1.out).alloc _) ⟨w1.heap.size, 0, none⟩ 1 1 [.string (nameB word [t, n]), .int .i64 am] (by rfl) rfl (new_cells _ _ _) (one2 _ _ _) (by decide) (by unfold maxLen; omega) (by omega) (base_ok HV.out B1.out) _ rfl ?_; intro g cap w3 hown3 hgrow3 hat3 hlt3; have HV3 := Lib.hid (grown_keeps ((ownsRow_below HO.out B1.out).alloc _) hgrow3 (stays_block (below_alloc _ _) (stays_block B1.out HV.out))); have hc3 := cell_of_one HV3.out; have hf3 := free_of_one HV3.out)))
    all_goals
      have HZ := Lib.hid (add_close HB.out B1.out ho hxo HO.out HV.out hx HDL.out HDN.out hat3 hown3 hgrow3 HV3.out)
      clear hown3 hgrow3 hat3 HV3 hc3 hf3 hc1 hc2 hA hc hf
      go_end0
      rw [if_neg ham]
      exact ⟨rfl, HZ.out⟩
end Go.Proofs.YtbjofejloeppkaaDoor
