/- The walks of the laws' two and posts. The walk of the laws' posts. -/
import Derived.Test.YtecbnhmnhcpcmaaGreatDoorPkJournalPlays21
import Derived.Test.YtecbnhmnhcpcmaaGreatDoorPkJournalPlays22
/-! The walks of the laws' two and posts. -/
namespace Go.Proofs.YtecbnhmnhcpcmaaGreatDoor
open Go.RowKit Go.WideMaps Go.Maps
set_option linter.unusedVariables false
set_option linter.unusedSimpArgs false
set_option maxRecDepth 100000
theorem two_any (a b : ByteArray) (n : Int) (w : World) (h1 : -9223372036854775807 ≤ n) (h2 : n ≤ 9223372036854775807) : Calls Tryz.prog 28 #[.string a, .int .i64 n, .string b] w fun e w' => ∃ lv, e = .returned lv ∧ RowsIn w' lv 2 (([⟨a, n⟩, ⟨b, -n⟩] : List Pt).map Pt.cells) ∧ Below w.heap.size w w' := by
  have hw : IntKind.i64.wrap (-n) = -n := IntWalk.i64_in _ (by omega)
  have G := Lib.hid (heap_alloc_new w (.cells #[.string a, .int .i64 n, .string b, .int .i64 (-n)] 41))
  go_enter Tryz.func28, Tryz.ntmps28
  go_wp2_with fail
  go_ret
  refine ⟨_, rfl, ⟨_, 2, rfl, Nat.le_refl _, by unfold maxLen; omega, fun i hi => ⟨w.heap.size, 0, rfl, lt_of_block G.out, fun j hj => ?_⟩⟩, below_alloc _ _⟩
  rw [cell_of_row G.out]
  have hi2 : i = 0 ∨ i = 1 := by simp at hi; omega
  have hj2 : j = 0 ∨ j = 1 := by omega
  rcases hi2 with rfl | rfl <;> rcases hj2 with rfl | rfl <;> rfl
/-- a store of the journal without bounds -/
structure JnlS (w : World) (p b1 b2 n : Nat) (D D2 : DM) : Prop where
  mem : MemS w p b1 b2 (-1) n D D2
  isM : IsMap D
  wf : WFJ D
  last : lastN D < 100000
theorem JnlS.below {w w' : World} {p b1 b2 n : Nat} {D D2 : DM} (h : JnlS w p b1 b2 n D D2) (hb : Below w.heap.size w w') : JnlS w' p b1 b2 n D D2 := ⟨h.mem.below hb, h.isM, h.wf, h.last⟩
theorem jn_post {p b1 b2 n : Nat} {D D2 : DM} (time : Int) (ten : Nat) (lv : Value) (L : List Pt) (w : World) (hE : EnvA w) (hM : JnlS w p b1 b2 n D D2) (hn : n < 900000) (hl : RowsIn w lv 2 (L.map Pt.cells)) (hL : L.length ≤ 40) (ht : ten < 4294967296) (hs : ∀ q ∈ L, q.a.size ≤ 100 ∧ Acct.inInt q.n) :
    Calls Tryz.prog 10 #[memI p, .int .i64 time, .int .u32 ten, lv] w fun e w' => e = .returned (.tuple #[.int .u64 (postO D time ten L).1, .int .i64 (postO D time ten L).2.1]) ∧ MemS w' p b1 b2 (-1) (n + 42) (postO D time ten L).2.2 D2 ∧ Turned b1 w w' := by
  refine (post_any time ten lv L w hE hM.mem hM.wf hn (by have := hM.last; omega) hl hL ht hs).mono ?_
  rintro e w' ⟨h1, h2, h3⟩
  rw [post_free _ _ _ _ (fun q hq => (hs q hq).1)] at h1 h2
  exact ⟨h1, h2.mono (by omega), h3⟩
theorem isM_post {D : DM} {time : Int} {ten : Nat} {L : List Pt} (h : IsMap D) : IsMap (postD D time ten L) := isM_kept (isM_keptAll _ _ (isM_pt h _ _)) _ _
theorem wf_empty : WFJ (.map []) := fun k b _ hg => by cases hg
theorem last_empty : lastN (.map []) = 0 := rfl
/-! the example's accounts -/
abbrev use1 : ByteArray := ⟨#[117, 115, 101, 47, 49]⟩
abbrev free1 : ByteArray := ⟨#[102, 114, 101, 101, 47, 49]⟩
abbrev due1 : ByteArray := ⟨#[100, 117, 101, 47, 49]⟩
abbrev cUse : ByteArray := ⟨#[85, 115, 101]⟩
theorem nm_use : Acct.Named use1.data.toList [117, 115, 101] [1] := ⟨by decide +kernel, by decide, fun n hn => by simp at hn; subst hn; unfold Acct.inInt; decide⟩
theorem nm_free : Acct.Named free1.data.toList [102, 114, 101, 101] [1] := ⟨by decide +kernel, by decide, fun n hn => by simp at hn; subst hn; unfold Acct.inInt; decide⟩
theorem nm_due : Acct.Named due1.data.toList [100, 117, 101] [1] := ⟨by decide +kernel, by decide, fun n hn => by simp at hn; subst hn; unfold Acct.inInt; decide⟩
theorem acc_use : accB use1 = true := accB_t.2 ⟨_, _, nm_use⟩
theorem acc_free : accB free1 = true := accB_t.2 ⟨_, _, nm_free⟩
theorem acc_due : accB due1 = true := accB_t.2 ⟨_, _, nm_due⟩
theorem un_use : unitsB use1.data.toList = true := by rw [units_of nm_use]; decide
theorem un_free : unitsB free1.data.toList = true := by rw [units_of nm_free]; decide
theorem un_due : unitsB due1.data.toList = false := by rw [units_of nm_due]; decide
theorem acc_cuse : accB cUse = false := by
  cases h : accB cUse
  · rfl
  · obtain ⟨wd, ns, hN⟩ := accB_t.1 h
    exfalso
    have h3 := hN.is
    obtain ⟨h4, h5, -⟩ := h3
    cases wd with
    | nil =>
      cases ns with
      | nil => cases h5
      | cons x r =>
        have h6 : (cUse.data.toList).head? = (Acct.partsL (x :: r)).head? := by rw [h5]; rfl
        simp [Acct.partsL] at h6
    | cons x r =>
      have h6 : (85 : UInt8) = x := by
        have h7 := congrArg List.head? h5
        simp at h7
        exact h7
      subst h6
      simp [Acct.lettersL] at h4
      exact absurd h4.1 (by decide)
abbrev L1 : List Pt := [⟨use1, 5⟩, ⟨free1, -5⟩]
abbrev L2 : List Pt := [⟨use1, 5⟩, ⟨due1, -5⟩]
theorem bal_empty (s : ByteArray) (h : accB s = true) : balV (.map []) s = (0, 0) := by
  have h0 : numAt (.map []) (balK s) = (0, 0) := by unfold numAt; rw [gt_empty]
  unfold balV
  rw [if_pos h, h0]
  have hw : wrap64 0 = 0 := by unfold wrap64; decide
  show (wrap64 0, (0 : Int)) = (0, 0)
  rw [hw]
theorem over_ex (q : Pt) (h : accB q.a = true) (h2 : q.n = 5 ∨ q.n = -5) : overB (.map []) q = false := by
  unfold overB nbV
  rw [bal_empty _ h]
  rcases h2 with h2 | h2 <;> rw [h2] <;> decide
theorem may1 : mayJ L1 = true := by
  unfold mayJ
  simp only [List.all_cons, List.all_nil, acc_use, acc_free]
  decide
theorem may2 : mayJ L2 = true := by
  unfold mayJ
  simp only [List.all_cons, List.all_nil, acc_use, acc_due]
  decide
theorem ev1 : evenB unitP L1 = true := by
  unfold evenB
  have h1 : unitP ⟨use1, 5⟩ = true := un_use
  have h2 : unitP ⟨free1, -5⟩ = true := un_free
  rw [List.filter_cons_of_pos h1, List.filter_cons_of_pos h2]
  decide
theorem ev2 : evenB unitP L2 = false := by
  unfold evenB
  have h1 : unitP ⟨use1, 5⟩ = true := un_use
  have h2 : ¬ unitP ⟨due1, -5⟩ = true := by unfold unitP; rw [un_due]; decide
  rw [List.filter_cons_of_pos h1, List.filter_cons_of_neg h2]
  decide
theorem post1 : postO (.map []) 0 1 L1 = (1, 0, postD (.map []) 0 1 L1) := by
  unfold postO
  rw [if_neg (by rw [may1]; decide), if_neg (by rw [ev1]; decide), if_neg]
  · rfl
  · rw [List.any_cons, List.any_cons, over_ex ⟨use1, 5⟩ acc_use (.inl rfl), over_ex ⟨free1, -5⟩ acc_free (.inr rfl)]
    decide
theorem post2 (D : DM) : postO D 0 1 L2 = (0, 32, D) := by
  unfold postO
  rw [if_neg (by rw [may2]; decide), if_pos (by rw [ev2]; decide)]
theorem ap1 : apartB L1 = true := by decide
theorem b_free : balV (postD (.map []) 0 1 L1) free1 = (-5, 0) := by
  have h := bal_post_hit isMap_empty (time := 0) (ten := 1) ap1 (fun q hq => by simp at hq; rcases hq with rfl | rfl; exact acc_use; exact acc_free) (q := ⟨free1, -5⟩) (by simp) (over_ex _ acc_free (.inr rfl))
  rw [show (⟨free1, -5⟩ : Pt).a = free1 from rfl] at h
  rw [h]
  unfold bal
  rw [bal_empty _ acc_free]
  rfl
theorem b_cuse (D : DM) : balV D cUse = (0, 1) := if_neg (by rw [acc_cuse]; decide)
end Go.Proofs.YtecbnhmnhcpcmaaGreatDoor
/-! The walk of the laws' posts. -/
namespace Go.Proofs.YtecbnhmnhcpcmaaGreatDoor
open Go.RowKit Go.WideMaps Go.Maps
set_option linter.unusedVariables false
set_option linter.unusedSimpArgs false
set_option maxRecDepth 100000
theorem ex_ok (L : List Pt) (h : L = L1 ∨ L = L2) : ∀ q ∈ L, q.a.size ≤ 100 ∧ Acct.inInt q.n := by
  intro q hq
  rcases h with rfl | rfl <;> (simp at hq; rcases hq with rfl | rfl <;> exact ⟨by decide, by unfold Acct.inInt; decide⟩)
set_option maxHeartbeats 8000000 in
theorem posts17_any (w : World) (hE : EnvA w) : Calls Tryz.prog 18 #[] w fun e w' => e = .returned (.bool true) ∧ Below w.heap.size w w' := by
  have HE := Lib.hid hE
  clear hE
  go_enter Tryz.func18, Tryz.ntmps18
  go_wp2_with fail
  refine (new_any (-1) w).mono ?_
  rintro e w1 ⟨p, b1, b2, rfl, hm, hb, hp, hb1, hb2⟩
  have M1 : Hid (JnlS w1 p b1 b2 0 (.map []) (.map [])) := ⟨hm, isMap_empty, wf_empty, by decide⟩
  have B1 := Lib.hid hb
  clear hm hb
  go_wp2_with fail
  refine (two_any use1 free1 5 w1 (by decide) (by decide)).mono ?_
  rintro e w2 ⟨lv2, rfl, hl, hb⟩
  have B2 := Lib.hid (onward hb B1.out)
  have PX := Lib.hid (jn_post 0 1 lv2 L1 w2 (HE.out.below (onward hb B1.out)) (M1.out.below hb) (by decide) hl (by decide) (by decide) (ex_ok L1 (.inl rfl)))
  rw [post1] at PX
  clear hl hb
  go_wp2_with fail
  refine PX.out.mono ?_
  rintro e w3 ⟨rfl, hm, ht⟩
  have B3 : Hid (Below w.heap.size w w3) := B2.out.trans (ht.below B2.out.size hb1)
  have M3 : Hid (JnlS w3 p b1 b2 42 (postD (.map []) 0 1 L1) (.map [])) := ⟨hm, isM_post isMap_empty, wf_post isMap_empty wf_empty ap1 (by decide), by rw [post_lastN isMap_empty (by decide)]; decide⟩
  clear hm ht PX M1
  go_wp2_with fail
  refine (two_any use1 due1 5 w3 (by decide) (by decide)).mono ?_
  rintro e w4 ⟨lv4, rfl, hl, hb⟩
  have B4 := Lib.hid (onward hb B3.out)
  have PX := Lib.hid (jn_post 0 1 lv4 L2 w4 (HE.out.below (onward hb B3.out)) (M3.out.below hb) (by decide) hl (by decide) (by decide) (ex_ok L2 (.inr rfl)))
  rw [post2] at PX
  clear hl hb
  go_wp2_with fail
  refine PX.out.mono ?_
  rintro e w5 ⟨rfl, hm, ht⟩
  have B5 : Hid (Below w.heap.size w w5) := B4.out.trans (ht.below B4.out.size hb1)
  have M5 : Hid (MemS w5 p b1 b2 (-1) 84 (postD (.map []) 0 1 L1) (.map [])) := hm
  have BX := Lib.hid (bal_any free1 w5 (HE.out.below (B4.out.trans (ht.below B4.out.size hb1))) hm (by decide))
  rw [b_free] at BX
  clear hm ht PX M3
  go_wp2_with fail
  refine BX.out.mono ?_
  rintro e w6 ⟨rfl, hb⟩
  have B6 := Lib.hid (onward hb B5.out)
  have M6 := Lib.hid (M5.out.below hb)
  have CX := Lib.hid (bal_any cUse w6 (HE.out.below (onward hb B5.out)) (M5.out.below hb) (by decide))
  rw [b_cuse] at CX
  clear hb BX M5
  go_wp2_with fail
  refine CX.out.mono ?_
  rintro e w7 ⟨rfl, hb⟩
  have B7 := Lib.hid (onward hb B6.out)
  have LX := Lib.hid (last_any w7 (M6.out.below hb))
  rw [post_last isMap_empty (by decide), last_empty] at LX
  clear hb CX M6
  go_wp2_with fail
  refine LX.out.mono ?_
  rintro e w8 ⟨rfl, hb⟩
  have B8 := Lib.hid (onward hb B7.out)
  clear hb LX
  go_wp2_with fail
  go_ret
  exact ⟨rfl, B8.out⟩
end Go.Proofs.YtecbnhmnhcpcmaaGreatDoor
