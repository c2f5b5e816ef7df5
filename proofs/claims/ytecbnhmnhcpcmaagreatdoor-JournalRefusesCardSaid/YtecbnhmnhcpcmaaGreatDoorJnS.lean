/- The walk of the laws' posts. -/
import Derived.Test.YtecbnhmnhcpcmaaGreatDoorJnR
namespace Go.Proofs.YtecbnhmnhcpcmaaGreatDoor
open Go.RowKit Go.WideMaps Go.Maps
set_option linter.unusedVariables false
set_option linter.unusedSimpArgs false
set_option maxRecDepth 100000
theorem ex_ok (L : List Pt) (h : L = L1 ∨ L = L2) : ∀ q ∈ L, q.a.size ≤ 100 ∧ Acct.inInt q.n := by
  intro q hq
  rcases h with rfl | rfl <;> (simp at hq; rcases hq with rfl | rfl <;> exact ⟨by decide, by unfold Acct.inInt; decide⟩)
set_option maxHeartbeats 8000000 in
theorem posts17_any (w : World) (hE : EnvA w) : Calls Tryz.prog 18 #[] w fun e w' => e = .returned (.bool true) ∧ Below w.heap.size w w' := by
  have HE := Lib.hid hE
  clear hE
  go_enter Tryz.func18, Tryz.ntmps18
  go_wp2_with fail
  refine (new_any (-1) w).mono ?_
  rintro e w1 ⟨p, b1, b2, rfl, hm, hb, hp, hb1, hb2⟩
  have M1 : Hid (JnlS w1 p b1 b2 0 (.map []) (.map [])) := ⟨hm, isMap_empty, wf_empty, by decide⟩
  have B1 := Lib.hid hb
  clear hm hb
  go_wp2_with fail
  refine (two_any use1 free1 5 w1 (by decide) (by decide)).mono ?_
  rintro e w2 ⟨lv2, rfl, hl, hb⟩
  have B2 := Lib.hid (onward hb B1.out)
  have PX := Lib.hid (jn_post 0 1 lv2 L1 w2 (HE.out.below (onward hb B1.out)) (M1.out.below hb) (by decide) hl (by decide) (by decide) (ex_ok L1 (.inl rfl)))
  rw [post1] at PX
  clear hl hb
  go_wp2_with fail
  refine PX.out.mono ?_
  rintro e w3 ⟨rfl, hm, ht⟩
  have B3 : Hid (Below w.heap.size w w3) := B2.out.trans (ht.below B2.out.size hb1)
  have M3 : Hid (JnlS w3 p b1 b2 42 (postD (.map []) 0 1 L1) (.map [])) := ⟨hm, isM_post isMap_empty, wf_post isMap_empty wf_empty ap1 (by decide), by rw [post_lastN isMap_empty (by decide)]; decide⟩
  clear hm ht PX M1
  go_wp2_with fail
  refine (two_any use1 due1 5 w3 (by decide) (by decide)).mono ?_
  rintro e w4 ⟨lv4, rfl, hl, hb⟩
  have B4 := Lib.hid (onward hb B3.out)
  have PX := Lib.hid (jn_post 0 1 lv4 L2 w4 (HE.out.below (onward hb B3.out)) (M3.out.below hb) (by decide) hl (by decide) (by decide) (ex_ok L2 (.inr rfl)))
  rw [post2] at PX
  clear hl hb
  go_wp2_with fail
  refine PX.out.mono ?_
  rintro e w5 ⟨rfl, hm, ht⟩
  have B5 : Hid (Below w.heap.size w w5) := B4.out.trans (ht.below B4.out.size hb1)
  have M5 : Hid (MemS w5 p b1 b2 (-1) 84 (postD (.map []) 0 1 L1) (.map [])) := hm
  have BX := Lib.hid (bal_any free1 w5 (HE.out.below (B4.out.trans (ht.below B4.out.size hb1))) hm (by decide))
  rw [b_free] at BX
  clear hm ht PX M3
  go_wp2_with fail
  refine BX.out.mono ?_
  rintro e w6 ⟨rfl, hb⟩
  have B6 := Lib.hid (onward hb B5.out)
  have M6 := Lib.hid (M5.out.below hb)
  have CX := Lib.hid (bal_any cUse w6 (HE.out.below (onward hb B5.out)) (M5.out.below hb) (by decide))
  rw [b_cuse] at CX
  clear hb BX M5
  go_wp2_with fail
  refine CX.out.mono ?_
  rintro e w7 ⟨rfl, hb⟩
  have B7 := Lib.hid (onward hb B6.out)
  have LX := Lib.hid (last_any w7 (M6.out.below hb))
  rw [post_last isMap_empty (by decide), last_empty] at LX
  clear hb CX M6
  go_wp2_with fail
  refine LX.out.mono ?_
  rintro e w8 ⟨rfl, hb⟩
  have B8 := Lib.hid (onward hb B7.out)
  clear hb LX
  go_wp2_with fail
  go_ret
  exact ⟨rfl, B8.out⟩
end Go.Proofs.YtecbnhmnhcpcmaaGreatDoor
