/- The walk of the law JournalNeg. (Printed by gen_jod.py.) -/
import Derived.Test.YtecbnhmnhcpcmaaDoorJoC
namespace Go.Proofs.YtecbnhmnhcpcmaaDoor
open Go.RowKit Go.WideMaps Go.Maps
set_option linter.unusedVariables false
set_option linter.unusedSimpArgs false
set_option maxRecDepth 100000
theorem OwnP.slice {w : World} {base n : Nat} {v : Value} {L : List Pt} (h : OwnP w base v L) (hn : L.length = n) : ∃ a c, v = .slice a n c := by
  obtain ⟨a, c, e⟩ := jown_form h
  exact ⟨a, c, by rw [← hn]; exact e⟩
theorem negs_back {L : List Pt} (h : ∀ q ∈ L, Acct.inInt q.n) : (L.map negP).map negP = L := by
  rw [List.map_map]
  conv => rhs; rw [← List.map_id L]
  exact List.map_congr_left fun q hq => negP_neg (h q hq)
theorem negP_in (q : Pt) : Acct.inInt (negP q).n := by unfold negP wrap64 Acct.inInt; dsimp only; omega
/-- cells of a row of parts -/
theorem rows_at {w : World} {g o n c : Nat} {L : List Pt} (h : RowsIn w (.slice (some ⟨g, o, none⟩) n c) 2 (L.map Pt.cells)) {k : Nat} {q : Pt} (hq : L[k]? = some q) : w.cell? ⟨g, o + k * 2, none⟩ = some (.string q.a) ∧ w.cell? ⟨g, o + k * 2 + 1, none⟩ = some (.int .i64 q.n) := by
  have hk : k < L.length := by
    rcases Nat.lt_or_ge k L.length with h | h
    · exact h
    · rw [List.getElem?_eq_none h] at hq; cases hq
  obtain ⟨b, o', e, x0, x1⟩ := pt_cells h k hk
  injection e with e
  injection e with e1 e2 _
  subst e1
  subst e2
  rw [List.getElem?_eq_getElem hk] at hq
  injection hq with hq
  rw [hq] at x0 x1
  exact ⟨x0, x1⟩
theorem rows_some {w : World} {a : Option Addr} {n c : Nat} {L : List Pt} (h : RowsIn w (.slice a n c) 2 (L.map Pt.cells)) (hk : 0 < L.length) : ∃ g o, a = some ⟨g, o, none⟩ := by
  obtain ⟨b, o, e, -, -⟩ := pt_cells h 0 hk
  exact ⟨b, o, e⟩
theorem own_at {w : World} {base n k : Nat} {e : TypeId} {v x : Value} {xs : List Value} (h : w.ownsRow base e 1 v n xs) (hx : xs[k]? = some x) : ∃ g cap, v = .slice (some ⟨g, 0, none⟩) n cap ∧ w.cell? ⟨g, k, none⟩ = some x := by
  have hk : k < xs.length := by
    rcases Nat.lt_or_ge k xs.length with h | h
    · exact h
    · rw [List.getElem?_eq_none h] at hx; cases hx
  obtain ⟨hl, ⟨-, rfl⟩ | ⟨g, cap, cur, h1, h2, h3, h4, h5, h6, h7⟩⟩ := h
  · omega
  · refine ⟨g, cap, h1, ?_⟩
    rw [cell_of_row h3, ← hx, ← h7, List.getElem?_take_of_lt (by omega)]
    simp
/-- the balances of parts' accounts -/
noncomputable def balsL (D : DM) (L : List Pt) : List Value := L.map fun q => .int .i64 (bal D q.a)
set_option maxHeartbeats 1000000 in
theorem negl_any (lv : Value) (L : List Ac) (t : Int) (tn : Nat) (pa : Option Addr) (pc : Nat) (ps : List Pt) (w : World) (hE : EnvA w) (hl : RowsIn w lv 3 (L.map Ac.cells)) (ho : ∀ a ∈ L, a.ok w)
    (hx : (⟨t, tn, .slice pa ps.length pc, ps⟩ : Ac).ok w) :
    Calls Tryd.prog 4 #[lv, .agg #[.int .i64 t, .int .u32 tn, .slice pa ps.length pc]] w fun e w' => e = .returned (.bool true) ∧ Below w.heap.size w w' := by
  obtain ⟨a, c, rfl⟩ := ac_form hl
  obtain ⟨w1, hw1⟩ : ∃ W, W = w.alloc (.cells #[.int .i64 t, .int .u32 tn, .slice pa ps.length pc] 26) := ⟨_, rfl⟩
  have hb1 : Below w.heap.size w w1 := by rw [hw1]; exact below_alloc _ _
  have hob : w1.heap[w.heap.size]? = some (.cells #[.int .i64 t, .int .u32 tn, .slice pa ps.length pc] 26 (0, 0)) := by rw [hw1]; exact alloc_block _ _ _ _
  obtain ⟨y0, y1, y2⟩ := box3c hob
  have B1 := Lib.hid hb1
  have HE := Lib.hid (hE.below hb1)
  have HL := Lib.hid (hl.below hb1)
  have HO : Hid (∀ a ∈ L, a.ok w1) := fun a ha => (ho a ha).below hb1
  have HX := Lib.hid (hx.below hb1)
  have KX : Hid (∀ W, Below w1.heap.size w1 W → W.cell? ⟨w.heap.size, 0, none⟩ = some (.int .i64 t) ∧ W.cell? ⟨w.heap.size, 1, none⟩ = some (.int .u32 tn) ∧ W.cell? ⟨w.heap.size, 2, none⟩ = some (.slice pa ps.length pc)) := by
    have q0 := y0; have q1 := y1; have q2 := y2
    exact fun W hb => ⟨stays hb q0, stays hb q1, stays hb q2⟩
  clear hl ho hE hx hob hb1
  go_enter Tryd.func4, Tryd.ntmps4
  go_wp2_with fail
  rw [← hw1]
  clear hw1
  refine (great_any _ L w1 HL.out HO.out).mono ?_
  rintro e w1' ⟨b, rfl, hb, rfl⟩
  cases b with
  | true =>
    clear hb
    go_wp2_with fail
    go_ret
    exact ⟨rfl, B1.out⟩
  | false =>
  obtain ⟨h60, hsm⟩ := hb rfl
  have HS := Lib.hid hsm
  have H60 := Lib.hid h60
  clear hb hsm h60
  go_wp2_with fail
  obtain ⟨w2, hw2⟩ : ∃ W, W = w1.alloc (.cells #[.int .i64 t, .int .u32 tn, .slice pa ps.length pc] 26) := ⟨_, rfl⟩
  rw [← hw2]
  have hb2 : Below w1.heap.size w1 w2 := by rw [hw2]; exact below_alloc _ _
  have hob : w2.heap[w1.heap.size]? = some (.cells (⟨t, tn, .slice pa ps.length pc, ps⟩ : Ac).cells.toArray 26 (0, 0)) := by rw [hw2]; exact alloc_block _ _ _ _
  have HX2 := Lib.hid (HX.out.below hb2)
  have GX := Lib.hid (great_any _ [⟨t, tn, .slice pa ps.length pc, ps⟩] w2 (act_row hob) (fun a ha => by simp at ha; subst ha; exact HX2.out))
  have B2 := Lib.hid hb2
  clear hw2 hob hb2 y0 y1 y2
  refine GX.out.mono ?_
  rintro e w2' ⟨b, rfl, hb, rfl⟩
  clear GX
  cases b with
  | true =>
    clear hb
    go_wp2_with fail
    go_ret
    exact ⟨rfl, onward B2.out B1.out⟩
  | false =>
  have H2 : Hid ((⟨t, tn, .slice pa ps.length pc, ps⟩ : Ac).small) := (hb rfl).2 _ (by simp)
  have H40 : Hid (ps.length ≤ 40) := H2.out.1
  have HS2 : Hid (∀ q ∈ ps, q.a.size ≤ 100 ∧ Acct.inInt q.n) := fun q hq => ⟨H2.out.2 q hq, HX.out.2.2.2 q hq⟩
  have HTN : Hid (tn < 4294967296) := by have := HX.out.2.1.2; dsimp only at this; show _ < _; omega
  have HR : Hid (∀ W, Below w1.heap.size w1 W → RowsIn W (.slice pa ps.length pc) 2 (ps.map Pt.cells)) := fun W hb => (HX.out.below hb).1
  clear hb
  go_wp2_with fail
  refine (made_any _ L w2 (HE.out.below B2.out) (HL.out.below B2.out) (fun a ha => (HO.out a ha).below B2.out) H60.out HS.out).mono ?_
  rintro e w3 ⟨p, b1, b2, dv, rfl, hm, -, hb3, hp, hb1, hb2⟩
  have B3 : Hid (Below w1.heap.size w1 w3) := onward hb3 B2.out
  have M3 := Lib.hid hm
  have P3 : Hid (w1.heap.size ≤ b1 ∧ w1.heap.size ≤ b2) := by have := B2.out.size; exact ⟨by omega, by omega⟩
  obtain ⟨c', hc', hj⟩ := made_jn L (.map []) 0 jn_empty (by have := H60.out; omega)
  have HJ := Lib.hid hj
  have HC : Hid (c' ≤ 60) := by have := H60.out; show _ ≤ _; omega
  have HBN := Lib.hid (made_bnd L (.map []) 0 jn_empty bnd_empty (fun a ha q hq => (HO.out a ha).2.2.2 q hq) (by have := H60.out; omega))
  clear hm hb3 hp hb1 hb2 hc' hj
  generalize (madeD (.map []) L).1 = D at *
  obtain ⟨z0, z1, z2⟩ := KX.out w3 B3.out
  go_wp2_with fail
  refine (neg_any _ ps w3 (HR.out _ B3.out) H40.out).mono ?_
  rintro e w4 ⟨nv, rfl, hn, hb⟩
  have B4 : Hid (Below w1.heap.size w1 w4) := onward hb B3.out
  have N4 := Lib.hid hn
  have M4 := Lib.hid (M3.out.below hb)
  obtain ⟨na, nc, rfl⟩ := OwnP.slice hn (List.length_map _)
  clear hn hb M3 z0 z1 z2
  obtain ⟨z0, z1, z2⟩ := KX.out w4 B4.out
  go_wp2_with fail
  refine (neg_any _ (ps.map negP) w4 N4.out.rows (by rw [List.length_map]; exact H40.out)).mono ?_
  rintro e w5 ⟨bv, rfl, hn, hb⟩
  rw [negs_back (fun q hq => (HS2.out q hq).2)] at hn
  have B5 : Hid (Below w1.heap.size w1 w5) := onward hb B4.out
  have K5 := Lib.hid hn
  have N5 := Lib.hid (ownsRow_below N4.out hb)
  have M5 := Lib.hid (M4.out.below hb)
  obtain ⟨ba, bc, rfl⟩ := OwnP.slice hn rfl
  clear hn hb M4 z0 z1 z2 N4
  obtain ⟨z0, z1, z2⟩ := KX.out w5 B5.out
  obtain ⟨i0, hi, hz0, hz1, hz2⟩ := info_parts infoI64
  go_wp2_with fail
  go_loopw [9, 10] (fun wv iv wr => ∃ j : Nat, j ≤ ps.length ∧ iv = .int .i64 j ∧ Hid (Below w5.heap.size w5 wr) ∧ Hid (wr.ownsRow w5.heap.size 2 1 wv j (balsL D (ps.take j)))) (fun _ iv _ => ps.length - (intOf iv).toNat)
  case atStart => exact ⟨0, by omega, rfl, Below.refl _ _, World.ownsRow_nil _ _ _ _⟩
  case round =>
    obtain ⟨j, hj, rfl, BR, WR⟩ := hrel
    have BR1 : Hid (Below w1.heap.size w1 wr) := onward BR.out B5.out
    obtain ⟨z0, z1, z2⟩ := KX.out wr BR1.out
    have ER := Lib.hid (HE.out.below BR1.out)
    by_cases hlt : j < ps.length
    · have hz : (j : Int) < (ps.length : Int) := by omega
      have hq : ps[j]? = some ps[j] := List.getElem?_eq_getElem hlt
      have hTk : balsL D (ps.take (j + 1)) = balsL D (ps.take j) ++ [.int .i64 (bal D ps[j].a)] := by
        unfold balsL
        rw [List.take_succ_eq_append_getElem hlt, List.map_append]
        rfl
      have hsz := (HS2.out ps[j] (List.getElem_mem hlt)).1
      generalize ps[j] = q at *
      have hqn : (ps.map negP)[j]? = some (negP q) := by rw [List.getElem?_map, hq]; rfl
      obtain ⟨s, n⟩ := q
      dsimp only at hsz hTk
      have hr1 := HR.out wr BR1.out
      have hr2 := K5.out.rows.below BR.out
      have hr3 := (OwnP.rows N5.out).below BR.out
      obtain ⟨g, o, rfl⟩ := rows_some hr1 (by omega)
      obtain ⟨gb, ob, rfl⟩ := rows_some hr2 (by omega)
      obtain ⟨gn, og, rfl⟩ := rows_some hr3 (by rw [List.length_map]; omega)
      obtain ⟨x0, x1⟩ := rows_at hr1 hq
      obtain ⟨x2, x3⟩ := rows_at hr2 hq
      obtain ⟨x4, x5⟩ := rows_at hr3 hqn
      have HTk := Lib.hid hTk
      have HSZ := Lib.hid hsz
      replace x4 : wr.cell? ⟨gn, og + j * 2, none⟩ = some (.string s) := x4
      replace x5 : wr.cell? ⟨gn, og + j * 2 + 1, none⟩ = some (.int .i64 (wrap64 (-n))) := x5
      have X4 := Lib.hid x4
      clear hq hqn hTk hsz hr1 hr2 hr3
      go_upto_region 14 with fail
      go_quiet (fail)
      obtain ⟨wq, hwq⟩ : ∃ W, W = wr.drewN nq := ⟨_, rfl⟩
      rw [← hwq]
      have BQ : Hid (Below wr.heap.size wr wq) := by rw [hwq]; exact World.below_drewN (Below.refl _ _) _
      have x4 := stays BQ.out X4.out
      have WQ := Lib.hid (ownsRow_below WR.out BQ.out)
      have BX : Hid (Calls Tryd.prog 9 #[memI p, .string s] wq fun e w' => e = .returned (.tuple #[.int .i64 (bal D s), .int .i64 (balV D s).2]) ∧ Below wq.heap.size wq w') := bal_any s wq (ER.out.below BQ.out) (M5.out.below (onward BQ.out BR.out)) (by have := HSZ.out; omega)
      generalize bal D s = x at *
      generalize (balV D s).2 = y at *
      clear hwq z0 z1 z2 X4
      go_wp2_with fail
      refine BX.out.mono ?_
      rintro e w6 ⟨rfl, hb⟩
      have B6 := Lib.hid (onward (onward hb BQ.out) BR.out)
      have W6 := Lib.hid (ownsRow_below WQ.out hb)
      have W7 := Lib.hid (W6.out.alloc (.cells #[.int .i64 x] 2))
      have h40 := H40.out
      have hs6 := B6.out.size
      clear hb BX x4
      go_wp2_with (at_builtin; refine wpList_append_own _ rfl (.tmp 108) (.tmp 110) 42 rfl w5.heap.size 2 i0 _ 1 8 Tryd.underlying42 hi hz0 hz1 hz2 rfl (by decide) _ _ _ rfl W7.out ⟨w6.heap.size, 0, none⟩ 1 1 [.int .i64 x] rfl rfl (new_cells _ _ _) (fun u hu => by simp at hu; subst hu; rfl) (by unfold maxLen; omega) (by omega) (by simp; omega) ?_)
      intro v8 w8 hown hgr _
      have B8 := Lib.hid ((onward (below_alloc _ _) B6.out).grown hgr (by simp; omega) (fun k hk => (W7.out.lt k hk).1))
      have W8 : Hid (w8.ownsRow w5.heap.size 2 1 v8 (j + 1) (balsL D (ps.take (j + 1)))) := by rw [HTk.out]; exact hown
      clear hown hgr hs6
      go_wp2_with fail
      go_roundw
      case rel => exact ⟨j + 1, by omega, by go_num, B8.out, W8.out⟩
      case measure => simp [intOf]; omega
    · have hje : j = ps.length := by omega
      have dk : decide ((j : Int) < ((ps.length : Nat) : Int)) = false := decide_eq_false (by omega)
      have WF : Hid (wr.ownsRow w5.heap.size 2 1 u9 ps.length (balsL D ps)) := by
        have h := WR.out
        rw [hje, List.take_length] at h
        exact h
      have R6 := Lib.hid ((OwnP.rows N5.out).below BR.out)
      have JS : Hid (JnlS wr p b1 b2 3000 D (.map [])) := ⟨M5.out.below BR.out, HJ.out.isM, HJ.out.wf, by rw [HJ.out.last]; have := HC.out; omega⟩
      have PX := Lib.hid (jn_post t tn (.slice pa ps.length pc) ps wr ER.out JS.out (by decide) (HR.out _ BR1.out) H40.out HTN.out HS2.out)
      clear hje WR N5 M5 hi hz0 hz1 hz2
      rcases postO_cases HJ.out (by have := HC.out; omega) t tn ps with ⟨er, he, hpo⟩ | ⟨hpo, hj2, g1, g2, g3, g4, g5⟩
      · rw [hpo] at PX
        have hne : er ≠ 0 := by omega
        clear he hpo
        go_wp2_with fail
        refine PX.out.mono ?_
        rintro e w6 ⟨rfl, hm, ht⟩
        have B6 : Hid (Below w1.heap.size w1 w6) := BR1.out.trans (ht.below BR1.out.size P3.out.1)
        clear hm ht PX z0 z1 z2
        go_wp2_with fail
        refine (posts17_any w6 (HE.out.below B6.out)).mono ?_
        rintro e w7 ⟨rfl, hb⟩
        have B7 := Lib.hid (onward (onward hb B6.out) B1.out)
        clear hb
        go_wp2_with fail
        go_ret
        exact ⟨rfl, B7.out⟩
      rw [hpo] at PX
      have hacc := (may_apart g2).2
      have HA := Lib.hid hacc
      obtain ⟨n1, n2⟩ := postO_neg HJ.out HBN.out (by have := HC.out; omega) g1 g2 g3 g4 g5 hj2
      have HN2 := Lib.hid n2
      have J2 := Lib.hid hj2
      have PYF : Hid (∀ W, EnvA W → JnlS W p b1 b2 3042 (postD D t tn ps) (.map []) → RowsIn W (.slice na ps.length nc) 2 ((ps.map negP).map Pt.cells) → Calls Tryd.prog 8 #[memI p, .int .i64 t, .int .u32 tn, .slice na ps.length nc] W fun e w' => e = .returned (.tuple #[.int .u64 (postO (postD D t tn ps) t tn (ps.map negP)).1, .int .i64 (postO (postD D t tn ps) t tn (ps.map negP)).2.1]) ∧ MemS w' p b1 b2 (-1) (3042 + 42) (postO (postD D t tn ps) t tn (ps.map negP)).2.2 (.map []) ∧ Turned b1 W w') := fun W h1 h2 h3 => jn_post t tn _ (ps.map negP) W h1 h2 (by decide) h3 (by rw [List.length_map]; exact H40.out) HTN.out (fun q hq => by
        obtain ⟨r, hr, rfl⟩ := List.mem_map.1 hq
        exact ⟨(HS2.out r hr).1, negP_in r⟩)
      generalize postO (postD D t tn ps) t tn (ps.map negP) = r2 at *
      obtain ⟨ya, ye, D2⟩ := r2
      dsimp only at n1 HN2 PYF
      subst n1
      clear hpo hacc n2 hj2 g1 g2 g3 g4 g5
      go_wp2_with fail
      refine PX.out.mono ?_
      rintro e w6 ⟨rfl, hm, ht⟩
      have B6 : Hid (Below w1.heap.size w1 w6) := BR1.out.trans (ht.below BR1.out.size P3.out.1)
      have J6 : Hid (JnlS w6 p b1 b2 3042 (postD D t tn ps) (.map [])) := ⟨hm, J2.out.isM, J2.out.wf, by rw [J2.out.last]; have := HC.out; omega⟩
      have R7 := Lib.hid (ht.rows R6.out (pt_rows _))
      have W7 := Lib.hid (ht.owns WF.out)
      clear hm ht PX z0 z1 z2 JS R6 WF
      obtain ⟨z0, z1, z2⟩ := KX.out w6 B6.out
      have PX := Lib.hid (PYF.out w6 (HE.out.below B6.out) J6.out R7.out)
      clear PYF
      go_wp2_with fail
      refine PX.out.mono ?_
      rintro e w7 ⟨rfl, hm, ht⟩
      have B7 : Hid (Below w1.heap.size w1 w7) := B6.out.trans (ht.below B6.out.size P3.out.1)
      have M8 := Lib.hid hm
      have R8 := Lib.hid (ht.rows R7.out (pt_rows _))
      have W8 := Lib.hid (ht.owns W7.out)
      clear hm ht PX z0 z1 z2 J6 R7 W7
      go_wp2_with fail
      go_loopw [17] (fun iv wr => ∃ j : Nat, j ≤ ps.length ∧ iv = .int .i64 j ∧ Hid (Below w7.heap.size w7 wr)) (fun iv _ => ps.length - (intOf iv).toNat)
      case atStart => exact ⟨0, by omega, rfl, Below.refl _ _⟩
      case round =>
        obtain ⟨j, hj, rfl, BS⟩ := hrel
        have EV := Lib.hid (HE.out.below (onward BS.out B7.out))
        by_cases hlt : j < ps.length
        · have hz : (j : Int) < (ps.length : Int) := by omega
          have hq : ps[j]? = some ps[j] := List.getElem?_eq_getElem hlt
          have hsz := (HS2.out ps[j] (List.getElem_mem hlt)).1
          have hac := HA.out ps[j] (List.getElem_mem hlt)
          generalize ps[j] = q at *
          have hqn : (ps.map negP)[j]? = some (negP q) := by rw [List.getElem?_map, hq]; rfl
          have hwn : (balsL D ps)[j]? = some (.int .i64 (bal D q.a)) := by unfold balsL; rw [List.getElem?_map, hq]; rfl
          obtain ⟨s, n⟩ := q
          dsimp only at hsz hac hwn
          have hr3 := R8.out.below BS.out
          obtain ⟨gn, og, e3⟩ := rows_some hr3 (by rw [List.length_map]; omega)
          rw [e3] at hr3
          obtain ⟨x4, -⟩ := rows_at hr3 hqn
          replace x4 : wr.cell? ⟨gn, og + j * 2, none⟩ = some (.string s) := x4
          obtain ⟨gw, cw, rfl, x6⟩ := own_at (ownsRow_below W8.out BS.out) hwn
          have X6 := Lib.hid x6
          have BX := Lib.hid (bal_any s wr EV.out (M8.out.below BS.out) (by omega))
          rw [HN2.out s hac] at BX
          generalize bal D s = x at *
          subst e3
          have h40 := H40.out
          clear hq hqn hwn hsz hac hr3 x6
          go_wp2_with fail
          refine BX.out.mono ?_
          rintro e w9 ⟨rfl, hb⟩
          have x7 := stays hb X6.out
          have B9 := Lib.hid (onward hb BS.out)
          clear hb x4 X6 BX
          go_wp2_with fail
          go_roundw
          case rel => exact ⟨j + 1, by omega, by go_num, B9.out⟩
          case measure => simp [intOf]; omega
        · have dk : decide ((j : Int) < ((ps.length : Nat) : Int)) = false := decide_eq_false (by omega)
          go_wp2_with fail
          refine (posts17_any wr EV.out).mono ?_
          rintro e w8 ⟨rfl, hb⟩
          have B8 := Lib.hid (onward (onward hb (onward BS.out B7.out)) B1.out)
          clear hb
          go_wp2_with fail
          go_ret
          exact ⟨rfl, B8.out⟩
end Go.Proofs.YtecbnhmnhcpcmaaDoor
