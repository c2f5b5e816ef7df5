/- The walks of entry.read and entry.GetPosting, of journal.Get of what was posted. -/
import Derived.Test.YtecbnhmnhcpcmaaGreatDoorPkJournalPlays41
import Derived.Laws.ResultCell
/-! The walks of entry.read and entry.GetPosting, of journal.Get of what was posted. -/
namespace Go.Proofs.YtecbnhmnhcpcmaaGreatDoor
open Go.RowKit Go.WideMaps Go.Maps
set_option linter.unusedVariables false
set_option linter.unusedSimpArgs false
set_option maxRecDepth 100000
set_option maxHeartbeats 1000000 in
theorem wdone_any {rp : Nat} (w : World) (hR : RdS w rp []) : Calls Tryz.prog 90 #[.pointer (some ⟨rp, 0, none⟩)] w fun e w' => e = .returned (.int .i64 0) ∧ w = w' := by
  obtain ⟨a, c, h1, -, -, -⟩ := hR
  have c0 : w.cell? ⟨rp, 0, none⟩ = some (.slice a 0 c) := by rw [cell_of_row h1]; rfl
  have c1 : w.cell? ⟨rp, 1, none⟩ = some (.bool false) := by rw [cell_of_row h1]; rfl
  clear h1
  go_enter Tryz.func90, Tryz.ntmps90
  go_wp2_with fail
  go_ret
  exact ⟨rfl, rfl⟩
theorem below_of_grown {w w' : World} {rp b : Nat} (hg : w.grownBy w' (some rp)) (hb : b ≤ rp) (hw : b ≤ w.heap.size) : Below b w w' :=
  ⟨hg.os, hg.tape, hg.output, hg.size, fun k hk => hg.block k (by omega) fun e => by injection e with e; omega⟩
/-- a posting laid into a result -/
theorem post_fin {W : World} {g base seq ten : Nat} {t : Int} {la : Option Addr} {lc : Nat} {L : List Pt} (hz : W.heap[g]? = some (.cells #[.int .u64 0, .int .i64 0, .int .u32 0, .slice none 0 0] 49 (0, 0))) (ho : OwnP W base (.slice la L.length lc) L) (hg : g < base) : ∃ WF, WF = ((((W.setCell ⟨g, 0, none⟩ (.int .u64 seq)).setCell ⟨g, 1, none⟩ (.int .i64 t)).setCell ⟨g, 2, none⟩ (.int .u32 ten)).setCell ⟨g, 3, none⟩ (.slice la L.length lc)) ∧ (loadVar 49 ⟨g, 0, none⟩).run Tryz.prog WF = .ok (.agg #[.int .u64 seq, .int .i64 t, .int .u32 ten, .slice la L.length lc]) WF ∧ OwnP WF base (.slice la L.length lc) L ∧ ∀ b (w : World), Below b w W → b ≤ g → Below b w WF := by
  refine ⟨_, rfl, post_load (box4_set hz), ?_, fun b w h hb => (((h.setCell hb _).setCell hb _).setCell hb _).setCell hb _⟩
  have hne : (Value.slice la L.length lc).ownBlock ≠ some g := fun e => by have := (ho.lt _ e).1; omega
  exact ownsRow_setCell_other (ownsRow_setCell_other (ownsRow_setCell_other (ownsRow_setCell_other ho hne _) hne _) hne _) hne _
theorem zero_facts {W : World} {g : Nat} (hz : W.heap[g]? = some (.cells #[.int .u64 0, .int .i64 0, .int .u32 0, .slice none 0 0] 49 (0, 0))) : W.frozen? ⟨g, 0, none⟩ = false ∧ W.frozen? ⟨g, 1, none⟩ = false ∧ W.frozen? ⟨g, 2, none⟩ = false ∧ W.frozen? ⟨g, 3, none⟩ = false ∧ W.cell? ⟨g, 0, none⟩ = some (.int .u64 0) ∧ W.cell? ⟨g, 1, none⟩ = some (.int .i64 0) ∧ W.cell? ⟨g, 2, none⟩ = some (.int .u32 0) ∧ W.cell? ⟨g, 3, none⟩ = some (.slice none 0 0) :=
  ⟨free_of_row hz, free_of_row hz, free_of_row hz, free_of_row hz, by rw [cell_of_row hz]; rfl, by rw [cell_of_row hz]; rfl, by rw [cell_of_row hz]; rfl, by rw [cell_of_row hz]; rfl⟩
/-- a posting read: its parts lie somewhere -/
def PostRead (seq : Nat) (t : Int) (ten : Nat) (L : List Pt) (w : World) (e : Ending) (w' : World) : Prop := ∃ lv, e = .returned (.tuple #[.agg #[.int .u64 seq, .int .i64 t, .int .u32 ten, lv], .int .i64 0]) ∧ OwnP w' w.heap.size lv L ∧ Below w.heap.size w w'
set_option maxHeartbeats 2000000 in
theorem eread_any {seq ten : Nat} {t : Int} {L : List Pt} (v : Value) (w : World) (hB : BytesAt 0 w v (postL seq t ten L)) (hp : postsB seq t L = true) (hs : seq < 18446744073709551616) (ht : Acct.inInt t) (hten : ten < 4294967296) (hL : L.length ≤ 16) (hq : ∀ q ∈ L, 0 < q.a.size ∧ q.a.size ≤ 32 ∧ Acct.inInt q.n) :
    Calls Tryz.prog 65 #[v, .func (.func 66) #[] #[], .func (.func 52) #[] #[]] w (PostRead seq t ten L w) := by
  have hlen : (postL seq t ten L).length ≤ 1000 ∧ 0 < (postL seq t ten L).length := by
    unfold postL
    rw [List.length_append, headL_len]
    have := parts_len L (fun q h => (hq q h).2.1)
    omega
  have hbytes := Lib.hid hB
  obtain ⟨va, vc, rfl⟩ := hB.form
  obtain ⟨w1, hw1⟩ : ∃ W, W = (w.alloc (.cells #[.int .u64 0, .int .i64 0, .int .u32 0, .slice none 0 0] 49)).alloc (.cells #[.int .u64 0, .int .i64 0, .int .u32 0, .slice none 0 0] 49) := ⟨_, rfl⟩
  obtain ⟨h0, hb⟩ := two_allocs (w := w) (A := #[.int .u64 0, .int .i64 0, .int .u32 0, .slice none 0 0]) (B := #[.int .u64 0, .int .i64 0, .int .u32 0, .slice none 0 0]) (S := 49) (T := 49)
  rw [← hw1] at h0 hb
  have O0 := Lib.hid h0
  have B1 := Lib.hid hb
  have NX := Lib.hid (wnew_any _ _ w1 (hB.below hb) (by omega) hlen.2)
  have HP := Lib.hid hp
  clear hB h0 hb hp hlen
  go_enter Tryz.func65, Tryz.ntmps65
  go_wp2_with fail
  rw [← hw1]
  clear hw1
  refine NX.out.mono ?_
  rintro e w2 ⟨rp, rfl, hr, hb, hrp⟩
  obtain ⟨w3, hw3⟩ : ∃ W, W = w2.alloc (.cells #[.pointer (some ⟨rp, 0, none⟩)] 129) := ⟨_, rfl⟩
  have hb3 : Below w2.heap.size w2 w3 := by rw [hw3]; exact below_alloc _ _
  have h3 : w3.heap[w2.heap.size]? = some (.cells #[.pointer (some ⟨rp, 0, none⟩)] 129 (0, 0)) := by rw [hw3]; exact alloc_block _ _ _ _
  have c3 : w3.cell? ⟨w2.heap.size, 0, none⟩ = some (.pointer (some ⟨rp, 0, none⟩)) := by rw [cell_of_row h3]; rfl
  have O3 := Lib.hid h3
  have Z3 := Lib.hid (stays_block hb3 (stays_block hb O0.out))
  have HZ : Hid (w.heap.size ≠ rp) := by have := lt_of_block O0.out; show _ ≠ _; omega
  have B3S : Hid (w.heap.size < w3.heap.size) := by have := lt_of_block O0.out; have := hb.size; have := hb3.size; show _ < _; omega
  have B3 : Hid (Below w.heap.size w w3) := onward (onward hb3 hb) B1.out
  have PX := Lib.hid (gpost_any w3 (hr.below hb3) hs ht hten hL hq)
  have HRP : Hid (w.heap.size ≤ rp ∧ rp < w2.heap.size) := by
    have := B1.out.size
    obtain ⟨a, c, h1, -⟩ := hr
    exact ⟨by omega, lt_of_block h1⟩
  clear hr hb hb3 h3 NX hrp
  go_wp2_with fail
  rw [← hw3]
  clear hw3
  refine PX.out.mono ?_
  rintro e w4 ⟨lv, rfl, hl, hr, hg⟩
  have B4 : Hid (Below w.heap.size w w4) := B3.out.trans (below_of_grown hg HRP.out.1 B3.out.size)
  have O4 := Lib.hid (grown_block hg O3.out (by have := HRP.out.2; omega))
  have Z4 := Lib.hid (grown_block hg Z3.out HZ.out)
  obtain ⟨la, lc, rfl⟩ := ownP_slice hl rfl
  obtain ⟨w5, hw5⟩ : ∃ W, W = w4.alloc (.cells #[.int .u64 seq, .int .i64 t, .int .u32 ten, .slice la L.length lc] 49) := ⟨_, rfl⟩
  have hb5 : Below w4.heap.size w4 w5 := by rw [hw5]; exact below_alloc _ _
  have h5 : w5.heap[w4.heap.size]? = some (.cells #[.int .u64 seq, .int .i64 t, .int .u32 ten, .slice la L.length lc] 49 (0, 0)) := by rw [hw5]; exact alloc_block _ _ _ _
  have O5 := Lib.hid h5
  have Z5 := Lib.hid (stays_block hb5 Z4.out)
  have B5 : Hid (Below w.heap.size w w5) := onward hb5 B4.out
  have L5 : Hid (OwnP w5 w3.heap.size (.slice la L.length lc) L) := ownsRow_below hl hb5
  have DX := Lib.hid (wdone_any w5 (hr.below hb5))
  have SX := Lib.hid (posts_any seq t ten _ L w5 (OwnP.rows L5.out))
  rw [HP.out] at SX
  have c5 : w5.cell? ⟨w2.heap.size, 0, none⟩ = some (.pointer (some ⟨rp, 0, none⟩)) := by rw [cell_of_row (stays_block hb5 O4.out)]; rfl
  have e0 : w5.cell? ⟨w4.heap.size, 0, none⟩ = some (.int .u64 seq) := by rw [cell_of_row h5]; rfl
  have e1 : w5.cell? ⟨w4.heap.size, 1, none⟩ = some (.int .i64 t) := by rw [cell_of_row h5]; rfl
  have e2 : w5.cell? ⟨w4.heap.size, 2, none⟩ = some (.int .u32 ten) := by rw [cell_of_row h5]; rfl
  have e3 : w5.cell? ⟨w4.heap.size, 3, none⟩ = some (.slice la L.length lc) := by rw [cell_of_row h5]; rfl
  clear hl hr hg hb5 h5 PX c3 B3 O3
  go_upto_region 4 with fail
  rw [← hw5]
  clear hw5
  go_wp2_with fail
  refine DX.out.mono ?_
  rintro e w6 ⟨rfl, hw⟩
  have hw' := hw.symm
  subst hw'
  clear hw DX
  go_wp2_with fail
  refine SX.out.mono ?_
  rintro e w7 ⟨rfl, hb⟩
  have B7 : Hid (Below w.heap.size w w7) := onward hb B5.out
  have L7 : Hid (OwnP w7 w3.heap.size (.slice la L.length lc) L) := ownsRow_below L5.out hb
  have O7 := stays_block hb O5.out
  have OZ := stays_block hb Z5.out
  clear c5 e0 e1 e2 e3 hb SX
  have hf0 : w7.frozen? ⟨w.heap.size, 0, none⟩ = false := free_of_row OZ
  have hf1 : w7.frozen? ⟨w.heap.size, 1, none⟩ = false := free_of_row OZ
  have hf2 : w7.frozen? ⟨w.heap.size, 2, none⟩ = false := free_of_row OZ
  have hf3 : w7.frozen? ⟨w.heap.size, 3, none⟩ = false := free_of_row OZ
  have hg0 : w7.cell? ⟨w.heap.size, 0, none⟩ = some (.int .u64 0) := by rw [cell_of_row OZ]; rfl
  have hg1 : w7.cell? ⟨w.heap.size, 1, none⟩ = some (.int .i64 0) := by rw [cell_of_row OZ]; rfl
  have hg2 : w7.cell? ⟨w.heap.size, 2, none⟩ = some (.int .u32 0) := by rw [cell_of_row OZ]; rfl
  have hg3 : w7.cell? ⟨w.heap.size, 3, none⟩ = some (.slice none 0 0) := by rw [cell_of_row OZ]; rfl
  have hc0 : w7.cell? ⟨w4.heap.size, 0, none⟩ = some (.int .u64 seq) := by rw [cell_of_row O7]; rfl
  have hc1 : w7.cell? ⟨w4.heap.size, 1, none⟩ = some (.int .i64 t) := by rw [cell_of_row O7]; rfl
  have hc2 : w7.cell? ⟨w4.heap.size, 2, none⟩ = some (.int .u32 ten) := by rw [cell_of_row O7]; rfl
  have hc3 : w7.cell? ⟨w4.heap.size, 3, none⟩ = some (.slice la L.length lc) := by rw [cell_of_row O7]; rfl
  obtain ⟨WF, hWF⟩ : ∃ W, W = ((((w7.setCell ⟨w.heap.size, 0, none⟩ (.int .u64 seq)).setCell ⟨w.heap.size, 1, none⟩ (.int .i64 t)).setCell ⟨w.heap.size, 2, none⟩ (.int .u32 ten)).setCell ⟨w.heap.size, 3, none⟩ (.slice la L.length lc)) := ⟨_, rfl⟩
  have FB : Hid (Below w.heap.size w WF) := by rw [hWF]; exact (((B7.out.setCell (Nat.le_refl _) _).setCell (Nat.le_refl _) _).setCell (Nat.le_refl _) _).setCell (Nat.le_refl _) _
  have FO : WF.heap[w.heap.size]? = some (.cells #[.int .u64 seq, .int .i64 t, .int .u32 ten, .slice la L.length lc] 49 (0, 0)) := by rw [hWF]; exact box4_set OZ
  have FL := Lib.hid (post_load FO)
  have FR : Hid (OwnP WF w.heap.size (.slice la L.length lc) L) := by
    rw [hWF]
    have hne : (Value.slice la L.length lc).ownBlock ≠ some w.heap.size := fun e => by have := (L7.out.lt _ e).1; have := B3S.out; omega
    exact own_base (Nat.le_of_lt B3S.out) (ownsRow_setCell_other (ownsRow_setCell_other (ownsRow_setCell_other (ownsRow_setCell_other L7.out hne _) hne _) hne _) hne _)
  clear O7 OZ FO
  go_wp2_with fail
  rw [← hWF]
  clear hWF
  (try simp only [Exit.inBlock, Exit.then])
  refine bodyPost_ret (v := .tuple #[.agg #[.int .u64 seq, .int .i64 t, .int .u32 ten, .slice la L.length lc], .int .i64 0]) ?_ rfl ⟨_, rfl, FR.out, FB.out⟩
  rw [results_cell_tmp rfl]
  have hfl := FL.out
  simp [asAddr, Result.andThen, hfl]
set_option maxHeartbeats 2000000 in
theorem getposting_any {seq ten : Nat} {t : Int} {L : List Pt} (v : Value) (w : World) (hB : BytesAt 0 w v (postL seq t ten L)) (hp : postsB seq t L = true) (hs : seq < 18446744073709551616) (ht : Acct.inInt t) (hten : ten < 4294967296) (hL : L.length ≤ 16) (hq : ∀ q ∈ L, 0 < q.a.size ∧ q.a.size ≤ 32 ∧ Acct.inInt q.n) :
    Calls Tryz.prog 43 #[v] w (PostRead seq t ten L w) := by
  obtain ⟨va, vc, rfl⟩ := hB.form
  obtain ⟨w1, hw1⟩ : ∃ W, W = w.alloc (.cells #[.int .u64 0, .int .i64 0, .int .u32 0, .slice none 0 0] 49) := ⟨_, rfl⟩
  have hb1 : Below w.heap.size w w1 := by rw [hw1]; exact below_alloc _ _
  have O1 : Hid (w1.heap[w.heap.size]? = some (.cells #[.int .u64 0, .int .i64 0, .int .u32 0, .slice none 0 0] 49 (0, 0))) := by rw [hw1]; exact alloc_block _ _ _ _
  have B1 := Lib.hid hb1
  have RX := Lib.hid (eread_any _ w1 (hB.below hb1) hp hs ht hten hL hq)
  clear hB hb1
  go_enter Tryz.func43, Tryz.ntmps43
  go_wp2_with fail
  rw [← hw1]
  clear hw1
  refine RX.out.mono ?_
  rintro e w2 ⟨lv, rfl, ho, hb⟩
  obtain ⟨la, lc, rfl⟩ := ownP_slice ho rfl
  have hz := stays_block hb O1.out
  obtain ⟨f0, f1, f2, f3, g0, g1, g2, g3⟩ := zero_facts hz
  obtain ⟨WF, hWF, FL, FO, FB⟩ := post_fin (seq := seq) (t := t) (ten := ten) hz ho (lt_of_block O1.out)
  have HL := Lib.hid FL
  have HO := Lib.hid (own_base B1.out.size FO)
  have HBW := Lib.hid (FB _ _ (onward hb B1.out) (Nat.le_refl _))
  clear ho hb hz FL FO FB RX
  go_wp2_with fail
  rw [← hWF]
  clear hWF
  (try simp only [Exit.inBlock, Exit.then])
  refine bodyPost_ret (v := .tuple #[.agg #[.int .u64 seq, .int .i64 t, .int .u32 ten, .slice la L.length lc], .int .i64 0]) ?_ rfl ⟨_, rfl, HO.out, HBW.out⟩
  rw [results_cell_tmp rfl]
  have hfl := HL.out
  simp [asAddr, Result.andThen, hfl]
end Go.Proofs.YtecbnhmnhcpcmaaGreatDoor
