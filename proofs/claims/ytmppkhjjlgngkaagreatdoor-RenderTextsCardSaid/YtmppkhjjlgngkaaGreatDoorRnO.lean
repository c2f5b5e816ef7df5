/- What the render laws need beside the walks: plain facts, arguments opened, laid variables' cards. -/
import Derived.Test.YtmppkhjjlgngkaaGreatDoorRnM
import Derived.Test.YtmppkhjjlgngkaaGreatDoorRnN
namespace Go.Proofs.YtmppkhjjlgngkaaGreatDoor
open Go.RowKit Civ Ren Go.Shelf
set_option maxRecDepth 100000
set_option linter.unusedVariables false
set_option linter.unusedSimpArgs false
theorem parseR_is {s : List UInt8} {x : Ren.Inv} (h : parseR s = some x) : x.ok ∧ mayB x = true ∧ bodyL x = s ∧ textL x = s := by
  unfold parseR at h
  cases hp : parseS s with
  | none => rw [hp] at h; cases h
  | some v =>
    rw [hp] at h
    simp only at h
    by_cases ht : textL v = s
    · rw [if_pos ht] at h
      obtain rfl := Option.some.inj h
      obtain ⟨h1, h2⟩ := text_is hp ht
      exact ⟨parse_ok hp, h1, h2, ht⟩
    · rw [if_neg ht] at h; cases h
theorem parseR_more (v : Ren.Inv) : parseR (bodyL v ++ [10]) = none := by
  cases h : parseR (bodyL v ++ [10]) with
  | none => rfl
  | some x => exact absurd (parseR_is h).2.2.1 (body_more x v)
theorem parseR_less (v : Ren.Inv) : parseR ((bodyL v).take ((bodyL v).length - 1)) = none := by
  obtain ⟨r, hr⟩ := body_last v
  have e : (bodyL v).take ((bodyL v).length - 1) = r := by rw [hr]; simp
  rw [e]
  cases h : parseR r with
  | none => rfl
  | some x => exact absurd (by rw [(parseR_is h).2.2.1]; exact hr) (body_more v x)
theorem parseR_blank (s : List UInt8) : parseR (32 :: s) = none := by
  cases h : parseR (32 :: s) with
  | none => rfl
  | some x =>
    obtain ⟨r, hr⟩ := body_head x
    have := (parseR_is h).2.2.1
    rw [hr] at this
    cases this
theorem body_len (v : Ren.Inv) (hok : v.ok) (hm : mayB v = true) : (bodyL v).length ≤ 10000 := by
  have h1 := head_len v hok
  have h2 := lines_len v.ls hok.2.2.2.2.2
  have h3 := two_len wTotal v.tot (by decide) hok.2.2.2.1
  have h4 : (footT v).length ≤ 50 := by
    unfold footT
    split
    · exact two_len wCredited v.cr (by decide) hok.2.2.2.2.1
    · simp
  unfold mayB at hm
  rw [Bool.and_eq_true] at hm
  have hd := of_decide_eq_true hm.2
  rw [body_rows]
  simp only [List.length_append]
  omega
/-! arguments -/
theorem cellsOfInv : Tryz.prog.cellsOf 25 = 6 := by kernel_rfl
theorem cellsOfLine : Tryz.prog.cellsOf 39 = 5 := by kernel_rfl
theorem cellsOfU8 : Tryz.prog.cellsOf 5 = 1 := by kernel_rfl
theorem cellsOfU32 : Tryz.prog.cellsOf 22 = 1 := by kernel_rfl
theorem cellsOfI64 : Tryz.prog.cellsOf 2 = 1 := by kernel_rfl
theorem cellsOfLines : Tryz.prog.cellsOf 23 = 1 := by kernel_rfl
theorem line_of_reads {w : World} {n : Nat} {cs : List Value} (h : Reads Tryz.prog w (n + 2) 39 cs) : ∃ l : Ren.Ln, cs = l.cells ∧ l.ok := by
  obtain ⟨h0, h1⟩ := struct_of_reads Tryz.underlying39 h
  rw [cellsOfLine] at h0
  match cs, h0 with
  | [c0, c1, c2, c3, c4], _ =>
    have r0 : Reads Tryz.prog w (n + 1) 5 (([c0, c1, c2, c3, c4].drop 0).take (Tryz.prog.cellsOf 5)) := h1 0 _ rfl
    have r1 : Reads Tryz.prog w (n + 1) 22 (([c0, c1, c2, c3, c4].drop 1).take (Tryz.prog.cellsOf 22)) := h1 1 _ rfl
    have r2 : Reads Tryz.prog w (n + 1) 2 (([c0, c1, c2, c3, c4].drop 2).take (Tryz.prog.cellsOf 2)) := h1 2 _ rfl
    have r3 : Reads Tryz.prog w (n + 1) 2 (([c0, c1, c2, c3, c4].drop 3).take (Tryz.prog.cellsOf 2)) := h1 3 _ rfl
    have r4 : Reads Tryz.prog w (n + 1) 2 (([c0, c1, c2, c3, c4].drop 4).take (Tryz.prog.cellsOf 2)) := h1 4 _ rfl
    rw [cellsOfU8] at r0
    rw [cellsOfU32] at r1
    rw [cellsOfI64] at r2 r3 r4
    obtain ⟨m0, e0, w0⟩ := int_of_reads Tryz.underlying5 r0
    obtain ⟨m1, e1, w1⟩ := int_of_reads Tryz.underlying22 r1
    obtain ⟨m2, e2, w2⟩ := int_of_reads Tryz.underlying2 r2
    obtain ⟨m3, e3, w3⟩ := int_of_reads Tryz.underlying2 r3
    obtain ⟨m4, e4, w4⟩ := int_of_reads Tryz.underlying2 r4
    simp only [List.drop, List.take, List.cons.injEq, and_true] at e0 e1 e2 e3 e4
    subst e0 e1 e2 e3 e4
    exact ⟨⟨m0, m1, m2, m3, m4⟩, rfl, of_u8 w0, of_u32 w1, of_i64 w2, of_i64 w3, of_i64 w4⟩
theorem lines_of_reads {w : World} {n : Nat} {cs : List Value} (h : Reads Tryz.prog w (n + 3) 23 cs) : ∃ (v : Value) (L : List Ren.Ln), cs = [v] ∧ RowsIn w v 5 (L.map Ren.Ln.cells) ∧ (∀ l ∈ L, l.ok) ∧ ∀ n c, v = .slice none n c → n = 0 ∧ c = 0 := by
  have h0 := h
  obtain ⟨v, rows, rfl, h1, h2⟩ := slice_of_reads Tryz.underlying23 (by rw [cellsOfLine]; omega) h
  rw [cellsOfLine] at h1
  have hb : ∀ r ∈ rows, ∃ l : Ren.Ln, r = l.cells ∧ l.ok := fun r hr => line_of_reads (h2 r hr).2
  have : Nonempty Ren.Ln := ⟨⟨0, 0, 0, 0, 0⟩⟩
  obtain ⟨f, hf⟩ := choose_on hb
  refine ⟨v, rows.map f, rfl, ?_, fun a ha => ?_, fun n c e => ?_⟩
  · rw [map_back fun r hr => (hf r hr).1]; exact h1
  · obtain ⟨r, hr, rfl⟩ := List.mem_map.1 ha
    exact (hf r hr).2
  · subst e
    unfold Reads at h0
    rw [Tryz.underlying23] at h0
    rcases h0 with h0 | ⟨_, _, _, h0, _⟩
    · simpa using h0
    · simp at h0
theorem inv_of_reads {w : World} {n : Nat} {cs : List Value} (h : Reads Tryz.prog w (n + 4) 25 cs) : ∃ (v : Ren.Inv) (lv : Value), cs = [.int .u32 v.no, .int .u32 v.te, .int .i64 v.mo, lv, .int .i64 v.tot, .int .i64 v.cr] ∧ v.ok ∧ RowsIn w lv 5 (v.ls.map Ren.Ln.cells) ∧ ∀ n c, lv = .slice none n c → n = 0 ∧ c = 0 := by
  obtain ⟨h0, h1⟩ := struct_of_reads Tryz.underlying25 h
  rw [cellsOfInv] at h0
  match cs, h0 with
  | [c0, c1, c2, c3, c4, c5], _ =>
    have r0 : Reads Tryz.prog w (n + 3) 22 (([c0, c1, c2, c3, c4, c5].drop 0).take (Tryz.prog.cellsOf 22)) := h1 0 _ rfl
    have r1 : Reads Tryz.prog w (n + 3) 22 (([c0, c1, c2, c3, c4, c5].drop 1).take (Tryz.prog.cellsOf 22)) := h1 1 _ rfl
    have r2 : Reads Tryz.prog w (n + 3) 2 (([c0, c1, c2, c3, c4, c5].drop 2).take (Tryz.prog.cellsOf 2)) := h1 2 _ rfl
    have r3 : Reads Tryz.prog w (n + 3) 23 (([c0, c1, c2, c3, c4, c5].drop 3).take (Tryz.prog.cellsOf 23)) := h1 3 _ rfl
    have r4 : Reads Tryz.prog w (n + 3) 2 (([c0, c1, c2, c3, c4, c5].drop 4).take (Tryz.prog.cellsOf 2)) := h1 4 _ rfl
    have r5 : Reads Tryz.prog w (n + 3) 2 (([c0, c1, c2, c3, c4, c5].drop 5).take (Tryz.prog.cellsOf 2)) := h1 5 _ rfl
    rw [cellsOfU32] at r0 r1
    rw [cellsOfI64] at r2 r4 r5
    rw [cellsOfLines] at r3
    obtain ⟨m0, e0, w0⟩ := int_of_reads Tryz.underlying22 r0
    obtain ⟨m1, e1, w1⟩ := int_of_reads Tryz.underlying22 r1
    obtain ⟨m2, e2, w2⟩ := int_of_reads Tryz.underlying2 r2
    obtain ⟨lv, L, e3, hL, hok, hnn⟩ := lines_of_reads r3
    obtain ⟨m4, e4, w4⟩ := int_of_reads Tryz.underlying2 r4
    obtain ⟨m5, e5, w5⟩ := int_of_reads Tryz.underlying2 r5
    simp only [List.drop, List.take, List.cons.injEq, and_true] at e0 e1 e2 e3 e4 e5
    subst e0 e1 e2 e3 e4 e5
    exact ⟨⟨m0, m1, m2, L, m4, m5⟩, _, rfl, ⟨of_u32 w0, of_u32 w1, of_i64 w2, of_i64 w4, of_i64 w5, hok⟩, hL, hnn⟩
theorem open_inv {H : Type} {enc : TypeId × Value → H} {w : World} {r : Reach} {base b0 : Nat} {held : Bool} {v : Value} {d : DataW H} {p : List MemPlace} (hv : Value.okWide Tryz.prog w r b0 25 v) (h : DataW.Trod enc Tryz.prog w base (fun _ => true) held 25 v d p) :
    ∃ (x : Ren.Inv) (lv : Value), v = x.val lv ∧ x.ok ∧ RowsIn w lv 5 (x.ls.map Ren.Ln.cells) ∧ ∀ n c, lv = .slice none n c → n = 0 ∧ c = 0 := by
  obtain ⟨cs, rfl, hsz⟩ := Go.WideShapes.okWide_struct Tryz.underlying25 hv
  obtain ⟨x, lv, e, h1, h2⟩ := inv_of_reads (n := 0) (reads_of_Trod 4 h)
  refine ⟨x, lv, ?_, h1, h2⟩
  obtain ⟨l⟩ := cs
  have e' : l = [.int .u32 x.no, .int .u32 x.te, .int .i64 x.mo, lv, .int .i64 x.tot, .int .i64 x.cr] := by simpa [Value.cells] using e
  rw [e']
  rfl
end Go.Proofs.YtmppkhjjlgngkaaGreatDoor
