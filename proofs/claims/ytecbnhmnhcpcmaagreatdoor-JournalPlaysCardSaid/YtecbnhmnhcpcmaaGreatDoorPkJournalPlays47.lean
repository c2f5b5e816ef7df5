/- What the laws' arguments read as: a posting, a list of postings. The walk of JournalPlays as its row wants it. The wrap of a tied law's row, the world's shape handed on to the walk. No program. What a tied row's listed variables, and the world's shape, give the walks of acct. -/
import Derived.Test.YtecbnhmnhcpcmaaGreatDoorPkJournalPlays24
import Derived.Test.YtecbnhmnhcpcmaaGreatDoorPkJournalPlays46
import Derived.Handed
import Derived.HandedShaped
import Derived.Shelf.Vars
import Derived.Test.YtecbnhmnhcpcmaaGreatDoorRows
import Derived.Test.YtecbnhmnhcpcmaaGreatDoorPkJournalPlays14
import Derived.ProofKit
import Derived.LaidMore
import Derived.Lay
import Derived.OpenShut
import Derived.Stop.Joined
import Derived.Stop.LaidErr
import Derived.Lib.LaidTab
import Derived.ChangeSame
/-! What the laws' arguments read as: a posting, a list of postings. -/
namespace Go.Proofs.YtecbnhmnhcpcmaaGreatDoor
open Go.RowKit
set_option linter.unusedVariables false
set_option linter.unusedSimpArgs false
set_option maxRecDepth 1000000
theorem jcellsOfPart : Tryz.prog.cellsOf 41 = 2 := by kernel_rfl
theorem jcellsOfParts : Tryz.prog.cellsOf 36 = 1 := by kernel_rfl
theorem jcellsOfAct : Tryz.prog.cellsOf 38 = 3 := by kernel_rfl
theorem jcellsOfU32 : Tryz.prog.cellsOf 35 = 1 := by kernel_rfl
theorem jcellsOfI64 : Tryz.prog.cellsOf 2 = 1 := by kernel_rfl
theorem jcellsOfStr : Tryz.prog.cellsOf 9 = 1 := by kernel_rfl
theorem jpart_of_reads {w : World} {n : Nat} {cs : List Value} (h : Reads Tryz.prog w (n + 2) 41 cs) : ∃ q : Pt, cs = q.cells ∧ Acct.inInt q.n := by
  obtain ⟨h0, h1⟩ := struct_of_reads Tryz.underlying41 h
  rw [jcellsOfPart] at h0
  match cs, h0 with
  | [c0, c1], _ =>
    have r0 : Reads Tryz.prog w (n + 1) 9 (([c0, c1].drop 0).take (Tryz.prog.cellsOf 9)) := h1 0 _ rfl
    have r1 : Reads Tryz.prog w (n + 1) 2 (([c0, c1].drop 1).take (Tryz.prog.cellsOf 2)) := h1 1 _ rfl
    rw [jcellsOfStr] at r0
    rw [jcellsOfI64] at r1
    obtain ⟨m0, e0, -⟩ := string_of_reads Tryz.underlying9 r0
    obtain ⟨m1, e1, w1⟩ := int_of_reads Tryz.underlying2 r1
    simp only [List.drop, List.take, List.cons.injEq, and_true] at e0 e1
    subst e0 e1
    exact ⟨⟨m0, m1⟩, rfl, of_i64 w1⟩
theorem jparts_of_reads {w : World} {n : Nat} {cs : List Value} (h : Reads Tryz.prog w (n + 3) 36 cs) : ∃ (v : Value) (L : List Pt), cs = [v] ∧ RowsIn w v 2 (L.map Pt.cells) ∧ (∀ q ∈ L, Acct.inInt q.n) ∧ ∀ n c, v = .slice none n c → n = 0 ∧ c = 0 := by
  have h0 := h
  obtain ⟨v, rows, rfl, h1, h2⟩ := slice_of_reads Tryz.underlying36 (by rw [jcellsOfPart]; omega) h
  rw [jcellsOfPart] at h1
  have hb : ∀ r ∈ rows, ∃ q : Pt, r = q.cells ∧ Acct.inInt q.n := fun r hr => jpart_of_reads (h2 r hr).2
  have : Nonempty Pt := ⟨⟨ByteArray.empty, 0⟩⟩
  obtain ⟨f, hf⟩ := choose_on hb
  refine ⟨v, rows.map f, rfl, ?_, fun a ha => ?_, fun n c e => ?_⟩
  · rw [map_back fun r hr => (hf r hr).1]; exact h1
  · obtain ⟨r, hr, rfl⟩ := List.mem_map.1 ha
    exact (hf r hr).2
  · subst e
    unfold Reads at h0
    rw [Tryz.underlying36] at h0
    rcases h0 with h0 | ⟨_, _, _, h0, _⟩
    · simpa using h0
    · simp at h0
theorem jact_of_reads {w : World} {n : Nat} {cs : List Value} (h : Reads Tryz.prog w (n + 4) 38 cs) : ∃ a : Ac, cs = a.cells ∧ a.ok w ∧ ∀ n c, a.pv = .slice none n c → n = 0 ∧ c = 0 := by
  obtain ⟨h0, h1⟩ := struct_of_reads Tryz.underlying38 h
  rw [jcellsOfAct] at h0
  match cs, h0 with
  | [c0, c1, c2], _ =>
    have r0 : Reads Tryz.prog w (n + 3) 2 (([c0, c1, c2].drop 0).take (Tryz.prog.cellsOf 2)) := h1 0 _ rfl
    have r1 : Reads Tryz.prog w (n + 3) 35 (([c0, c1, c2].drop 1).take (Tryz.prog.cellsOf 35)) := h1 1 _ rfl
    have r2 : Reads Tryz.prog w (n + 3) 36 (([c0, c1, c2].drop 2).take (Tryz.prog.cellsOf 36)) := h1 2 _ rfl
    rw [jcellsOfI64] at r0
    rw [jcellsOfU32] at r1
    rw [jcellsOfParts] at r2
    obtain ⟨m0, e0, w0⟩ := int_of_reads Tryz.underlying2 r0
    obtain ⟨m1, e1, w1⟩ := int_of_reads Tryz.underlying35 r1
    obtain ⟨pv, L, e2, hL, hok, hnn⟩ := jparts_of_reads r2
    simp only [List.drop, List.take, List.cons.injEq, and_true] at e0 e1 e2
    subst e0 e1 e2
    exact ⟨⟨m0, m1, _, L⟩, rfl, ⟨hL, of_u32 w1, of_i64 w0, hok⟩, hnn⟩
theorem open_act {H : Type} {enc : TypeId × Value → H} {w : World} {r : Reach} {base b0 : Nat} {held : Bool} {v : Value} {d : DataW H} {p : List MemPlace} (hv : Value.okWide Tryz.prog w r b0 38 v) (h : DataW.Trod enc Tryz.prog w base (fun _ => true) held 38 v d p) :
    ∃ x : Ac, v = .agg #[.int .i64 x.t, .int .u32 x.ten, x.pv] ∧ x.ok w ∧ ∀ n c, x.pv = .slice none n c → n = 0 ∧ c = 0 := by
  obtain ⟨cs, rfl, hsz⟩ := Go.WideShapes.okWide_struct Tryz.underlying38 hv
  obtain ⟨x, e, h1, h2⟩ := jact_of_reads (n := 0) (reads_of_Trod 4 h)
  refine ⟨x, ?_, h1, h2⟩
  obtain ⟨l⟩ := cs
  have e' : l = [.int .i64 x.t, .int .u32 x.ten, x.pv] := by simpa [Value.cells, Ac.cells] using e
  rw [e']
theorem open_acts {H : Type} {enc : TypeId × Value → H} {w : World} {r : Reach} {base b0 : Nat} {held : Bool} {v : Value} {d : DataW H} {p : List MemPlace} (hw : Value.okWide Tryz.prog w r b0 22 v) (h : DataW.Trod enc Tryz.prog w base (fun _ => true) held 22 v d p) :
    ∃ L : List Ac, RowsIn w v 3 (L.map Ac.cells) ∧ ∀ a ∈ L, a.ok w := by
  obtain ⟨a0, len, cap, rfl⟩ := Go.WideShapes.okWide_slice Tryz.underlying22 hw
  obtain ⟨v', rows, e, h1, h2⟩ := slice_of_reads Tryz.underlying22 (by rw [jcellsOfAct]; omega) (reads_of_Trod 5 h)
  simp only [Value.cells] at e
  injection e with e _
  subst e
  rw [jcellsOfAct] at h1
  have hb : ∀ r ∈ rows, ∃ a : Ac, r = a.cells ∧ a.ok w := fun r hr => by
    obtain ⟨a, h3, h4, -⟩ := jact_of_reads (n := 0) (h2 r hr).2
    exact ⟨a, h3, h4⟩
  have : Nonempty Ac := ⟨⟨0, 0, .bool true, []⟩⟩
  obtain ⟨f, hf⟩ := choose_on hb
  refine ⟨rows.map f, ?_, fun a ha => ?_⟩
  · rw [map_back fun r hr => (hf r hr).1]; exact h1
  · obtain ⟨r, hr, rfl⟩ := List.mem_map.1 ha
    exact (hf r hr).2
end Go.Proofs.YtecbnhmnhcpcmaaGreatDoor
/-! The walk of JournalPlays as its row wants it. -/
namespace Go.Proofs.YtecbnhmnhcpcmaaGreatDoor
open Go.RowKit
theorem plays_row (lv : Value) (L : List Ac) (s : ByteArray) (b : Int) (w : World) (hE : EnvA w) (hl : RowsIn w lv 3 (L.map Ac.cells)) (ho : ∀ a ∈ L, a.ok w) (hb : 0 ≤ b ∧ b ≤ 18446744073709551615) :
    Calls Tryz.prog 3 #[lv, .string s, .int .u64 b] w fun e w' => e = .returned (.bool true) ∧ Below w.heap.size w w' := by
  obtain ⟨k, rfl⟩ : ∃ k : Nat, b = k := ⟨b.toNat, by omega⟩
  exact plays_law lv L s k w hE hl ho (by omega)
end Go.Proofs.YtecbnhmnhcpcmaaGreatDoor
/-! The wrap of a tied law's row, the world's shape handed on to the walk. No program. -/
namespace Go.Proofs.YtecbnhmnhcpcmaaGreatDoor
open Go
theorem handed_shaped {H : Type} {enc : TypeId × Value → H} {a : Assume} {C : Checked} {os : Os} {f : FuncId} {fn : Func} {s : ChangeSpec} {conds : List PathCond} {apart fresh handsOn again : Bool} {X : World → Array Value → Prop}
    (hX : ∀ (w w' : World) (args : Array Value), w.heap = w'.heap → X w args → X w' args)
    (own : ownKnob C.prog.godebug = none) (started : os.Started) (noInit : C.prog.inits.idxOf? f = none) (hfn : C.prog.funcs[f]? = some fn)
    (witness : ∃ (w : World) (tape : Tape) (i : Input), w.os = os ∧ (w.forCall tape i).Shaped C.prog ∧ i.vars = [] ∧ Input.okWide C.prog (w.forCall tape i) .any w.heap.size f i ∧
      ((s.pre enc C.prog fn conds apart (w.forCall tape i).memory i.args ∧ X (w.forCall tape i).memory i.args) ∧ sizedMet enc C.prog fn (OpenSpec.ofChange s) apart (w.forCall tape i).memory i.args) ∧ a.holds C.prog (lone (Frame.enter C.prog f i.args .normal) [] (w.forCall tape i)))
    (walk : ∀ (W : World) (base : Nat) (args : Array Value) (ds gs : List (DataW H)) (before : List MemPlace),
      (∀ (j : Nat) t v, fn.params[j]? = some t → args[j]? = some v → Value.okWide C.prog W .any base t v) →
      DataW.Whole enc C.prog fn.params.toList s.vars apart W args.toList ds gs before →
      (DataW.weightsEach C.prog (fn.params.toList ++ s.plain.varTypes C.prog) (ds ++ gs)).all (· ≤ reachBytes) = true → X W args → W.ShapedOpen C.prog →
      Calls C.prog f args W fun e W' => ∃ v, e = .returned v ∧ s.post enc C.prog fn apart fresh handsOn again W args v W') :
    ReturnsInHanded a C os f .any (fun w args => (s.pre enc C.prog fn conds apart w args ∧ X w args) ∧ sizedMet enc C.prog fn (OpenSpec.ofChange s) apart w args) (s.post enc C.prog fn apart fresh handsOn again) := by
  refine returnsInHanded_of_calls own started noInit witness fun w tape i _ hsh _ hok hpre _ => ?_
  obtain ⟨_, _, _, g, hg, _, _, _, _, hval⟩ := hok
  obtain rfl : g = fn := Option.some.inj (hg.symm.trans hfn)
  obtain ⟨⟨⟨ds, gs, before, hw, _⟩, hx⟩, hz⟩ := hpre
  have hw2 := DataW.Whole.of_heap (w' := w.forCall tape i) (by rfl) hw
  refine (walk (w.forCall tape i) w.heap.size i.args ds gs before hval hw2 (hz.weights hw) (hX _ _ _ (by rfl) hx) hsh).mono fun e W' ⟨v, he, hp⟩ => ?_
  subst he
  exact ChangeSpec.post_blind hp
end Go.Proofs.YtecbnhmnhcpcmaaGreatDoor
/-! What a tied row's listed variables, and the world's shape, give the walks of acct. -/
namespace Go.Proofs.YtecbnhmnhcpcmaaGreatDoor
open Go.RowKit Go.WideShapes Go.ChangeShapes
set_option maxRecDepth 100000
/-- what the rows list -/
def listsA : List (String × DataW Unit) := [("math/bits.deBruijn32tab", Rows.laid_math_bits_deBruijn32tab), ("math/bits.deBruijn64tab", Rows.laid_math_bits_deBruijn64tab), ("internal/strconv.uint64pow10", Rows.laid_internal_strconv_uint64pow10), ("unicode/utf8.acceptRanges", Rows.laid_unicode_utf8_acceptRanges), ("strconv.ErrRange", Rows.laid_strconv_ErrRange), ("strconv.ErrSyntax", Rows.laid_strconv_ErrSyntax), ("unicode/utf8.first", Rows.laid_unicode_utf8_first)]
theorem ownk : ownKnob Tryz.prog.godebug = none := by kernel_rfl
theorem gPow : Tryz.prog.globalNamed "internal/strconv.uint64pow10" = some 3 := by kernel_rfl
theorem tPow : (Tryz.prog.globals[3]?).map (·.type) = some 208 := by kernel_rfl
theorem gRan : Tryz.prog.globalNamed "strconv.ErrRange" = some 1 := by kernel_rfl
theorem gSyn : Tryz.prog.globalNamed "strconv.ErrSyntax" = some 0 := by kernel_rfl
theorem tRan : (Tryz.prog.globals[1]?).map (·.type) = some 122 := by kernel_rfl
theorem tSyn : (Tryz.prog.globals[0]?).map (·.type) = some 122 := by kernel_rfl
theorem star : "*" ++ "errors.errorString" = "*errors.errorString" := by decide
theorem rowErr (u : TypeId) (h : Tryz.prog.typeName? 3 u = some "*errors.errorString") : u = 203 :=
  typeName_ptr_named (nm := "errors.errorString") (by rw [star]; kernel_rfl) (by kernel_rfl) (by decide) u (by rw [star]; exact h)
/-- A world in which the listed variables hold what the rows list. -/
theorem laid_metA (os : Os) (args : Array Value) : laidMetH Tryz.prog listsA ((World.laidAll Tryz.prog os listsA).forCall (fun _ _ => 0) ⟨#[], args, []⟩).memory := by
  rw [MakeChecks.laidMetH_plain _ _ _ (by kernel_rfl)]
  exact laidMet_laidAll _ (by kernel_rfl) (by kernel_rfl)
theorem row_maxl : ∃ zero t, ((begin Tryz.prog (fun _ _ => 0) default).world.heap[2]?).bind Obj.row? = some (zero, t) ∧ zero.size = 1 ∧ t = 3 := ⟨#[.int .i64 0], 3, by kernel_rfl, rfl, rfl⟩
theorem maxl_lt : 2 < Tryz.prog.globals.size := of_decide_eq_true (by kernel_rfl)
theorem env_ofA {W : World} (h : laidMet Tryz.prog listsA W) (hsh : W.ShapedOpen Tryz.prog) : EnvA W := by
  have h2 := h.tail.tail
  have e1 : (Rows.laid_internal_strconv_uint64pow10 : DataW Unit) = Lib.tabData .u64 Lib.pow10Tab := by kernel_rfl
  rw [e1] at h2
  have k1 := Lib.tabIs_of_head gPow tPow Tryz.underlying208 Tryz.underlying23 (by kernel_rfl) (by kernel_rfl) h2
  obtain ⟨a0, s0, hv0, -, -, -⟩ := laid_sentinel h2.tail.tail gRan tRan Tryz.underlying122 rowErr Tryz.underlying203 Tryz.underlying205 rfl rfl Tryz.underlying9 (by kernel_rfl) (by kernel_rfl)
  obtain ⟨a1, s1, hv1, -, -, -⟩ := laid_sentinel h2.tail.tail.tail gSyn tSyn Tryz.underlying122 rowErr Tryz.underlying203 Tryz.underlying205 rfl rfl Tryz.underlying9 (by kernel_rfl) (by kernel_rfl)
  refine ⟨k1, ?_, ⟨_, _, by have h0 := World.var?_cell gSyn hv1 0; simpa using h0⟩, ⟨_, _, by have h0 := World.var?_cell gRan hv0 0; simpa using h0⟩⟩
  obtain ⟨zero, t, r1, r2, r3⟩ := row_maxl
  subst r3
  exact Go.Proofs.cell_of_shapedOpen_int hsh maxl_lt r1 r2 (by kernel_rfl) (by kernel_rfl) Tryz.underlying3
end Go.Proofs.YtecbnhmnhcpcmaaGreatDoor
