/- The walks of acct.Units and of the law's numbers. The walk of law 15's goes; names that are, names that are not. The walks of money.Add, acct.Parse by its answer, journal.even with its two closures. The walk of journal.may. The walk of journal.Balance; plain facts of Post. The walk of journal.Post: plain answer, and up to the balances. Plain facts: what a posting leaves in a store without bounds. Plain facts: balances behind a posting. The walks of the laws' two and posts. The laws' acts in memory; the walk of great. Plain facts: many postings. The walk of the laws' made. (Printed by gen_jnv.py.) Lemmas of memory for the laws of postings: rows of parts as the source of an append, a store beside another one. The shelf's contracts at this seat's dump, as the kit's tools lay them in plain words; only those that this seat's proofs use. -/
import Derived.Test.YtcaihncnmjegoaaGreatDoorPkPacksAl7
import Derived.BigGuardPart
import Derived.Test.YtcaihncnmjegoaaGreatDoorPkPacksAl6
import Derived.Maps.AppendAt
import Derived.Test.YtcaihncnmjegoaaGreatDoorPkPacksAl5
import Derived.Shelf.Small.Bits
import Derived.Shelf.Utf8.RuneCount
import Derived.Shelf.Strconv.Itoa0
import Derived.Shelf.Strconv.Itoa1
import Derived.Shelf.LaysM
import Derived.Shelf.Strconv.Itoa2
import Derived.Shelf.Strconv.Itoa3
import Derived.Shelf.Strconv.Itoa4
import Derived.Shelf.Strconv.ParseIntEmpty
import Derived.Shelf.Strconv.Clone
import Derived.Shelf.Strconv.SyntaxError
import Derived.Shelf.LaysC
import Derived.Shelf.Strconv.ToError
import Derived.Shelf.Strconv.Lower
import Derived.Shelf.Strconv.ParseUint10
import Derived.Shelf.Strconv.ParseUint10Empty
import Derived.Shelf.Strconv.ParseUint10Any
import Derived.Shelf.Strconv.ParseInt10
import Derived.Shelf.Strconv.RangeError
import Derived.Shelf.Strconv.ToErrorRange
import Derived.Shelf.Strconv.ParseUintEmpty
import Derived.Shelf.Strconv.ParseUint10b64
import Derived.Shelf.Strconv.ParseUint10b32
import Derived.Shelf.Strconv.ParseUint10b16
import Derived.Shelf.Strconv.ParseUint10b8
import Derived.Shelf.Strconv.ParseUint10At
import Derived.Shelf.Strconv.ParseInt10At64
import Derived.Shelf.Strconv.ParseInt10At32
import Derived.Shelf.Strconv.ParseInt10At16
import Derived.Shelf.Strconv.ParseInt10At8
import Derived.Shelf.Strconv.ParseInt10All
import Derived.Shelf.Strconv.ParseIntPublic10
import Derived.Shelf.Strconv.ErrVarParseInt
import Derived.Shelf.Strings.Search1
import Derived.Shelf.Strings.Search2
import Derived.Shelf.Strings.Search3
import Derived.Shelf.Strings.Count
import Derived.Shelf.Strings.Shaped
import Derived.Shelf.Sort.Plain
import Derived.Shelf.GgClosure.StringsIndexFunc
import Derived.Ground.GgwProg
import Derived.Shelf.GgClosure.StringsIndexFuncTop
import Derived.Shelf.GgClosure.StringsRunes
import Derived.Shelf.Strings.Split
import Derived.Shelf.Strings.SplitShaped
import Derived.Shelf.Unicode.Decode
import Derived.Shelf.Strings.RuneCount
import Derived.Shelf.Strings.Explode
import Derived.Shelf.Unicode.DecodeSlow
import Derived.Shelf.Unicode.DecodeAny
import Derived.Shelf.Strings.FuncGrows
import Derived.Shelf.Slices.In.SortNone
import Derived.Shelf.Bytes.SlSearch0
import Derived.Shelf.Bytes.SlSmallAll
import Derived.Shelf.Bytes.SlEqualAll
import Derived.Shelf.Bytes.Small
import Derived.Test.YtcaihncnmjegoaaGreatDoorProg
/-! The walks of acct.Units and of the law's numbers. -/
namespace Go.Proofs.YtcaihncnmjegoaaGreatDoor
open Go.RowKit Go.Shelf Acct
set_option linter.unusedVariables false
set_option linter.unusedSimpArgs false
/-- the words of accounts of units -/
def unitWs : List (List UInt8) := [[117, 115, 101], [102, 114, 101, 101], [111, 118, 101, 114], [112, 97, 99, 107], [115, 111, 108, 100], [100, 97, 121], [100, 97, 121, 115]]
noncomputable def unitsB (l : List UInt8) : Bool := @decide (∃ wd ns, Named l wd ns ∧ wd ∈ unitWs) (Classical.propDecidable _)
end Go.Proofs.YtcaihncnmjegoaaGreatDoor

/-! The walk of law 15's goes; names that are, names that are not. -/
namespace Go.Proofs.YtcaihncnmjegoaaGreatDoor.Acct
open Go Go.Lib
end Go.Proofs.YtcaihncnmjegoaaGreatDoor.Acct
namespace Go.Proofs.YtcaihncnmjegoaaGreatDoor
open Go.RowKit Go.Shelf Acct
set_option linter.unusedVariables false
set_option linter.unusedSimpArgs false
theorem aparse_yes {name : ByteArray} {wd : List UInt8} {ns : List Int} (h : Named name.data.toList wd ns) (w : World) (hE : EnvA w) (hs : name.size ≤ 100000) :
    Calls Tryz.prog 47 #[.string name] w fun e w' => ∃ nv, e = .returned (.tuple #[.string ⟨wd.toArray⟩, nv, .bool true]) ∧ IntsAt w' nv ns ∧ Below w.heap.size w w' :=
  (aparse_any name w hE hs).mono fun e w' ⟨hb, hor⟩ => by
    rcases hor with ⟨wd', ns', nv, h1, h2, h3⟩ | ⟨h1, _⟩
    · obtain ⟨rfl, rfl⟩ := h.only h1
      exact ⟨nv, h3, h2, hb⟩
    · exact absurd h (h1 _ _)
theorem aparse_no {name : ByteArray} (h : ∀ wd ns, ¬ Named name.data.toList wd ns) (w : World) (hE : EnvA w) (hs : name.size ≤ 100000) :
    Calls Tryz.prog 47 #[.string name] w fun e w' => e = .returned (.tuple #[.string ⟨#[]⟩, .slice none 0 0, .bool false]) ∧ Below w.heap.size w w' :=
  (aparse_any name w hE hs).mono fun e w' ⟨hb, hor⟩ => by
    rcases hor with ⟨wd', ns', nv, h1, h2, h3⟩ | ⟨_, h2⟩
    · exact absurd h1 (h _ _)
    · exact ⟨h2, hb⟩
end Go.Proofs.YtcaihncnmjegoaaGreatDoor

/-! The walks of money.Add, acct.Parse by its answer, journal.even with its two closures. -/
namespace Go.Proofs.YtcaihncnmjegoaaGreatDoor
open Go.RowKit Go.WideMaps Go.Maps
set_option linter.unusedVariables false
set_option linter.unusedSimpArgs false
set_option maxRecDepth 100000
/-- is it an account? -/
noncomputable def accB (s : ByteArray) : Bool := @decide (∃ wd ns, Acct.Named s.data.toList wd ns) (Classical.propDecidable _)
theorem accB_t {s : ByteArray} : accB s = true ↔ ∃ wd ns, Acct.Named s.data.toList wd ns := by
  unfold accB
  exact @decide_eq_true_iff _ (Classical.propDecidable _)
theorem accB_f {s : ByteArray} (h : accB s = false) : ∀ wd ns, ¬ Acct.Named s.data.toList wd ns := fun wd ns hN => by
  rw [accB_t.2 ⟨wd, ns, hN⟩] at h
  cases h
theorem aparseB (s : ByteArray) (w : World) (hE : EnvA w) (hs : s.size ≤ 100000) : Calls Tryz.prog 47 #[.string s] w fun e w' => ∃ x nv, e = .returned (.tuple #[.string x, nv, .bool (accB s)]) ∧ Below w.heap.size w w' := by
  cases h : accB s
  · exact (aparse_no (accB_f h) w hE hs).mono fun e w' ⟨h1, h2⟩ => ⟨_, _, h1, h2⟩
  · obtain ⟨wd, ns, hN⟩ := accB_t.1 h
    exact (aparse_yes hN w hE hs).mono fun e w' ⟨nv, h1, _, h2⟩ => ⟨_, _, h1, h2⟩
def allP (p : Pt) : Bool := true
noncomputable def unitP (p : Pt) : Bool := unitsB p.a.data.toList
/-- do those that are such come to 0? -/
def evenB (B : Pt → Bool) (L : List Pt) : Bool := decide (((L.filter B).map Pt.n).sum = 0)
end Go.Proofs.YtcaihncnmjegoaaGreatDoor

/-! The walk of journal.may. -/
namespace Go.Proofs.YtcaihncnmjegoaaGreatDoor
open Go.RowKit Go.WideMaps Go.Maps
set_option linter.unusedVariables false
set_option linter.unusedSimpArgs false
set_option maxRecDepth 100000
def keyP (p : Pt) : Lit := .string p.a.data.toList
/-- are all accounts different? -/
def apartB (L : List Pt) : Bool := decide (((L.map keyP).foldl addKey []).length = L.length)
/-- may parts be posted, but for their sums? -/
noncomputable def mayJ (L : List Pt) : Bool := L.all (fun p => accB p.a) && (decide (2 ≤ L.length) && apartB L)
end Go.Proofs.YtcaihncnmjegoaaGreatDoor

/-! The walk of journal.Balance; plain facts of Post. -/
namespace Go.Proofs.YtcaihncnmjegoaaGreatDoor
open Go.RowKit Go.WideMaps Go.Maps
set_option linter.unusedVariables false
set_option linter.unusedSimpArgs false
set_option maxRecDepth 100000
def balK (s : ByteArray) : Bs := 98 :: s.data.toList
/-- what Balance answers -/
noncomputable def balV (D : DM) (s : ByteArray) : Int × Int := if accB s = true then (wrap64 (numAt D (balK s)).1, (numAt D (balK s)).2) else (0, 1)
theorem balK_len (s : ByteArray) (hs : s.size ≤ 100000) : (balK s).length ≤ 1000000 := by
  unfold balK
  rw [List.length_cons, Array.length_toList]
  have : s.data.size = s.size := rfl
  omega
set_option maxHeartbeats 2000000 in
theorem bal_any {p b1 b2 n : Nat} {room : Int} {D D2 : DM} (s : ByteArray) (w : World) (hE : EnvA w) (hM : MemS w p b1 b2 room n D D2) (hs : s.size ≤ 100000) : Calls Tryz.prog 28 #[memI p, .string s] w fun e w' => e = .returned (.tuple #[.int .i64 (balV D s).1, .int .i64 (balV D s).2]) ∧ Below w.heap.size w w' := by
  have HM := Lib.hid hM
  have PX := Lib.hid (aparseB s w hE hs)
  clear hM hE
  go_enter Tryz.func28, Tryz.ntmps28
  go_wp2_with fail
  refine PX.out.mono ?_
  rintro e w1 ⟨x, nv, rfl, hb⟩
  have B1 := Lib.hid hb
  clear hb PX
  cases hB : accB s
  · have HV : Hid (balV D s = (0, 1)) := if_neg (by rw [hB]; decide)
    clear hB
    go_wp2_with fail
    go_ret2
    exact ⟨by rw [HV.out]; rfl, B1.out⟩
  · have HV : Hid (balV D s = (wrap64 (numAt D (balK s)).1, (numAt D (balK s)).2)) := if_pos hB
    clear hB
    go_wp2_with fail
    refine (jkey_any s w1 (by omega)).mono ?_
    rintro e w2 ⟨v2, rfl, hK, hb⟩
    have B2 := Lib.hid (onward hb B1.out)
    have NX := Lib.hid (kvnum_any w2 (HM.out.below (onward hb B1.out)) v2 (balK s) hK (balK_len s hs))
    clear hK hb
    go_wp2_with fail
    refine NX.out.mono ?_
    rintro e w3 ⟨rfl, hb⟩
    have B3 := Lib.hid (onward hb B2.out)
    clear hb NX
    go_wp2_with fail
    go_ret2
    exact ⟨by rw [HV.out]; rfl, B3.out⟩
end Go.Proofs.YtcaihncnmjegoaaGreatDoor

/-! The walk of journal.Post: plain answer, and up to the balances. -/
namespace Go.Proofs.YtcaihncnmjegoaaGreatDoor
open Go.RowKit Go.WideMaps Go.Maps
set_option linter.unusedVariables false
set_option linter.unusedSimpArgs false
set_option maxRecDepth 100000
/-- a store of the journal: numbers are eight bytes -/
def WFJ (D : DM) : Prop := ∀ k b, (k.head? = some 98 ∨ k = [113]) → gt D k = some b → b.length = 8
def lastN (D : DM) : Nat := (numAt D [113]).1.toNat
def PostEnd (p b1 b2 n : Nat) (room : Int) (D2 : DM) (r : Int × Int × DM) (w : World) (e : Ending) (w' : World) : Prop := e = .returned (.tuple #[.int .u64 r.1, .int .i64 r.2.1]) ∧ MemS w' p b1 b2 room n r.2.2 D2 ∧ Turned b1 w w'
theorem PostEnd.same {p b1 b2 n m : Nat} {room : Int} {D D2 : DM} {r : Int × Int × DM} {x : Int} {w w' : World} {e : Ending} (hr : r = (0, x, D)) (hM : MemS w p b1 b2 room n D D2) (hb : Below w.heap.size w w') (hm : n ≤ m) (he : e = .returned (.tuple #[.int .u64 0, .int .i64 x])) : PostEnd p b1 b2 m room D2 r w e w' := by
  subst hr
  exact ⟨he, (hM.below hb).mono hm, .of_below hb hM.now.isM⟩
theorem PostEnd.mk {p b1 b2 n : Nat} {room : Int} {D D2 : DM} {r : Int × Int × DM} {x y : Int} {w w' : World} {e : Ending} (hr : r = (x, y, D)) (hM : MemS w' p b1 b2 room n D D2) (ht : Turned b1 w w') (he : e = .returned (.tuple #[.int .u64 x, .int .i64 y])) : PostEnd p b1 b2 n room D2 r w e w' := by
  subst hr
  exact ⟨he, hM, ht⟩
theorem pt_rows (L : List Pt) : ∀ r ∈ L.map Pt.cells, r.length = 2 := fun r hr => by
  obtain ⟨p, -, rfl⟩ := List.mem_map.1 hr
  rfl
theorem Turned.rows {b : Nat} {w w' : World} {v : Value} {size : Nat} {rows : List (List Value)} (h : Turned b w w') (hr : RowsIn w v size rows) (hz : ∀ r ∈ rows, r.length = size) : RowsIn w' v size rows := by
  obtain ⟨a, c, h1, h2, h3, h4⟩ := hr
  refine ⟨a, c, h1, h2, h3, fun i hi => ?_⟩
  obtain ⟨g, o, h5, h6, h7⟩ := h4 i hi
  refine ⟨g, o, h5, Nat.lt_of_lt_of_le h6 h.grown.size, fun j hj => ?_⟩
  have hl : (rows.getD i []).length = size := by
    rw [List.getD_eq_getElem?_getD, List.getElem?_eq_getElem hi]
    exact hz _ (List.getElem_mem hi)
  have hs := h7 j hj
  rw [List.getElem?_eq_getElem (by omega)] at hs ⊢
  exact h.cell hs
theorem Turned.set {b q j : Nat} {w w1 : World} (h : Turned b w w1) (hq : w.heap.size ≤ q) (u : Value) : Turned b w (w1.setCell ⟨q, j, none⟩ u) := by
  have k := Kept.setCell (S := fun k => k = q) w1 ⟨q, j, none⟩ u rfl
  refine ⟨⟨k.os.trans h.grown.os, k.tape.trans h.grown.tape, k.output.trans h.grown.output, Nat.le_trans h.grown.size k.size, fun i hi hne => ?_⟩, h.isM⟩
  rw [k.block i (Nat.lt_of_lt_of_le hi h.grown.size) (by omega)]
  exact h.grown.block i hi hne
end Go.Proofs.YtcaihncnmjegoaaGreatDoor

/-! Plain facts: what a posting leaves in a store without bounds. -/
namespace Go.Proofs.YtcaihncnmjegoaaGreatDoor
open Go.RowKit Go.WideMaps Go.Maps
set_option linter.unusedVariables false
set_option linter.unusedSimpArgs false
set_option maxRecDepth 100000
theorem isM_pt {D : DM} (h : IsMap D) (k v : Bs) : IsMap (pt D k v) := h.put _ _
theorem putE_free {D : DM} {k v : Bs} (h1 : k ≠ []) (h2 : k.length ≤ 256) (h3 : v.length ≤ 1024) : putE (-1) D k v = 0 := by
  unfold putE
  rw [if_neg h1, if_neg (by omega), if_neg (by rintro ⟨-, h, -⟩; omega)]
/-- a number is kept -/
def kept (D : DM) (k : Bs) (x : Nat) : DM := if x = 0 then dl D k else pt D k (big8 x)
end Go.Proofs.YtcaihncnmjegoaaGreatDoor

/-! Plain facts: balances behind a posting. -/
namespace Go.Proofs.YtcaihncnmjegoaaGreatDoor
open Go.RowKit Go.WideMaps Go.Maps
set_option linter.unusedVariables false
set_option linter.unusedSimpArgs false
set_option maxRecDepth 100000
theorem wrap_back (z : Int) (h : Acct.inInt z) : wrap64 ((toU z : Nat) : Int) = z := by
  obtain ⟨h1, h2⟩ := h
  have h1' : (-9223372036854775808 : Int) ≤ z := h1
  have h2' : z ≤ (9223372036854775807 : Int) := h2
  unfold wrap64 toU
  omega
end Go.Proofs.YtcaihncnmjegoaaGreatDoor

/-! The walks of the laws' two and posts. -/
namespace Go.Proofs.YtcaihncnmjegoaaGreatDoor
open Go.RowKit Go.WideMaps Go.Maps
set_option linter.unusedVariables false
set_option linter.unusedSimpArgs false
set_option maxRecDepth 100000
/-- a store of the journal without bounds -/
structure JnlS (w : World) (p b1 b2 n : Nat) (D D2 : DM) : Prop where
  mem : MemS w p b1 b2 (-1) n D D2
  isM : IsMap D
  wf : WFJ D
  last : lastN D < 100000
theorem JnlS.below {w w' : World} {p b1 b2 n : Nat} {D D2 : DM} (h : JnlS w p b1 b2 n D D2) (hb : Below w.heap.size w w') : JnlS w' p b1 b2 n D D2 := ⟨h.mem.below hb, h.isM, h.wf, h.last⟩
abbrev use1 : ByteArray := ⟨#[117, 115, 101, 47, 49]⟩
abbrev free1 : ByteArray := ⟨#[102, 114, 101, 101, 47, 49]⟩
abbrev due1 : ByteArray := ⟨#[100, 117, 101, 47, 49]⟩
abbrev L1 : List Pt := [⟨use1, 5⟩, ⟨free1, -5⟩]
abbrev L2 : List Pt := [⟨use1, 5⟩, ⟨due1, -5⟩]
end Go.Proofs.YtcaihncnmjegoaaGreatDoor

/-! The laws' acts in memory; the walk of great. -/
namespace Go.Proofs.YtcaihncnmjegoaaGreatDoor
open Go.RowKit Go.WideMaps Go.Maps
set_option linter.unusedVariables false
set_option linter.unusedSimpArgs false
set_option maxRecDepth 100000
/-- a law's act: a posting -/
structure Ac where
  (t : Int) (ten : Int) (pv : Value) (ps : List Pt)
def Ac.cells (a : Ac) : List Value := [.int .i64 a.t, .int .u32 a.ten, a.pv]
def Ac.ok (w : World) (a : Ac) : Prop := RowsIn w a.pv 2 (a.ps.map Pt.cells) ∧ (0 ≤ a.ten ∧ a.ten ≤ 4294967295) ∧ Acct.inInt a.t ∧ ∀ q ∈ a.ps, Acct.inInt q.n
/-- no more than a law looks at -/
def Ac.small (a : Ac) : Prop := a.ps.length ≤ 40 ∧ ∀ q ∈ a.ps, q.a.size ≤ 100
theorem Ac.ok.below {w w' : World} {a : Ac} (h : a.ok w) (hb : Below w.heap.size w w') : a.ok w' := ⟨h.1.below hb, h.2⟩
def GreatEnd (L : List Ac) (w : World) (e : Ending) (w' : World) : Prop := ∃ b, e = .returned (.bool b) ∧ (b = false → L.length ≤ 60 ∧ ∀ a ∈ L, a.small) ∧ w = w'
theorem GreatEnd.mk {L : List Ac} {w w' : World} {e : Ending} (b : Bool) (he : e = .returned (.bool b)) (h : b = false → L.length ≤ 60 ∧ ∀ a ∈ L, a.small) (hw : w = w') : GreatEnd L w e w' := ⟨b, he, h, hw⟩
end Go.Proofs.YtcaihncnmjegoaaGreatDoor

/-! Plain facts: many postings. -/
namespace Go.Proofs.YtcaihncnmjegoaaGreatDoor
open Go.RowKit Go.WideMaps Go.Maps
set_option linter.unusedVariables false
set_option linter.unusedSimpArgs false
set_option maxRecDepth 100000
/-- what holds of a store of the journal -/
structure Jn (D : DM) (c : Nat) : Prop where
  isM : IsMap D
  wf : WFJ D
  last : lastN D = c
end Go.Proofs.YtcaihncnmjegoaaGreatDoor

/-! The walk of the laws' made. (Printed by gen_jnv.py.) -/
namespace Go.Proofs.YtcaihncnmjegoaaGreatDoor
open Go.RowKit Go.WideMaps Go.Maps
set_option linter.unusedVariables false
set_option linter.unusedSimpArgs false
set_option maxRecDepth 100000
theorem Turned.owns {b base n size : Nat} {e : TypeId} {w w' : World} {v : Value} {xs : List Value} (h : Turned b w w') (ho : w.ownsRow base e size v n xs) : w'.ownsRow base e size v n xs := by
  obtain ⟨hl, ⟨rfl, h1⟩ | ⟨g, cap, cur, rfl, h2, h3, h4⟩⟩ := ho
  · exact ⟨hl, .inl ⟨rfl, h1⟩⟩
  · exact ⟨hl, .inr ⟨g, cap, cur, rfl, h2, h.block h3, h4⟩⟩
end Go.Proofs.YtcaihncnmjegoaaGreatDoor

/-! Lemmas of memory for the laws of postings: rows of parts as the source of an append, a store beside another one. -/
namespace Go.Proofs.YtcaihncnmjegoaaGreatDoor
open Go.RowKit Go.WideMaps Go.Maps
set_option linter.unusedVariables false
set_option linter.unusedSimpArgs false
set_option maxRecDepth 100000
theorem jflat_get {α : Type} (size : Nat) : ∀ (rows : List (List α)), (∀ r ∈ rows, r.length = size) → ∀ (i j : Nat), i < rows.length → j < size → rows.flatten[i * size + j]? = (rows.getD i [])[j]?
  | [], _, i, j, hi, _ => by simp at hi
  | r :: rows, h, 0, j, _, hj => by
    have := h r (by simp)
    rw [List.flatten_cons, Nat.zero_mul, Nat.zero_add, List.getElem?_append_left (by omega)]
    rfl
  | r :: rows, h, i + 1, j, hi, hj => by
    have h1 := h r (by simp)
    rw [List.flatten_cons, List.getElem?_append_right (by rw [h1, Nat.add_mul]; omega), h1, show (i + 1) * size + j - size = i * size + j by rw [Nat.add_mul]; omega, jflat_get size rows (fun x hx => h x (List.mem_cons_of_mem _ hx)) i j (by simpa using hi) hj]
    rfl
/-- a row of one's own reads as rows -/
theorem jrows_own {w : World} {base : Nat} {e : TypeId} {size : Nat} {v : Value} {rows : List (List Value)} (hs : ∀ r ∈ rows, r.length = size) (h : w.ownsRow base e size v rows.length rows.flatten) : RowsIn w v size rows := by
  obtain ⟨hl, h0 | ⟨g, cap, cur, h1, h2, h3, h4, h5, h6, h7⟩⟩ := h
  · obtain ⟨rfl, hn⟩ := h0
    exact ⟨none, 0, by rw [hn], by omega, Nat.zero_le _, fun i hi => by omega⟩
  · subst h1
    refine ⟨_, cap, rfl, h4, h5, fun i hi => ⟨g, 0, rfl, lt_of_block h3, fun j hj => ?_⟩⟩
    rw [Nat.zero_add, cell_of_row h3, ← jflat_get size rows hs i j hi hj, ← h7]
    rw [List.getElem?_take_of_lt ?_]
    · simp
    · have h8 : (i + 1) * size ≤ rows.length * size := Nat.mul_le_mul_right _ hi
      rw [Nat.add_mul] at h8
      omega
theorem pts_len (M : List Pt) : (M.map Pt.cells).flatten.length = M.length * 2 := by
  induction M with
  | nil => rfl
  | cons x r ih => rw [List.map_cons, List.flatten_cons, List.length_append, ih]; simp [Pt.cells]; omega
theorem jown_form {w : World} {base : Nat} {e : TypeId} {size n : Nat} {v : Value} {xs : List Value} (h : w.ownsRow base e size v n xs) : ∃ a c, v = .slice a n c := by
  obtain ⟨_, ⟨h1, h2⟩ | ⟨g, cap, cur, h1, _⟩⟩ := h
  · exact ⟨none, 0, by rw [h1, h2]⟩
  · exact ⟨_, _, h1⟩
/-- another store's map turns: this one stays -/
theorem MemS.turned {w w' : World} {b p b1 b2 n : Nat} {room : Int} {D D2 : DM} (h : MemS w p b1 b2 room n D D2) (ht : Turned b w w') (h1 : b1 ≠ b) (h2 : b2 ≠ b) : MemS w' p b1 b2 room n D D2 :=
  ⟨ht.block h.box, ht.other h.now h1, ht.other h.was h2, h.ne⟩
theorem MemS.lt1 {w : World} {p b1 b2 n : Nat} {room : Int} {D D2 : DM} (h : MemS w p b1 b2 room n D D2) : b1 < w.heap.size := h.now.lt
theorem MemS.lt2 {w : World} {p b1 b2 n : Nat} {room : Int} {D D2 : DM} (h : MemS w p b1 b2 room n D D2) : b2 < w.heap.size := h.was.lt
end Go.Proofs.YtcaihncnmjegoaaGreatDoor

/-! The shelf's contracts at this seat's dump, as the kit's tools lay them in plain words; only those that this seat's proofs use. -/
namespace Go.Proofs
open Go.Shelf
def Tryz.lays190_ren : Go.Shelf.Ren := ⟨fun | 190 => 144 | 125 => 36 | 258 => 145 | 128 => 62 | 129 => 63 | 302 => 146 | 303 => 147 | 304 => 148 | 305 => 149 | 306 => 150 | 307 => 151 | 308 => 152 | 309 => 153 | 310 => 154 | 333 => 155 | 329 => 83 | 330 => 84 | 334 => 156 | 335 => 157 | 336 => 158 | 344 => 159 | n => n, fun | 31 => 132 | 9 => 9 | 3 => 3 | 46 => 91 | 0 => 0 | 51 => 22 | 53 => 64 | 4 => 4 | 183 => 116 | 182 => 115 | 131 => 120 | 5 => 5 | 218 => 147 | 222 => 150 | 228 => 164 | 229 => 165 | n => n, fun | n => n⟩
theorem Tryz.lays190 : Go.Proofs.Lays.n190 Tryz.prog Tryz.lays190_ren := {
  mixed := by kernel_rfl
  f125 := Tryz.func36.trans (congrArg some (by kernel_rfl))
  f128 := Tryz.func62.trans (congrArg some (by kernel_rfl))
  f129 := Tryz.func63.trans (congrArg some (by kernel_rfl))
  f190 := Tryz.func144.trans (congrArg some (by kernel_rfl))
  f258 := Tryz.func145.trans (congrArg some (by kernel_rfl))
  f302 := Tryz.func146.trans (congrArg some (by kernel_rfl))
  f303 := Tryz.func147.trans (congrArg some (by kernel_rfl))
  f304 := Tryz.func148.trans (congrArg some (by kernel_rfl))
  f305 := Tryz.func149.trans (congrArg some (by kernel_rfl))
  f306 := Tryz.func150.trans (congrArg some (by kernel_rfl))
  f307 := Tryz.func151.trans (congrArg some (by kernel_rfl))
  f308 := Tryz.func152.trans (congrArg some (by kernel_rfl))
  f309 := Tryz.func153.trans (congrArg some (by kernel_rfl))
  f310 := Tryz.func154.trans (congrArg some (by kernel_rfl))
  f329 := Tryz.func83.trans (congrArg some (by kernel_rfl))
  f330 := Tryz.func84.trans (congrArg some (by kernel_rfl))
  f333 := Tryz.func155.trans (congrArg some (by kernel_rfl))
  f334 := Tryz.func156.trans (congrArg some (by kernel_rfl))
  f335 := Tryz.func157.trans (congrArg some (by kernel_rfl))
  f336 := Tryz.func158.trans (congrArg some (by kernel_rfl))
  f344 := Tryz.func159.trans (congrArg some (by kernel_rfl))
  t0 := Tryz.underlying0
  a0 := Tryz.isAgg0
  z0 := Tryz.sizeOf0
  v0 := Tryz.zeroValue0
  t3 := Tryz.underlying3
  a3 := Tryz.isAgg3
  z3 := Tryz.sizeOf3
  v3 := Tryz.zeroValue3
  t4 := Tryz.underlying4
  a4 := Tryz.isAgg4
  z4 := Tryz.sizeOf4
  v4 := Tryz.zeroValue4
  t5 := Tryz.underlying5
  a5 := Tryz.isAgg5
  z5 := Tryz.sizeOf5
  v5 := Tryz.zeroValue5
  t9 := Tryz.underlying9
  a9 := Tryz.isAgg9
  z9 := Tryz.sizeOf9
  v9 := Tryz.zeroValue9
  t31 := Tryz.underlying132
  a31 := Tryz.isAgg132
  z31 := Tryz.sizeOf132
  v31 := Tryz.zeroValue132
  t46 := Tryz.underlying91
  a46 := Tryz.isAgg91
  z46 := Tryz.sizeOf91
  v46 := Tryz.zeroValue91
  t51 := Tryz.underlying22
  a51 := Tryz.isAgg22
  z51 := Tryz.sizeOf22
  v51 := Tryz.zeroValue22
  t53 := Tryz.underlying64
  a53 := Tryz.isAgg64
  z53 := Tryz.sizeOf64
  v53 := Tryz.zeroValue64
  t131 := Tryz.underlying120
  a131 := Tryz.isAgg120
  z131 := Tryz.sizeOf120
  v131 := Tryz.zeroValue120
  t182 := Tryz.underlying115
  a182 := Tryz.isAgg115
  z182 := Tryz.sizeOf115
  v182 := Tryz.zeroValue115
  t183 := Tryz.underlying116
  a183 := Tryz.isAgg116
  z183 := Tryz.sizeOf116
  v183 := Tryz.zeroValue116
  t218 := Tryz.underlying147
  a218 := Tryz.isAgg147
  z218 := Tryz.sizeOf147
  v218 := Tryz.zeroValue147
  t222 := Tryz.underlying150
  a222 := Tryz.isAgg150
  z222 := Tryz.sizeOf150
  v222 := Tryz.zeroValue150
  t228 := Tryz.underlying164
  a228 := Tryz.isAgg164
  z228 := Tryz.sizeOf164
  v228 := Tryz.zeroValue164
  t229 := Tryz.underlying165
  a229 := Tryz.isAgg165
  z229 := Tryz.sizeOf165
  v229 := Tryz.zeroValue165 }
open Go.Sort Go.RowKit in
theorem Tryz.slices_Sort_string (blk off cap : Nat) (ss : List (List UInt8)) (w : World) (hH : Holds encStr w blk off ss.toArray) (hblk : blk < w.heap.size) (hsz : ss.length < 4611686018427387904) :
    Calls Tryz.prog 144 #[.slice (some ⟨blk, off, none⟩) ss.length cap] w fun e w' =>
      e = .returned (.tuple #[]) ∧ ∃ n os, w' = grow (putRow encStr (Sort.ahead w n) blk off (ss.mergeSort fun x y => decide (x ≤ y)).toArray) os := Any.slices_Sort_string Tryz.lays190 blk off cap ss w hH hblk hsz
open Go.RowKit Go.Sort in
theorem Tryz.slices_Sort_string_none (p : Option Addr) (cap : Nat) (w : World) :
    Calls Tryz.prog 144 #[.slice p 0 cap] w fun e w' => e = .returned (.tuple #[]) ∧ w' = w := Any.slices_Sort_string_none Tryz.lays190 p cap w
def Tryz.laysnb116_ren : Go.Shelf.Ren := ⟨fun | 116 => 41 | 115 => 66 | n => n, fun | 37 => 62 | 4 => 4 | 3 => 3 | 9 => 9 | 5 => 5 | n => n, fun | n => n⟩
theorem Tryz.laysnb116 : Go.Proofs.Lays.nb116 Tryz.prog Tryz.laysnb116_ren := {
  mixed := by kernel_rfl
  f115 := Tryz.func66.trans (congrArg some (by kernel_rfl))
  f116 := Tryz.func41.trans (congrArg some (by kernel_rfl))
  t3 := Tryz.underlying3
  a3 := Tryz.isAgg3
  z3 := Tryz.sizeOf3
  v3 := Tryz.zeroValue3
  t4 := Tryz.underlying4
  a4 := Tryz.isAgg4
  z4 := Tryz.sizeOf4
  v4 := Tryz.zeroValue4
  t9 := Tryz.underlying9
  a9 := Tryz.isAgg9
  z9 := Tryz.sizeOf9
  v9 := Tryz.zeroValue9
  t37 := Tryz.underlying62
  a37 := Tryz.isAgg62
  z37 := Tryz.sizeOf62
  v37 := Tryz.zeroValue62
  t5 := Tryz.underlying5
  a5 := Tryz.isAgg5
  z5 := Tryz.sizeOf5
  v5 := Tryz.zeroValue5 }
theorem Tryz.bytes_HasPrefix_all (p1 p2 : Option Addr) (n c m d : Nat) (xs ys : List Int) (w : World) (hx : xs.length = n) (hy : ys.length = m) (hnc : n ≤ c) (h1 : Lib.BytesIn w p1 n xs) (h2 : Lib.BytesIn w p2 m ys) :
    Calls Tryz.prog 41 #[.slice p1 n c, .slice p2 m d] w fun e w' => e = .returned (.bool (Lib.hasPrefix (Lib.bytesOf xs) (Lib.bytesOf ys))) ∧ w' = w := Any.bytes_HasPrefix_all Tryz.laysnb116 p1 p2 n c m d xs ys w hx hy hnc h1 h2
end Go.Proofs

