/- The walks of acct.Parse and acct.Units. -/
import Derived.Test.YtcaihncnmjegoaaGreatDoorPkPacksAl6
import Derived.Laws.AppendOwn
import Derived.Laws.OwnMore
import Derived.WalkLawsBesides
/-! The walks of acct.Parse and acct.Units. -/
namespace Go.Proofs.YtcaihncnmjegoaaGreatDoor
open Go.RowKit Go.Shelf Acct
set_option linter.unusedVariables false
set_option linter.unusedSimpArgs false
/-- what lies in memory: the table, two errors, a number -/
structure EnvA (w : World) : Prop where
  pow : Pow w
  maxl : ∃ m, w.cell? ⟨5, 0, none⟩ = some (.int .i64 m)
  syn : ∃ t p, w.cell? ⟨1, 0, none⟩ = some (.iface t p)
  ran : ∃ t p, w.cell? ⟨2, 0, none⟩ = some (.iface t p)
theorem EnvA.below {w w' : World} (h : EnvA w) (hb : Below w.heap.size w w') : EnvA w' := by
  obtain ⟨h1, ⟨m, h2⟩, ⟨t, p, h3⟩, ⟨t', p', h4⟩⟩ := h
  exact ⟨pow_below h1 hb, ⟨m, stays hb h2⟩, ⟨t, p, stays hb h3⟩, ⟨t', p', stays hb h4⟩⟩
/-- strconv.ParseInt, at whatever string: a number and no error, or an error. -/
theorem pint_any (s : ByteArray) (w : World) (hE : EnvA w) (hs : s.size ≤ 281474976710656) : Calls Tryz.prog 75 #[.string s, .int .i64 10, .int .i64 64] w fun e w' => ∃ v ev, e = .returned (.tuple #[.int .i64 v, ev]) ∧ Below w.heap.size w w' ∧
    ((ev = .nilIface ∧ Lib.parseIntB 64 s.data.toList = .ok v) ∨ ∃ t p, ev = .iface t p ∧ ∀ u, Lib.parseIntB 64 s.data.toList ≠ .ok u) := by
  obtain ⟨t1, p1, h1⟩ := hE.syn
  obtain ⟨t2, p2, h2⟩ := hE.ran
  cases ha : Lib.parseIntB 64 s.data.toList
  · rename_i v
    refine (Tryz.strconv_ParseInt_10_at64_ok s (by omega) v ha w).mono ?_
    rintro e w' ⟨he, hw⟩
    refine ⟨v, _, he, ?_, .inl ⟨rfl, rfl⟩⟩
    rcases hw with rfl | ⟨t, rfl⟩
    · exact Below.refl _ _
    · exact Lib.bytesWorld_below w _ _
  · refine (Any.strconv_ParseInt_10_at64_syntax Tryz.laysC174 s hs ha _ w h1 (.inr ⟨_, _, rfl⟩)).mono ?_
    rintro e w' ⟨N, he, _, _, hb⟩
    exact ⟨_, _, he, hb, .inr ⟨_, _, rfl, fun u h => by cases h⟩⟩
  · refine (Any.strconv_ParseInt_10_at64_range Tryz.laysC174 s hs ha _ w h2 (.inr ⟨_, _, rfl⟩)).mono ?_
    rintro e w' ⟨N, he, _, _, hb⟩
    exact ⟨_, _, he, hb, .inr ⟨_, _, rfl, fun u h => by cases h⟩⟩
theorem splitK_len : ∀ (n : Nat) (s : List UInt8), s.length ≤ n → (Lib.splitK [47] 0 (Lib.count s [47]) s).length = Lib.count s [47] + 1
  | n, s, hn => by
    by_cases h : Lib.index s [47] = -1
    · rw [Lib.count_miss h]; rfl
    · have hg := Lib.index_ge s [47]
      obtain ⟨i, hi⟩ : ∃ i : Nat, Lib.index s [47] = i := ⟨(Lib.index s [47]).toNat, by omega⟩
      have hm : ¬ (Lib.index s [47] == -1) = true := fun e => h (beq_iff_eq.1 e)
      have hs := Lib.drop_shorter (s := s) (sub := [47]) (by simp) hm
      rw [Lib.count_hit (by simp) hi, Nat.add_comm, Lib.splitK, if_neg hm, List.length_cons]
      have e : (Lib.index s [47]).toNat = i := by omega
      rw [e] at hs ⊢
      cases n with
      | zero => omega
      | succ n => rw [splitK_len n _ (by omega)]
theorem splitK_le (m : Nat) : ∀ (k : Nat) (s : List UInt8), s.length ≤ m → ∀ p ∈ Lib.splitK [47] 0 k s, p.length ≤ m
  | 0, s, h, p, hp => by simp [Lib.splitK] at hp; subst hp; exact h
  | k + 1, s, h, p, hp => by
    rw [Lib.splitK] at hp
    split at hp
    · simp at hp; subst hp; exact h
    · rcases List.mem_cons.1 hp with e | e
      · subst e; rw [List.length_take]; omega
      · exact splitK_le m k _ (by rw [List.length_drop]; omega) p e
theorem split_at (name : ByteArray) (w : World) (hE : EnvA w) (hs : name.size ≤ 1000000) : Calls Tryz.prog 74 #[.string name, .string ⟨#[47]⟩] w fun e w' =>
    ∃ (p0 : ByteArray) (rest : List ByteArray), e = .returned (.slice (some ⟨w.heap.size, 0, none⟩) (rest.length + 1) (rest.length + 1)) ∧ Lib.split name.data.toList [47] = p0.data.toList :: rest.map (·.data.toList) ∧ rest.length ≤ name.size + 1 ∧ (∀ p ∈ p0 :: rest, p.size ≤ name.size) ∧ w' = w.alloc (.cells ((p0 :: rest).map Value.string).toArray 9) := by
  obtain ⟨m, hm⟩ := hE.maxl
  refine (Tryz.strings_Split name ⟨#[47]⟩ m w (by omega) hm (by decide)).mono ?_
  rintro e w' ⟨rfl, rfl⟩
  have h1 := splitB_one name
  have h2 := splitK_len _ name.data.toList (Nat.le_refl _)
  have h3 : (Lib.splitB ⟨#[47]⟩ 0 (Lib.countB name ⟨#[47]⟩) name).length = Lib.countB name ⟨#[47]⟩ + 1 := by
    have := congrArg List.length h1
    rw [List.length_map] at this
    exact this.trans h2
  have h4 : Lib.countB name ⟨#[47]⟩ ≤ name.size + 1 := by
    have := Lib.count_le name.data.toList [47]
    rw [size_list] at this
    exact this
  have h5 : ∀ p ∈ Lib.splitB ⟨#[47]⟩ 0 (Lib.countB name ⟨#[47]⟩) name, p.size ≤ name.size := fun p hp => by
    have h6 : p.data.toList ∈ Lib.split name.data.toList [47] := by rw [← h1]; exact List.mem_map_of_mem hp
    have := splitK_le name.data.toList.length _ _ (Nat.le_refl _) _ h6
    rw [size_list, size_list] at this
    exact this
  generalize Lib.splitB ⟨#[47]⟩ 0 (Lib.countB name ⟨#[47]⟩) name = segs at *
  generalize Lib.countB name ⟨#[47]⟩ = c at *
  cases segs with
  | nil => simp at h3
  | cons p0 rest =>
    simp only [List.length_cons] at h3
    exact ⟨p0, rest, by rw [h3], h1.symm, by omega, h5, rfl⟩
def AParseEnd (name : ByteArray) (w : World) (e : Ending) (w' : World) : Prop :=
  Below w.heap.size w w' ∧ ((∃ wd ns nv, Named name.data.toList wd ns ∧ IntsAt w' nv ns ∧ e = .returned (.tuple #[.string ⟨wd.toArray⟩, nv, .bool true])) ∨
    ((∀ wd ns, ¬ Named name.data.toList wd ns) ∧ e = .returned (.tuple #[.string ⟨#[]⟩, .slice none 0 0, .bool false])))
theorem IntsAt.of_own {w : World} {base : Nat} {v : Value} {ns : List Int} (h : w.ownsRow base 2 1 v ns.length (ns.map (Value.int .i64))) : IntsAt w v ns := by
  have h0 := h
  obtain ⟨hl, ⟨rfl, h1⟩ | ⟨g, cap, cur, rfl, h2, h3⟩⟩ := h
  · exact ⟨none, 0, by rw [h1], fun i hi => by omega⟩
  · refine ⟨_, cap, rfl, fun i hi => ⟨g, 0, rfl, ?_⟩⟩
    have := h0.cellAt i (by omega)
    rw [Nat.zero_add, this, List.getElem?_map, List.getElem?_eq_getElem hi, getD_at _ _ _ hi]
    rfl
theorem infoI : (Tryz.prog.info? 2).map (fun i => (i.zero, i.size, i.bytes)) = some (some (.int .i64 0), 1, 8) := by kernel_rfl
theorem one1 (k : IntKind) (x : Int) : ∀ u : Value, u ∈ [Value.int k x] → u.oneCell' = true := by
  intro u hu
  simp only [List.mem_cons, List.not_mem_nil, or_false] at hu
  subst hu; rfl
theorem ret3s {a b : ByteArray} {v : Value} {c : Bool} (h : a = b) : Ending.returned (.tuple #[.string a, v, .bool c]) = .returned (.tuple #[.string b, v, .bool c]) := by rw [h]
theorem mkL (b : ByteArray) : b = ⟨b.data.toList.toArray⟩ := by simp
/-- what the pieces tell -/
theorem not_named_none {l p0 : List UInt8} {rs : List (List UInt8)} (h : Lib.split l [47] = p0 :: rs) (hn : numsL rs = none) : ∀ wd ns, ¬ Named l wd ns := fun wd ns hN => by
  have := hN.split
  rw [h] at this
  simp only [List.cons.injEq] at this
  rw [this.2, numsL_itoa ns hN.2.2] at hn
  cases hn
theorem not_named_other {l p0 : List UInt8} {rs : List (List UInt8)} {done : List Int} (h : Lib.split l [47] = p0 :: rs) (hn : numsL rs = some done) (hne : nameL p0 done ≠ l) : ∀ wd ns, ¬ Named l wd ns := fun wd ns hN => by
  have := hN.split
  rw [h] at this
  simp only [List.cons.injEq] at this
  rw [this.2, numsL_itoa ns hN.2.2] at hn
  injection hn with hn
  subst hn
  rw [this.1] at hne
  exact hne hN.1
theorem not_named_empty : ∀ wd ns, ¬ Named [] wd ns := fun wd ns hN => hN.2.1 rfl
theorem ba_ext {a b : ByteArray} (h : a.data.toList = b.data.toList) : a = b := ByteArray.ext (Array.toList_inj.1 h)
theorem nameB_list (p : ByteArray) (ns : List Int) : (nameB p ns).data.toList = nameL p.data.toList ns := by unfold nameB; simp
theorem nil_ints (w : World) : IntsAt w (.slice none 0 0) [] := ⟨none, 0, rfl, fun i hi => by simp at hi⟩
theorem name_nil (p : ByteArray) (w : World) (hP : Pow w) (hs : p.size ≤ 1000000) : Calls Tryz.prog 20 #[.string p, .slice none 0 0] w fun e w' => e = .returned (.string (nameB p [])) ∧ Below w.heap.size w w' :=
  name_any p _ [] w hP (nil_ints w) (fun n hn => by cases hn) (by simp) hs
set_option maxHeartbeats 2000000 in
set_option maxRecDepth 1000000 in
theorem aparse_any (name : ByteArray) (w : World) (hE : EnvA w) (hs : name.size ≤ 100000) : Calls Tryz.prog 47 #[.string name] w (AParseEnd name w) := by
  have HE := Lib.hid hE
  clear hE
  obtain ⟨i0, hi, hz0, hz1, hz2⟩ := info_parts infoI
  go_enter Tryz.func47, Tryz.ntmps47
  go_wp2_with fail
  refine (split_at name w HE.out (by omega)).mono ?_
  rintro e w1 ⟨p0, rest, rfl, hsp, hlen, hsz, rfl⟩
  have HS := Lib.hid hsp
  have HZ := Lib.hid hsz
  clear hsp hsz
  rcases rest with _ | ⟨p1, rest⟩
  · go_wp2_with fail
    have HC : Hid ((w.alloc (.cells #[Value.string p0] 9)).cell? ⟨w.heap.size, 0, none⟩ = some (.string p0)) := by
      show _ = _
      rw [World.cell?_alloc_new]
      rfl
    have B1 := Lib.hid (below_alloc w (.cells #[Value.string p0] 9))
    generalize w.alloc (.cells #[Value.string p0] 9) = W1 at *
    go_loopw [6, 16] (fun nv i wr => nv = .slice none 0 0 ∧ i = .int .i64 0 ∧ wr = W1) (fun _ _ _ => 0)
    case atStart => exact ⟨rfl, rfl, rfl⟩
    case round =>
      obtain ⟨rfl, rfl, rfl⟩ := hrel
      have c0 := HC.out
      have hb0 := World.block_lt_of_cell? _ _ c0
      have HQ : Hid (numsL (([] : List ByteArray).map (·.data.toList)) = some []) := rfl
      by_cases hem : name.data.toList = []
      · have hem2 : name.toList.isEmpty = true := by rw [baIsEmpty, hem]; rfl
        have HX : Hid (∀ wd ns, ¬ Named name.data.toList wd ns) := by rw [hem]; exact not_named_empty
        clear hem HQ HC HS
        go_wp2_with fail
        go_ret3
        exact ⟨B1.out, .inr ⟨HX.out, rfl⟩⟩
      · have hem2 : name.toList.isEmpty = false := by rw [baIsEmpty]; simpa using hem
        have HE0 := Lib.hid hem
        clear hem HC
        go_wp2_with fail
        refine (name_nil p0 _ (HE.out.below B1.out).pow (by have := HZ.out p0 List.mem_cons_self; omega)).mono ?_
        rintro e w2 ⟨rfl, hb⟩
        have c1 := stays hb c0
        have B2 := Lib.hid (onward hb B1.out)
        clear hb c0 hb0
        by_cases heq : nameL p0.data.toList [] = name.data.toList
        · have HQ2 : Hid (nameB p0 [] = name) := ba_ext ((nameB_list _ _).trans heq)
          have HNN : Hid (Named name.data.toList p0.data.toList []) := ⟨heq, HE0.out, fun n hn => by cases hn⟩
          rw [HQ2.out]
          have I2 := Lib.hid (nil_ints w2)
          clear heq HQ2 HQ HS HE0
          go_wp2_with fail
          go_ret3
          exact ⟨B2.out, .inl ⟨_, _, _, HNN.out, I2.out, ret3s (mkL p0)⟩⟩
        · have hne : (((nameB p0 []).toList == name.toList)) = false := toList_ne fun e => heq (by rw [← nameB_list, e])
          have HX : Hid (∀ wd ns, ¬ Named name.data.toList wd ns) := not_named_other HS.out HQ.out heq
          clear heq HQ HS HE0
          go_wp2_with fail
          go_ret3
          exact ⟨B2.out, .inr ⟨HX.out, rfl⟩⟩
  · simp only [List.length_cons] at hlen
    go_wp2_with fail
    have HC : Hid (∀ i, i < rest.length + 2 → (w.alloc (.cells (Value.string p0 :: Value.string p1 :: List.map Value.string rest).toArray 9)).cell? ⟨w.heap.size, i, none⟩ = some (.string ((p0 :: p1 :: rest).getD i ⟨#[]⟩))) := fun i hi => by
      rw [World.cell?_alloc_new]
      have hi' : i < (p0 :: p1 :: rest).length := by simpa using hi
      have : ((p0 :: p1 :: rest).map Value.string)[i]? = some (Value.string ((p0 :: p1 :: rest).getD i ⟨#[]⟩)) := by
        rw [List.getElem?_map, List.getElem?_eq_getElem hi', getD_at _ _ _ hi']; rfl
      simpa using this
    have B1 := Lib.hid (below_alloc w (.cells (Value.string p0 :: Value.string p1 :: List.map Value.string rest).toArray 9))
    generalize w.alloc (.cells (Value.string p0 :: Value.string p1 :: List.map Value.string rest).toArray 9) = W1 at *
    go_loopw [6, 16] (fun nv i wr => ∃ (k : Nat) (done : List Int) (v : Value), k ≤ rest.length + 1 ∧ i = .int .i64 k ∧ v = nv ∧ done.length = k ∧ Hid (∀ n ∈ done, inInt n) ∧ Hid (numsL ((p1 :: rest).map (·.data.toList)) = (numsL (((p1 :: rest).map (·.data.toList)).drop k)).map (done ++ ·)) ∧ wr.ownsRow W1.heap.size 2 1 v done.length (done.map (Value.int .i64)) ∧ Below W1.heap.size W1 wr) (fun _ i _ => rest.length + 1 - (intOf i).toNat)
    case atStart => exact ⟨0, [], _, by omega, rfl, rfl, rfl, (fun n hn => by cases hn), (by show _ = _; rw [List.drop_zero]; cases numsL ((p1 :: rest).map (·.data.toList)) <;> simp), World.ownsRow_nil _ _ _ _, Below.refl _ _⟩
    case round =>
      obtain ⟨k, done, v, hk, rfl, rfl, hdk, HI, HN, hown, hbr⟩ := hrel
      have BR := Lib.hid hbr
      have HO := Lib.hid hown
      have HDK := Lib.hid hdk
      clear hbr hown hdk
      by_cases hlt : k < rest.length + 1
      · have h1 := stays BR.out (HC.out (1 + k) (by omega))
        rw [show 1 + k = k + 1 from by omega] at h1
        have hlt' : k < (p1 :: rest).length := by simpa using hlt
        have e1 : (p0 :: p1 :: rest).getD (k + 1) ⟨#[]⟩ = (p1 :: rest)[k] := by rw [List.getD_cons_succ, getD_at _ _ _ hlt']
        have hz : ((p1 :: rest)[k]).size ≤ name.size := HZ.out _ (List.mem_cons_of_mem _ (List.getElem_mem hlt'))
        have HD : Hid (((p1 :: rest).map (·.data.toList)).drop k = (p1 :: rest)[k].data.toList :: ((p1 :: rest).map (·.data.toList)).drop (k + 1)) := by
          unfold Hid
          rw [List.drop_eq_getElem_cons (by simpa using hlt'), List.getElem_map]
        rw [e1] at h1
        rw [show k + 1 = 1 + k from by omega] at h1
        generalize (p1 :: rest)[k] = s at *
        clear e1 hlt'
        go_wp2_with fail
        refine (pint_any s _ (HE.out.below (onward BR.out B1.out)) (by omega)).mono ?_
        rintro e w2 ⟨n, ev, rfl, hb, ⟨rfl, hok⟩ | ⟨t, p, rfl, hno⟩⟩
        · have B2 := Lib.hid (onward hb BR.out)
          have O2 := Lib.hid (ownsRow_below HO.out hb)
          have HOK := Lib.hid hok
          clear hb hok BR HO h1
          go_wp2_with (at_builtin; refine wpList_append_own _ rfl _ _ 85 rfl W1.heap.size 2 i0 _ 1 8 Tryz.underlying85 hi hz0 hz1 hz2 rfl (by decide) _ _ _ rfl (O2.out.alloc _) ⟨w2.heap.size, 0, none⟩ 1 1 [.int .i64 n] rfl rfl (new_cells _ _ _) (one1 _ _) (by have := HDK.out; unfold maxLen; omega) (by have := HDK.out; omega) (by have := B2.out.size; simp; omega) ?_)
          intro v' w3 hown3 hgrow3 _
          have B3 := Lib.hid (owned_below (O2.out.alloc _) (B2.out.alloc B2.out.size _) hgrow3)
          have O3 : Hid (w3.ownsRow W1.heap.size 2 1 v' (done ++ [n]).length ((done ++ [n]).map (Value.int .i64))) := by
            unfold Hid
            rw [List.map_append, List.length_append]
            exact hown3
          have HI' : Hid (∀ m ∈ done ++ [n], inInt m) := fun m hm => by
            rcases List.mem_append.1 hm with h | h
            · exact HI.out m h
            · simp at h; subst h; exact parseI_bd HOK.out
          have HN' : Hid (numsL ((p1 :: rest).map (·.data.toList)) = (numsL (((p1 :: rest).map (·.data.toList)).drop (k + 1))).map ((done ++ [n]) ++ ·)) := by
            unfold Hid
            rw [HN.out, HD.out, numsL, HOK.out]
            simp only
            cases numsL (((p1 :: rest).map (·.data.toList)).drop (k + 1)) <;> simp
          clear hown3 hgrow3 O2 B2 HOK HN HD HI
          go_wp2
          go_roundw
          case rel => exact ⟨k + 1, done ++ [n], _, by omega, by go_num, rfl, by have := HDK.out; simp; omega, HI', HN', O3.out, B3.out⟩
          case measure => simp [intOf]; omega
        · have B2 := Lib.hid (onward (onward hb BR.out) B1.out)
          have HX : Hid (∀ wd ns, ¬ Named name.data.toList wd ns) := by
            refine not_named_none HS.out ?_
            rw [HN.out, HD.out, numsL]
            cases hp : Lib.parseIntB 64 s.data.toList with
            | ok u => exact absurd hp (hno u)
            | _ => rfl
          clear hb hno BR HO h1 HN HD HI
          go_wp2
          go_ret3
          exact ⟨B2.out, .inr ⟨HX.out, rfl⟩⟩
      · obtain rfl : k = rest.length + 1 := by omega
        have HQ : Hid (numsL ((p1 :: rest).map (·.data.toList)) = some done) := by
          show _ = _
          have := HN.out
          rw [show rest.length + 1 = ((p1 :: rest).map (·.data.toList)).length from by simp, List.drop_length] at this
          rw [this]
          simp [numsL]
        clear HN
        have c0 := stays BR.out (HC.out 0 (by omega))
        rw [List.getD_cons_zero] at c0
        have hb0 := World.block_lt_of_cell? _ _ c0
        by_cases hem : name.data.toList = []
        · have hem2 : name.toList.isEmpty = true := by rw [baIsEmpty, hem]; rfl
          have HX : Hid (∀ wd ns, ¬ Named name.data.toList wd ns) := by rw [hem]; exact not_named_empty
          have B2 := Lib.hid (onward BR.out B1.out)
          clear hem HQ HC BR HO HI HS
          go_wp2_with fail
          go_ret3
          exact ⟨B2.out, .inr ⟨HX.out, rfl⟩⟩
        · have hem2 : name.toList.isEmpty = false := by rw [baIsEmpty]; simpa using hem
          have HE0 := Lib.hid hem
          clear hem HC
          go_wp2_with fail
          refine (name_any p0 v done _ (HE.out.below (onward BR.out B1.out)).pow (IntsAt.of_own HO.out) HI.out (by have := HDK.out; omega) (by have := HZ.out p0 List.mem_cons_self; omega)).mono ?_
          rintro e w2 ⟨rfl, hb⟩
          have c1 := stays hb c0
          have B2 := Lib.hid (onward (onward hb BR.out) B1.out)
          have O2 := Lib.hid (ownsRow_below HO.out hb)
          clear hb BR HO c0 hb0
          by_cases heq : nameL p0.data.toList done = name.data.toList
          · have HQ2 : Hid (nameB p0 done = name) := ba_ext ((nameB_list _ _).trans heq)
            have HNN : Hid (Named name.data.toList p0.data.toList done) := ⟨heq, HE0.out, HI.out⟩
            rw [HQ2.out]
            have I2 := Lib.hid (IntsAt.of_own O2.out)
            clear heq HQ2 HQ HI HS HE0
            go_wp2_with fail
            go_ret3
            exact ⟨B2.out, .inl ⟨_, _, _, HNN.out, I2.out, ret3s (mkL p0)⟩⟩
          · have hne : (((nameB p0 done).toList == name.toList)) = false := toList_ne fun e => heq (by rw [← nameB_list, e])
            have HX : Hid (∀ wd ns, ¬ Named name.data.toList wd ns) := not_named_other HS.out HQ.out heq
            clear heq HQ HI HS HE0
            go_wp2_with fail
            go_ret3
            exact ⟨B2.out, .inr ⟨HX.out, rfl⟩⟩
end Go.Proofs.YtcaihncnmjegoaaGreatDoor

