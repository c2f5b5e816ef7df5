/- The walks of the reference's Parse and Units. -/
import Derived.Test.YtecbnhmnhcpcmaaGreatDoorPkJournalPlays15
import Derived.Test.YtecbnhmnhcpcmaaGreatDoorPkJournalPlays16
/-! The walks of the reference's Parse and Units. -/
namespace Go.Proofs.YtecbnhmnhcpcmaaGreatDoor
open Go.RowKit Go.Shelf Acct
set_option linter.unusedVariables false
set_option linter.unusedSimpArgs false
theorem tw_app (a r : List UInt8) (h : (47 : UInt8) ∉ a) (hr : r = [] ∨ r.head? = some 47) : (a ++ r).takeWhile (· != 47) = a := by
  induction a with
  | nil =>
    rcases hr with rfl | hr
    · rfl
    · cases r with
      | nil => rfl
      | cons c r => simp at hr; subst hr; rfl
  | cons c a ih =>
    have h2 : (c != 47) = true := by rw [bne_iff_ne]; rintro rfl; exact h List.mem_cons_self
    simp only [List.cons_append, List.takeWhile_cons, h2, if_true]
    rw [ih fun hm => h (List.mem_cons_of_mem _ hm)]
theorem app_uniq {a b r s : List UInt8} (h : a ++ r = b ++ s) (ha : (47 : UInt8) ∉ a) (hb : (47 : UInt8) ∉ b) (hr : r = [] ∨ r.head? = some 47) (hs : s = [] ∨ s.head? = some 47) : a = b ∧ r = s := by
  have h1 := tw_app a r ha hr
  rw [h, tw_app b s hb hs] at h1
  subst h1
  exact ⟨rfl, List.append_cancel_left h⟩
theorem parts_head (ns : List Int) : partsL ns = [] ∨ (partsL ns).head? = some 47 := by
  cases ns with
  | nil => exact .inl rfl
  | cons n ns => exact .inr rfl
theorem scan_word {L : List UInt8} {e : Nat} (h1 : ∀ j, j < e → isL (L.getD j 0) = true) (he : e ≤ L.length) (h2 : e < L.length → isL (L.getD e 0) = false) : ∀ wd ns, Named L wd ns → wd = L.take e ∧ L.drop e = partsL ns := by
  intro wd ns hN
  obtain ⟨l1, l2, _⟩ := hN.is
  have la := letters_all l1
  have hlen : L.length = wd.length + (partsL ns).length := by rw [l2, List.length_append]
  have e1 : e = wd.length := by
    rcases Nat.lt_trichotomy e wd.length with h | h | h
    · have h3 := h2 (by omega)
      rw [l2, getD_at _ _ _ (by rw [List.length_append]; omega), List.getElem_append_left h, List.all_eq_true.1 la _ (List.getElem_mem h)] at h3
      cases h3
    · exact h
    · have h3 := h1 wd.length h
      rcases parts_head ns with h4 | h4
      · rw [h4] at hlen; simp at hlen; omega
      · cases hp : partsL ns with
        | nil => rw [hp] at h4; cases h4
        | cons c r =>
          rw [hp] at h4
          simp at h4
          subst h4
          rw [l2, hp, getD_at _ _ _ (by simp), List.getElem_append_right (Nat.le_refl _)] at h3
          simp at h3
          exact absurd h3 (by decide)
  subst e1
  exact ⟨by rw [l2, List.take_left], by rw [l2, List.drop_left]⟩
theorem seg_is {ns : List Int} {seg rest : List UInt8} (h : partsL ns = 47 :: (seg ++ rest)) (h1 : (47 : UInt8) ∉ seg) (h2 : rest = [] ∨ rest.head? = some 47) : ∃ n r, ns = n :: r ∧ seg = Lib.itoa n ∧ rest = partsL r := by
  cases ns with
  | nil => cases h
  | cons n r =>
    rw [partsL] at h
    simp only [List.cons.injEq, true_and] at h
    obtain ⟨h3, h4⟩ := app_uniq h (itoa_no n) h1 (parts_head r) h2
    exact ⟨n, r, rfl, h3.symm, h4.symm⟩
theorem not_in_take {L : List UInt8} {a j : Nat} (hj : j ≤ L.length) (h : ∀ i, a ≤ i → i < j → L.getD i 0 ≠ 47) : (47 : UInt8) ∉ (L.drop a).take (j - a) := by
  intro hm
  obtain ⟨i, hi, e⟩ := List.getElem_of_mem hm
  rw [List.length_take, List.length_drop] at hi
  rw [List.getElem_take, List.getElem_drop] at e
  have := h (a + i) (by omega) (by omega)
  rw [getD_at _ _ _ (by omega)] at this
  exact this e
theorem drop_split {L : List UInt8} {a j : Nat} (ha : a ≤ j) : L.drop a = (L.drop a).take (j - a) ++ L.drop j := by
  have h := List.take_append_drop (j - a) (L.drop a)
  rw [List.drop_drop, show a + (j - a) = j from by omega] at h
  exact h.symm
theorem drop_head {L : List UInt8} {j : Nat} (h : j = L.length ∨ (j < L.length ∧ L.getD j 0 = 47)) : L.drop j = [] ∨ (L.drop j).head? = some 47 := by
  rcases h with h | ⟨h1, h2⟩
  · exact .inl (List.drop_eq_nil_of_le (by omega))
  · right
    rw [List.drop_eq_getElem_cons h1]
    rw [getD_at _ _ _ h1] at h2
    simp [h2]
/-- what the scan has read: e letters, numbers done, k bytes -/
def ScanAt (L : List UInt8) (e k : Nat) (done : List Int) : Prop :=
  L.take k = L.take e ++ partsL done ∧ (∀ n ∈ done, inInt n) ∧ ∀ wd ns, Named L wd ns → wd = L.take e ∧ ∃ r, ns = done ++ r ∧ L.drop k = partsL r
theorem scan_bad {L : List UInt8} {e k : Nat} {done : List Int} (h : ScanAt L e k done) (hk : k < L.length) (hc : L.getD k 0 ≠ 47) : ∀ wd ns, ¬ Named L wd ns := by
  intro wd ns hN
  obtain ⟨_, r, _, hr⟩ := h.2.2 wd ns hN
  rw [getD_at _ _ _ hk] at hc
  rw [List.drop_eq_getElem_cons hk] at hr
  rcases parts_head r with h1 | h1
  · rw [h1] at hr; cases hr
  · rw [← hr] at h1; exact hc (Option.some.inj h1)
theorem scan_num {L : List UInt8} {e k j : Nat} {done : List Int} (h : ScanAt L e k done) (hk : k < L.length) (hc : L.getD k 0 = 47) (hj : k + 1 ≤ j) (hjl : j ≤ L.length) (hno : ∀ i, k + 1 ≤ i → i < j → L.getD i 0 ≠ 47) (hend : j = L.length ∨ (j < L.length ∧ L.getD j 0 = 47)) :
    ∀ wd ns, Named L wd ns → wd = L.take e ∧ ∃ n r, ns = done ++ n :: r ∧ (L.drop (k + 1)).take (j - (k + 1)) = Lib.itoa n ∧ L.drop j = partsL r := by
  intro wd ns hN
  obtain ⟨h1, r, h2, h3⟩ := h.2.2 wd ns hN
  rw [getD_at _ _ _ hk] at hc
  rw [List.drop_eq_getElem_cons hk, hc, drop_split hj] at h3
  obtain ⟨n, r', h4, h5, h6⟩ := seg_is h3.symm (not_in_take hjl hno) (drop_head hend)
  exact ⟨h1, n, r', by rw [h2, h4], h5, h6⟩
theorem scan_no {L : List UInt8} {e k j : Nat} {done : List Int} (h : ScanAt L e k done) (hk : k < L.length) (hc : L.getD k 0 = 47) (hj : k + 1 ≤ j) (hjl : j ≤ L.length) (hno : ∀ i, k + 1 ≤ i → i < j → L.getD i 0 ≠ 47) (hend : j = L.length ∨ (j < L.length ∧ L.getD j 0 = 47))
    (hx : ∀ m, inInt m → (L.drop (k + 1)).take (j - (k + 1)) ≠ Lib.itoa m) : ∀ wd ns, ¬ Named L wd ns := by
  intro wd ns hN
  obtain ⟨_, n, r, h1, h2, _⟩ := scan_num h hk hc hj hjl hno hend wd ns hN
  exact hx n (hN.2.2 n (by rw [h1]; simp)) h2
theorem scan_next {L : List UInt8} {e k j : Nat} {done : List Int} {n : Int} (h : ScanAt L e k done) (hk : k < L.length) (hc : L.getD k 0 = 47) (hj : k + 1 ≤ j) (hjl : j ≤ L.length) (hno : ∀ i, k + 1 ≤ i → i < j → L.getD i 0 ≠ 47) (hend : j = L.length ∨ (j < L.length ∧ L.getD j 0 = 47))
    (hn : inInt n) (hx : (L.drop (k + 1)).take (j - (k + 1)) = Lib.itoa n) : ScanAt L e j (done ++ [n]) := by
  refine ⟨?_, ?_, ?_⟩
  · rw [partsL_snoc, ← List.append_assoc, ← h.1, ← hx]
    rw [getD_at _ _ _ hk] at hc
    have e1 : L.take j = L.take k ++ (L.drop k).take (j - k) := by
      rw [← List.take_add]; congr 1; omega
    rw [e1, List.drop_eq_getElem_cons hk, hc, show j - k = (j - (k + 1)) + 1 from by omega, List.take_succ_cons]
  · intro m hm
    rcases List.mem_append.1 hm with h1 | h1
    · exact h.2.1 m h1
    · simp at h1; subst h1; exact hn
  · intro wd ns hN
    obtain ⟨h1, m, r, h2, h3, h4⟩ := scan_num h hk hc hj hjl hno hend wd ns hN
    have : n = m := itoa_inj hn (hN.2.2 m (by rw [h2]; simp)) (by rw [← hx, h3])
    subst this
    exact ⟨h1, r, by rw [h2]; simp, h4⟩
theorem scan_end {L : List UInt8} {e : Nat} {done : List Int} (h : ScanAt L e L.length done) (h0 : 1 ≤ e) (he : e ≤ L.length) (hl : L.length ≤ 32) (h1 : ∀ j, j < e → isL (L.getD j 0) = true) : Named L (L.take e) done := by
  have e1 := h.1
  rw [List.take_length] at e1
  have hw : lettersL (L.take e) = true := by
    unfold lettersL
    rw [Bool.and_eq_true, List.all_eq_true]
    constructor
    · cases hq : L.take e with
      | nil => have h9 : (L.take e).length = 0 := by rw [hq]; rfl
               rw [List.length_take] at h9; omega
      | cons c r => rfl
    · intro c hc
      obtain ⟨j, hj, rfl⟩ := List.getElem_of_mem hc
      rw [List.length_take] at hj
      rw [List.getElem_take]
      have := h1 j (by omega)
      rw [getD_at _ _ _ (by omega)] at this
      exact this
  have := named_of hw (ns := done) (by rw [← e1]; exact hl) h.2.1
  rw [← e1] at this
  exact this
theorem scan_zero {L : List UInt8} (h : 0 < L.length → isL (L.getD 0 0) = false) : ∀ wd ns, ¬ Named L wd ns := by
  intro wd ns hN
  have h1 := scan_word (L := L) (e := 0) (fun j hj => by omega) (Nat.zero_le _) h wd ns hN
  have h2 := hN.is.1
  rw [h1.1] at h2
  revert h2
  simp [lettersL]
set_option maxHeartbeats 4000000 in
set_option maxRecDepth 1000000 in
theorem rparse_any (name : ByteArray) (w : World) (hs : name.size ≤ 100000) : Calls Tryz.prog 12 #[.string name] w (AParseEnd name w) := by
  have hsl := size_list name
  obtain ⟨L, hL⟩ : ∃ L, name.data.toList = L := ⟨_, rfl⟩
  rw [hL] at hsl
  have HSL := Lib.hid hsl
  have hat : Hid (∀ k, (h : k < name.size) → L.getD k 0 = name[k]) := fun k h => by
    subst hL
    rw [getD_at _ _ _ (by rw [size_list]; exact h)]
    rfl
  have HL := Lib.hid hL
  clear hL hsl
  obtain ⟨i0, hi, hz0, hz1, hz2⟩ := info_parts infoI
  go_enter Tryz.func12, Tryz.ntmps12
  by_cases h32 : 32 < name.size
  · have HX : Hid (∀ wd ns, ¬ Named name.data.toList wd ns) := fun wd ns hN => by
      have := hN.is.2.2
      rw [size_list] at this
      omega
    go_wp2_with fail
    go_ret3
    exact ⟨Below.refl _ _, .inr ⟨HX.out, rfl⟩⟩
  · go_wp2_with fail
    go_loop [5] (fun i => ∃ k : Nat, k ≤ name.size ∧ i = .int .i64 k ∧ Hid (∀ j, j < k → isL (L.getD j 0) = true)) (fun i => name.size - (intOf i).toNat)
    case atStart => exact ⟨0, by omega, rfl, fun j hj => by omega⟩
    case round =>
      obtain ⟨e, he, rfl, HE⟩ := hrel
      have hstep : (e < name.size ∧ isL (L.getD e 0) = true) ∨ (Hid (e < name.size → isL (L.getD e 0) = false)) := by
        by_cases h : e < name.size
        · cases hc : isL (L.getD e 0)
          · exact .inr fun _ => rfl
          · exact .inl ⟨h, rfl⟩
        · exact .inr fun h' => absurd h' h
      rcases hstep with ⟨hlt, hc⟩ | HN
      · have HE' : Hid (∀ j, j < e + 1 → isL (L.getD j 0) = true) := fun j hj => by
          by_cases q : j = e
          · subst q; exact hc
          · exact HE.out j (by omega)
        rw [hat.out e hlt, isL_iff] at hc
        have f1 : decide ((97 : Int) ≤ ((name[e]).toNat : Int)) = true := decide_eq_true (by omega)
        have f2 : decide (((name[e]).toNat : Int) ≤ 122) = true := decide_eq_true (by omega)
        have f3 : decide (((name[e]).toNat : Int) < 97) = false := decide_eq_false (by omega)
        have f4 : decide ((122 : Int) < ((name[e]).toNat : Int)) = false := decide_eq_false (by omega)
        clear hc
        go_wp2
        go_round
        case rel => exact ⟨e + 1, by omega, by go_num, HE'⟩
        case measure => simp [intOf]; omega
      · have HW : Hid (∀ wd ns, Named L wd ns → wd = L.take e ∧ L.drop e = partsL ns) := scan_word HE.out (by have := HSL.out; omega) (fun h => HN.out (by have := HSL.out; omega))
        have HSW : Hid (ScanAt L e e []) := ⟨by simp [partsL], (fun n hn => by cases hn), fun wd ns h => ⟨(HW.out wd ns h).1, ns, rfl, (HW.out wd ns h).2⟩⟩
        have HX0 : Hid (e = 0 → ∀ wd ns, ¬ Named name.data.toList wd ns) := fun e0 => by
          rw [HL.out]
          subst e0
          exact scan_zero fun h => HN.out (by have := HSL.out; omega)
        have hcase : ¬ e < name.size ∨ (∃ h : e < name.size, decide ((97 : Int) ≤ ((name[e]).toNat : Int)) = false) ∨ (∃ h : e < name.size, decide ((97 : Int) ≤ ((name[e]).toNat : Int)) = true ∧ decide (((name[e]).toNat : Int) ≤ 122) = false) := by
          by_cases h : e < name.size
          · have h1 := HN.out h
            rw [hat.out e h] at h1
            have h2 : ¬ (97 ≤ (name[e]).toNat ∧ (name[e]).toNat ≤ 122) := fun h3 => by rw [(isL_iff _).2 h3] at h1; cases h1
            rcases Nat.lt_or_ge (name[e]).toNat 97 with h3 | h3
            · exact .inr (.inl ⟨h, decide_eq_false (by omega)⟩)
            · exact .inr (.inr ⟨h, decide_eq_true (by omega), decide_eq_false (by omega)⟩)
          · exact .inl h
        clear HN HW
        rcases hcase with hge | ⟨hlt, f1⟩ | ⟨hlt, f1, f2⟩
        all_goals
          by_cases he0 : e = 0
          · have HX := Lib.hid (HX0.out he0)
            have hz : (((e : Nat) : Int) == 0) = true := by rw [he0]; rfl
            clear he0
            go_wp2_with fail
            go_ret3
            exact ⟨Below.refl _ _, .inr ⟨HX.out, rfl⟩⟩
          · have hz : (((e : Nat) : Int) == 0) = false := by rw [beq_eq_false_iff_ne]; omega
            go_wp2_with fail
            go_loopw [6, 7] (fun nv i wr => ∃ (k : Nat) (done : List Int) (v : Value), k ≤ name.size ∧ i = .int .i64 k ∧ v = nv ∧ done.length ≤ k ∧ Hid (ScanAt L e k done) ∧ wr.ownsRow w.heap.size 2 1 v done.length (done.map (Value.int .i64)) ∧ Below w.heap.size w wr) (fun _ i _ => name.size - (intOf i).toNat)
            case atStart => exact ⟨e, [], _, by omega, rfl, rfl, by simp, HSW, World.ownsRow_nil _ _ _ _, Below.refl _ _⟩
            case round =>
              obtain ⟨k, done, v, hk, rfl, rfl, hdk, HS, hown, hbr⟩ := hrel
              have BR := Lib.hid hbr
              have HO := Lib.hid hown
              clear hbr hown
              by_cases hkl : k < name.size
              · by_cases hc : name[k] = 47
                · have g1 : (((name[k]).toNat : Int) == 47) = true := by rw [hc]; rfl
                  have g2 : (((name[k]).toNat : Int) != 47) = false := by rw [hc]; rfl
                  have HC47 : Hid (L.getD k 0 = 47) := by show _ = _; rw [hat.out k hkl, hc]
                  clear hc
                  go_wp2_with fail
                  go_loop [8] (fun i => ∃ j : Nat, k + 1 ≤ j ∧ j ≤ name.size ∧ i = .int .i64 j ∧ Hid (∀ q, k + 1 ≤ q → q < j → L.getD q 0 ≠ 47)) (fun i => name.size - (intOf i).toNat)
                  case atStart => exact ⟨k + 1, by omega, by omega, by go_num, fun q h1 h2 => by omega⟩
                  case round =>
                    obtain ⟨j, hj1, hj2, rfl, HJ⟩ := hrel
                    have hjc : (∃ h : j < name.size, ((((name[j]).toNat : Int) != 47) = true) ∧ Hid (L.getD j 0 ≠ 47)) ∨ ((¬ j < name.size ∨ ∃ h : j < name.size, ((((name[j]).toNat : Int) != 47) = false)) ∧ Hid (j = L.length ∨ (j < L.length ∧ L.getD j 0 = 47))) := by
                      by_cases h : j < name.size
                      · by_cases hq : name[j] = 47
                        · exact .inr ⟨.inr ⟨h, by rw [hq]; rfl⟩, .inr ⟨by have := HSL.out; omega, by rw [hat.out j h, hq]⟩⟩
                        · refine .inl ⟨h, ?_, ?_⟩
                          · rw [bne_iff_ne]; exact fun e => hq (UInt8.toNat_inj.1 (by show (name[j]).toNat = 47; omega))
                          · show _ ≠ _; rw [hat.out j h]; exact hq
                      · exact .inr ⟨.inl h, .inl (by have := HSL.out; omega)⟩
                    rcases hjc with ⟨hjl, j1, HN47⟩ | ⟨hjx, HEND⟩
                    · have HJ' : Hid (∀ q, k + 1 ≤ q → q < j + 1 → L.getD q 0 ≠ 47) := fun q h1 h2 => by
                        by_cases e : q = j
                        · subst e; exact HN47.out
                        · exact HJ.out q h1 (by omega)
                      go_wp2
                      go_round
                      case rel => exact ⟨j + 1, by omega, by omega, by go_num, HJ'⟩
                      case measure => simp [intOf]; omega
                    · have hkL : k < L.length := by have := HSL.out; omega
                      have hjL : j ≤ L.length := by have := HSL.out; omega
                      have HSEG : Hid ((name.extract (k + 1) j).data.toList = (L.drop (k + 1)).take (j - (k + 1))) := by show _ = _; rw [ext_mid, HL.out]
                      have hsz : (name.extract (k + 1) j).size ≤ 100000 := by rw [← size_list, HSEG.out, List.length_take, List.length_drop]; omega
                      rcases hjx with hjx | ⟨hjl, j1⟩
                      all_goals
                        go_wp2_with fail
                        refine (number_any _ _ hsz).mono ?_
                        rintro e1 w1 ⟨rfl, n, b, ⟨hin, ⟨rfl, hseg⟩ | ⟨rfl, hseg⟩⟩, rfl⟩
                        · rw [HSEG.out] at hseg
                          have HS' := Lib.hid (scan_next HS.out hkL HC47.out hj1 hjL HJ.out HEND.out hin hseg)
                          clear hseg HS HSEG hsz
                          go_wp2_with (at_builtin; refine wpList_append_own _ rfl _ _ 42 rfl w.heap.size 2 i0 _ 1 8 Tryz.underlying42 hi hz0 hz1 hz2 rfl (by decide) _ _ _ rfl (HO.out.alloc _) ⟨wr.heap.size, 0, none⟩ 1 1 [.int .i64 n] rfl rfl (new_cells _ _ _) (one1 _ _) (by unfold maxLen; omega) (by omega) (by have := BR.out.size; simp; omega) ?_)
                          intro v' w3 hown3 hgrow3 _
                          have B3 := Lib.hid (owned_below (HO.out.alloc _) (BR.out.alloc BR.out.size _) hgrow3)
                          have O3 : Hid (w3.ownsRow w.heap.size 2 1 v' (done ++ [n]).length ((done ++ [n]).map (Value.int .i64))) := by
                            unfold Hid
                            rw [List.map_append, List.length_append]
                            exact hown3
                          clear hown3 hgrow3 HO BR
                          go_wp2
                          go_roundw
                          case rel => exact ⟨j, done ++ [n], _, by omega, by go_num, rfl, by simp; omega, HS', O3.out, B3.out⟩
                          case measure => simp [intOf]; omega
                        · have HX : Hid (∀ wd ns, ¬ Named name.data.toList wd ns) := by
                            rw [HL.out]
                            refine scan_no HS.out hkL HC47.out hj1 hjL HJ.out HEND.out fun m hm e => ?_
                            rw [← HSEG.out] at e
                            exact hseg m hm e
                          clear hseg HS HSEG hsz
                          go_wp2
                          go_ret3
                          exact ⟨BR.out, .inr ⟨HX.out, rfl⟩⟩
                · have g2 : (((name[k]).toNat : Int) != 47) = true := by rw [bne_iff_ne]; exact fun e => hc (UInt8.toNat_inj.1 (by show (name[k]).toNat = 47; omega))
                  have HX : Hid (∀ wd ns, ¬ Named name.data.toList wd ns) := by
                    rw [HL.out]
                    exact scan_bad HS.out (by have := HSL.out; omega) (by rw [hat.out k hkl]; exact hc)
                  clear hc
                  go_wp2_with fail
                  go_ret3
                  exact ⟨BR.out, .inr ⟨HX.out, rfl⟩⟩
              · obtain rfl : k = name.size := by omega
                have HN : Hid (Named name.data.toList (L.take e) done) := by
                  have h1 := HS.out
                  rw [← HSL.out] at h1
                  rw [HL.out]
                  exact scan_end h1 (by omega) (by have := HSL.out; omega) (by have := HSL.out; omega) HE.out
                have HT : Hid (name.extract 0 e = ⟨(L.take e).toArray⟩) := ba_ext (by rw [ext_take, HL.out])
                have I2 := Lib.hid (IntsAt.of_own HO.out)
                clear HS HO
                go_wp2_with fail
                go_ret3
                exact ⟨BR.out, .inl ⟨_, _, _, HN.out, I2.out, ret3s HT.out⟩⟩
set_option maxHeartbeats 4000000 in
set_option maxRecDepth 1000000 in
theorem runits_any (name : ByteArray) (w : World) (hs : name.size ≤ 100000) : Calls Tryz.prog 47 #[.string name] w fun e w' => e = .returned (.bool (unitsB name.data.toList)) ∧ Below w.heap.size w w' := by
  go_enter Tryz.func47, Tryz.ntmps47
  go_wp2_with fail
  refine (rparse_any name w hs).mono ?_
  rintro e w1 ⟨hb, ⟨wd, ns, nv, hN, hI, rfl⟩ | ⟨hN, rfl⟩⟩
  · have HU := Lib.hid (units_of hN)
    have B1 := Lib.hid hb
    clear hb hN hI
    by_cases hm : wd ∈ unitWs
    · have HU2 : Hid (unitsB name.data.toList = true) := HU.out.trans (decide_eq_true hm)
      unfold unitWs at hm
      simp only [List.mem_cons, List.not_mem_nil, or_false] at hm
      clear HU
      rcases hm with rfl | rfl | rfl | rfl | rfl | rfl | rfl
      all_goals
        go_wp2_with fail
        go_ret
        exact ⟨ret_bool HU2.out.symm, B1.out⟩
    · have HU2 : Hid (unitsB name.data.toList = false) := HU.out.trans (decide_eq_false hm)
      unfold unitWs at hm
      simp only [List.mem_cons, List.not_mem_nil, or_false, not_or] at hm
      obtain ⟨m1, m2, m3, m4, m5, m6, m7⟩ := hm
      have l1 := beq_eq_false_iff_ne.2 m1
      have l2 := beq_eq_false_iff_ne.2 m2
      have l3 := beq_eq_false_iff_ne.2 m3
      have l4 := beq_eq_false_iff_ne.2 m4
      have l5 := beq_eq_false_iff_ne.2 m5
      have l6 := beq_eq_false_iff_ne.2 m6
      have l7 := beq_eq_false_iff_ne.2 m7
      clear HU m1 m2 m3 m4 m5 m6 m7
      go_wp2_with fail
      go_ret
      exact ⟨ret_bool HU2.out.symm, B1.out⟩
  · have HU := Lib.hid (units_no hN)
    have B1 := Lib.hid hb
    clear hb hN
    go_wp2_with fail
    go_ret
    exact ⟨ret_bool HU.out.symm, B1.out⟩
end Go.Proofs.YtecbnhmnhcpcmaaGreatDoor
