/- The walk of journal.Balance; plain facts of Post. -/
import Derived.Test.YtecbnhmnhcpcmaaGreatDoorJnL
namespace Go.Proofs.YtecbnhmnhcpcmaaGreatDoor
open Go.RowKit Go.WideMaps Go.Maps
set_option linter.unusedVariables false
set_option linter.unusedSimpArgs false
set_option maxRecDepth 100000
def balK (s : ByteArray) : Bs := 98 :: s.data.toList
/-- what Balance answers -/
noncomputable def balV (D : DM) (s : ByteArray) : Int × Int := if accB s = true then (wrap64 (numAt D (balK s)).1, (numAt D (balK s)).2) else (0, 1)
theorem balK_len (s : ByteArray) (hs : s.size ≤ 100000) : (balK s).length ≤ 1000000 := by
  unfold balK
  rw [List.length_cons, Array.length_toList]
  have : s.data.size = s.size := rfl
  omega
set_option maxHeartbeats 2000000 in
theorem bal_any {p b1 b2 n : Nat} {room : Int} {D D2 : DM} (s : ByteArray) (w : World) (hE : EnvA w) (hM : MemS w p b1 b2 room n D D2) (hs : s.size ≤ 100000) : Calls Tryz.prog 13 #[memI p, .string s] w fun e w' => e = .returned (.tuple #[.int .i64 (balV D s).1, .int .i64 (balV D s).2]) ∧ Below w.heap.size w w' := by
  have HM := Lib.hid hM
  have PX := Lib.hid (aparseB s w hE hs)
  clear hM hE
  go_enter Tryz.func13, Tryz.ntmps13
  go_wp2_with fail
  refine PX.out.mono ?_
  rintro e w1 ⟨x, nv, rfl, hb⟩
  have B1 := Lib.hid hb
  clear hb PX
  cases hB : accB s
  · have HV : Hid (balV D s = (0, 1)) := if_neg (by rw [hB]; decide)
    clear hB
    go_wp2_with fail
    go_ret2
    exact ⟨by rw [HV.out]; rfl, B1.out⟩
  · have HV : Hid (balV D s = (wrap64 (numAt D (balK s)).1, (numAt D (balK s)).2)) := if_pos hB
    clear hB
    go_wp2_with fail
    refine (jkey_any s w1 (by omega)).mono ?_
    rintro e w2 ⟨v2, rfl, hK, hb⟩
    have B2 := Lib.hid (onward hb B1.out)
    have NX := Lib.hid (kvnum_any w2 (HM.out.below (onward hb B1.out)) v2 (balK s) hK (balK_len s hs))
    clear hK hb
    go_wp2_with fail
    refine NX.out.mono ?_
    rintro e w3 ⟨rfl, hb⟩
    have B3 := Lib.hid (onward hb B2.out)
    clear hb NX
    go_wp2_with fail
    go_ret2
    exact ⟨by rw [HV.out]; rfl, B3.out⟩
/-! different accounts -/
theorem addKey_len : ∀ (xs acc : List Lit), (xs.foldl addKey acc).length ≤ acc.length + xs.length
  | [], acc => by simp
  | x :: r, acc => by
    rw [List.foldl_cons]
    have h1 := addKey_len r (addKey acc x)
    have h2 : (addKey acc x).length ≤ acc.length + 1 := by unfold addKey; split <;> simp
    rw [List.length_cons]
    omega
theorem addKey_nodup : ∀ (xs acc : List Lit), (xs.foldl addKey acc).length = acc.length + xs.length → (∀ x ∈ xs, WideAt.IsKeyLit x) → xs.Pairwise (fun a b => a ≠ b) ∧ ∀ x ∈ xs, ∀ y ∈ acc, y ≠ x
  | [], acc, _, _ => ⟨List.Pairwise.nil, fun x hx => by cases hx⟩
  | x :: r, acc, h, hk => by
    rw [List.foldl_cons, List.length_cons] at h
    have h1 := addKey_len r (addKey acc x)
    have hx := hk x (by simp)
    have hn : ¬ acc.any (fun y => y.sameKey x) = true := fun ha => by
      have : addKey acc x = acc := if_pos ha
      rw [this] at h1 h
      omega
    have e : addKey acc x = acc ++ [x] := if_neg hn
    rw [e] at h
    have h3 := addKey_nodup r (acc ++ [x]) (by rw [h]; simp; omega) (fun y hy => hk y (by simp [hy]))
    have hna : ∀ y ∈ acc, y ≠ x := fun y hy he => by
      subst he
      exact hn (List.any_eq_true.2 ⟨y, hy, WideAt.sameKey_self hx⟩)
    refine ⟨List.Pairwise.cons (fun y hy he => ?_) h3.1, fun z hz => ?_⟩
    · subst he
      exact h3.2 x hy x (by simp) rfl
    · rcases List.mem_cons.1 hz with rfl | hz
      · exact hna
      · exact fun y hy => h3.2 z hz y (by simp [hy])
theorem apart_pw {L : List Pt} (h : apartB L = true) : (L.map keyP).Pairwise (fun a b => a ≠ b) := by
  unfold apartB at h
  have h1 := of_decide_eq_true h
  exact (addKey_nodup (L.map keyP) [] (by rw [h1]; simp) (fun x hx => by obtain ⟨p, -, rfl⟩ := List.mem_map.1 hx; trivial)).1
/-- a map of what each part says -/
def putAll (f : Pt → DM) (L : List Pt) : DM := L.foldl (fun m q => m.put (keyP q) (f q)) (.map [])
theorem putAll_snoc (f : Pt → DM) (L : List Pt) (p : Pt) : putAll f (L ++ [p]) = (putAll f L).put (keyP p) (f p) := by unfold putAll; rw [List.foldl_append]; rfl
theorem fold_is (f : Pt → DM) : ∀ (L : List Pt) (M : DM), IsMap M → IsMap (L.foldl (fun m q => m.put (keyP q) (f q)) M)
  | [], M, h => h
  | x :: r, M, h => fold_is f r _ (h.put _ _)
theorem fold_miss (f : Pt → DM) (k : Lit) (z : DM) : ∀ (L : List Pt) (M : DM), (∀ q ∈ L, k ≠ keyP q) → (L.foldl (fun m q => m.put (keyP q) (f q)) M).atKey k z = M.atKey k z
  | [], M, _ => rfl
  | x :: r, M, h => by
    rw [List.foldl_cons, fold_miss f k z r _ (fun q hq => h q (by simp [hq])), atKey_put_other (h x (by simp))]
theorem fold_hit (f : Pt → DM) (z : DM) : ∀ (L : List Pt) (M : DM), IsMap M → (L.map keyP).Pairwise (fun a b => a ≠ b) → ∀ p ∈ L, (L.foldl (fun m q => m.put (keyP q) (f q)) M).atKey (keyP p) z = f p
  | x :: r, M, hM, hp, p, hm => by
    rw [List.map_cons, List.pairwise_cons] at hp
    rw [List.foldl_cons]
    rcases List.mem_cons.1 hm with rfl | hm
    · rw [fold_miss f _ z r _ (fun q hq => hp.1 _ (List.mem_map_of_mem hq)), atKey_put_same hM (by trivial)]
    · exact fold_hit f z r _ (hM.put _ _) hp.2 p hm
theorem putAll_hit (f : Pt → DM) (z : DM) (L : List Pt) (h : apartB L = true) (p : Pt) (hp : p ∈ L) : (putAll f L).atKey (keyP p) z = f p := fold_hit f z L _ isMap_empty (apart_pw h) p hp
end Go.Proofs.YtecbnhmnhcpcmaaGreatDoor
