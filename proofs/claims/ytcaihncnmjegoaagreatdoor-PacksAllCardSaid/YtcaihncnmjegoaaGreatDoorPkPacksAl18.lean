/- The walk of the law PacksAll. (Printed by gen_pap.py.) -/
import Derived.Test.YtcaihncnmjegoaaGreatDoorPkPacksAl17
import Derived.Laws.AppendOwnNone
/-! The walk of the law PacksAll. (Printed by gen_pap.py.) -/
namespace Go.Proofs.YtcaihncnmjegoaaGreatDoor
open Go.RowKit Go.WideMaps Go.Maps
set_option linter.unusedVariables false
set_option linter.unusedSimpArgs false
set_option maxRecDepth 10000000
section
variable {P : Program} {ops : Array Oper} {Q : Exit → Act → World → Prop} {md : Region.Mode} {z : Nat} {C : World → Prop}
/-- as UpTo.take, of an operation for which the last one waits through another -/
theorem UpTo.take2 {i kk : Nat} {oi oz ok : Oper} {v : Value} (hi : ops[i]? = some oi) (hz : ops[z]? = some oz) (hk : ops[kk]? = some ok) (hwz : ∃ e ∈ oz.after, Region.binds md e = true ∧ e.on = kk) (hw : ∃ e ∈ ok.after, Region.binds md e = true ∧ e.on = i) (hs : Region.noSelect ops = true) (hQ : ∀ c a w, Q (.panic c) (a.put oi.dst v) w → Q (.panic c) a w) :
    ∀ (n : Nat) (L : Array Bool) (a : Act) (w : World), (∀ (j : Nat) (oj : Oper), ops[j]? = some oj → j ≠ i → L.getD j true = false → (∀ e ∈ oj.after, Region.binds md e = true → e.on ≠ i) → oi.apart ops oj = true) →
      i ∈ Region.ready md ops L → Ahead z L → L.getD kk true = false → YieldsIf P ops C oi v a → C w → UpTo P md ops Q z C n (L.setIfInBounds i true) (a.put oi.dst v) w → UpTo P md ops Q z C (n + 1) L a w := by
  intro n
  induction n with
  | zero =>
    intro L a w hfree hr hA hk0 hy hC H
    refine ⟨fun e => absurd (e ▸ hr) (by simp), fun j hj => ?_⟩
    rcases Nat.decEq j i with hne | rfl
    · have hj' := ready_mono hj hne
      rw [H.1] at hj'
      cases hj'
    · exact hy.wpOp hi hC ⟨fun _ => hC, H⟩
  | succ n ih =>
    intro L a w hfree hr hA hk0 hy hC H
    have hi0 := (mem_ready.1 hr).1
    have hzi : z ∉ Region.ready md ops L := waits_out hz hwz hk0
    have hki : kk ∉ Region.ready md ops L := waits_out hk hw hi0
    have hzne : z ≠ i := fun e => hzi (e ▸ hr)
    refine ⟨fun e => absurd (e ▸ hr) (by simp), fun j hj => ?_⟩
    rcases Nat.decEq j i with hne | rfl
    · obtain ⟨hj0, oj, hoj, -⟩ := mem_ready.1 hj
      have hzj : z ≠ j := fun e => hzi (e ▸ hj)
      have hkj : kk ≠ j := fun e => hki (e ▸ hj)
      have apart : oi.apart ops oj = true := hfree j oj hoj hne hj0 fun e he hb heq => waits_out hoj ⟨e, he, hb, heq⟩ hi0 hj
      have hA' : Ahead z ((L.setIfInBounds i true).setIfInBounds j true) := by
        unfold Ahead
        rw [getD_set_ne true (Ne.symm hzj), getD_set_ne true (Ne.symm hzne)]
        exact hA
      have hA2 : Ahead z (L.setIfInBounds j true) := by
        unfold Ahead
        rw [getD_set_ne true (Ne.symm hzj)]
        exact hA
      have step := wpOp_putIf hoj apart (fun cs b => Region.noSelect_spec hs i oi cs b hi) (fun cs b => Region.noSelect_spec hs j oj cs b hoj) hQ hy (H.2 j (ready_mono hj hne))
      refine wpOp_mono (fun b u k => ?_) step
      obtain ⟨ky, kc, kn⟩ := k
      have hc := kc hA'
      refine ⟨fun _ => hc, ih _ b u (fun m om hm hmi hm0 hmw => ?_) (ready_mono hr (Ne.symm hne)) hA2 (by rw [getD_set_ne true (Ne.symm hkj)]; exact hk0) ky hc ?_⟩
      · refine hfree m om hm hmi ?_ hmw
        rcases Nat.decEq j m with hjm | rfl
        · rw [getD_set_ne true hjm] at hm0; exact hm0
        · exact hj0
      · rw [Array.setIfInBounds_comm _ _ hne]
        exact kn
    · exact hy.wpOp hi hC ⟨fun _ => hC, H⟩
/-- does z wait for i, itself or through kk? -/
def waitsY (md : Region.Mode) (ops : Array Oper) (z kk i : Nat) (L : Array Bool) : Bool := waitsOk md ops z i || (waitsOk md ops z kk && waitsOk md ops kk i && (L.getD kk true == false))
def planY (md : Region.Mode) (ops : Array Oper) (z kk : Nat) : List Nat → Array Bool → Bool
  | [], _ => true
  | i :: r, L => Region.free md ops L i && (Region.ready md ops L).contains i && waitsY md ops z kk i L && (L.getD z true == false) && planY md ops z kk r (L.setIfInBounds i true)
def PlanY (P : Program) (md : Region.Mode) (ops : Array Oper) (Q : Exit → Act → World → Prop) (z kk : Nat) (C : World → Prop) (plan : List Nat) (fuel : Nat) (L : Array Bool) (a : Act) (w : World) : Prop :=
  Region.noSelect ops = true → planY md ops z kk plan L = true → C w → UpTo P md ops Q z C (fuel + plan.length) L a w
theorem PlanY.start {kk : Nat} {plan : List Nat} {fuel n : Nat} {L : Array Bool} {a : Act} {w : World} (hok : (Region.noSelect ops && planY md ops z kk plan L && decide (n = fuel + plan.length)) = true) (hC : C w) (h : PlanY P md ops Q z kk C plan fuel L a w) : UpTo P md ops Q z C n L a w := by
  rw [Bool.and_eq_true, Bool.and_eq_true, decide_eq_true_eq] at hok
  rw [hok.2]
  exact h hok.1.1 hok.1.2 hC
theorem PlanY.stop {kk fuel : Nat} {L : Array Bool} {a : Act} {w : World} (h : C w → UpTo P md ops Q z C fuel L a w) : PlanY P md ops Q z kk C [] fuel L a w := fun _ _ hC => h hC
theorem PlanY.yields {i kk : Nat} {oi : Oper} {v : Value} {plan : List Nat} {fuel : Nat} {L : Array Bool} {a : Act} {w : World} (hi : ops[i]? = some oi) (hy : YieldsIf P ops C oi v a) (hQ : ∀ c a w, Q (.panic c) (a.put oi.dst v) w → Q (.panic c) a w)
    (h : PlanY P md ops Q z kk C plan fuel (L.setIfInBounds i true) (a.put oi.dst v) w) : PlanY P md ops Q z kk C (i :: plan) fuel L a w := by
  intro hs hp hC
  simp only [planY, Bool.and_eq_true, beq_iff_eq] at hp
  obtain ⟨⟨⟨⟨h1, h2⟩, h3⟩, h4⟩, h5⟩ := hp
  unfold waitsY at h3
  rw [Bool.or_eq_true] at h3
  rcases h3 with h3 | h3
  · obtain ⟨oz, hz, hw⟩ := waits_spec h3
    exact UpTo.take hi hz hw hs hQ _ L a w (Region.free_spec hi h1) (by simpa using h2) h4 hy hC (h hs h5 hC)
  · simp only [Bool.and_eq_true, beq_iff_eq] at h3
    obtain ⟨⟨h6, h7⟩, h8⟩ := h3
    obtain ⟨oz, hz, hw⟩ := waits_spec h6
    obtain ⟨ok, hk, hwk⟩ := waits_spec h7
    exact UpTo.take2 hi hz hk hw hwk hs hQ _ L a w (Region.free_spec hi h1) (by simpa using h2) h4 h8 hy hC (h hs h5 hC)
theorem PlanY.free {i kk : Nat} {oi : Oper} {ds : Option Tmp} {v : Value} {plan : List Nat} {fuel : Nat} {L : Array Bool} {a : Act} {w : World} (hi : ops[i]? = some oi) (hds : oi.dst = ds) (hg : oi.guard = none) (hy : ∀ w, C w → (execOp a.eval oi).run P w = .ok (.value v) w) (hQ : ∀ c a w, Q (.panic c) (a.put ds v) w → Q (.panic c) a w)
    (h : PlanY P md ops Q z kk C plan fuel (L.setIfInBounds i true) (a.put ds v) w) : PlanY P md ops Q z kk C (i :: plan) fuel L a w := by
  subst hds
  exact PlanY.yields hi (.inl ⟨wanted_none hg, hy⟩) hQ h
end
/-- packs, of which some was drawn -/
def afterL : Int → List Lf → List Lf
  | _, [] => []
  | R, x :: l => if 0 < min R x.2.2 then (x.1, x.2.1, x.2.2 - min R x.2.2) :: afterL (R - min R x.2.2) l else x :: afterL R l
theorem after_len : ∀ (ls : List Lf) (R : Int), (afterL R ls).length = ls.length
  | [], R => rfl
  | x :: r, R => by
    unfold afterL
    split
    · rw [List.length_cons, List.length_cons, after_len r]
    · rw [List.length_cons, List.length_cons, after_len r]
theorem after_mem : ∀ (ls : List Lf) (R : Int), (∀ x ∈ ls, 0 ≤ x.2.2) → ∀ y ∈ afterL R ls, ∃ x ∈ ls, y.1 = x.1 ∧ 0 ≤ y.2.2 ∧ y.2.2 ≤ x.2.2
  | [], R, _, y, hy => by cases hy
  | x :: r, R, h, y, hy => by
    have h1 := h x List.mem_cons_self
    have h2 : ∀ y ∈ r, 0 ≤ y.2.2 := fun y hy => h y (List.mem_cons_of_mem _ hy)
    unfold afterL at hy
    split at hy
    · rcases List.mem_cons.1 hy with rfl | hy
      · exact ⟨x, List.mem_cons_self, rfl, by show 0 ≤ x.2.2 - min R x.2.2; omega, by show x.2.2 - min R x.2.2 ≤ x.2.2; omega⟩
      · obtain ⟨z, hz, hzz⟩ := after_mem r _ h2 y hy
        exact ⟨z, List.mem_cons_of_mem _ hz, hzz⟩
    · rcases List.mem_cons.1 hy with rfl | hy
      · exact ⟨y, List.mem_cons_self, rfl, h1, Int.le_refl _⟩
      · obtain ⟨z, hz, hzz⟩ := after_mem r _ h2 y hy
        exact ⟨z, List.mem_cons_of_mem _ hz, hzz⟩
theorem usumP_cons (x : Lf) (l : List Lf) : usumP (x :: l) = x.2.2 + usumP l := by simp [usumP]
theorem after_sum : ∀ (ls : List Lf) (R : Int), usumP (afterL R ls) = usumP ls - (R - drawR R ls)
  | [], R => by show (0 : Int) = 0 - (R - R); omega
  | x :: r, R => by
    unfold afterL drawR
    split
    · rw [usumP_cons, usumP_cons, after_sum r]
      show x.2.2 - min R x.2.2 + _ = _
      omega
    · rw [usumP_cons, usumP_cons, after_sum r]
      omega
theorem after_none (t : Int) : ∀ (ls : List Lf) (R : Int), drawL t R ls = [] → afterL R ls = ls
  | [], R, _ => rfl
  | x :: r, R, h => by
    unfold drawL at h
    unfold afterL
    by_cases hm : 0 < min R x.2.2
    · rw [if_pos hm] at h; cases h
    · rw [if_neg hm] at h ⊢
      rw [after_none t r R h]
theorem after_step : ∀ (ls : List Lf) (R : Int) (j : Nat), j < ls.length → (∀ i, i < j → ls[i]!.2.2 = 0) → 0 < ls[j]!.2.2 → 0 < R → afterL R ls = ls.take j ++ (ls[j]!.1, ls[j]!.2.1, ls[j]!.2.2 - min R ls[j]!.2.2) :: afterL (R - min R ls[j]!.2.2) (ls.drop (j + 1))
  | [], R, j, hj, _, _, _ => by simp at hj
  | x :: r, R, 0, _, _, hp, hR => by
    have hp' : 0 < x.2.2 := hp
    have e : afterL R (x :: r) = if 0 < min R x.2.2 then (x.1, x.2.1, x.2.2 - min R x.2.2) :: afterL (R - min R x.2.2) r else x :: afterL R r := rfl
    rw [e, if_pos (by omega)]
    rfl
  | x :: r, R, j + 1, hj, hz, hp, hR => by
    have h0 : x.2.2 = 0 := hz 0 (Nat.succ_pos _)
    have ih := after_step r R j (by simpa using hj) (fun i hi => hz (i + 1) (by omega)) hp hR
    have e : afterL R (x :: r) = if 0 < min R x.2.2 then (x.1, x.2.1, x.2.2 - min R x.2.2) :: afterL (R - min R x.2.2) r else x :: afterL R r := rfl
    rw [e, if_neg (by omega), ih]
    rfl
def sumN (l : List (ByteArray × Int)) : Int := (l.map fun p => -p.2).sum
theorem sumN_snoc (l : List (ByteArray × Int)) (x : ByteArray × Int) : sumN (l ++ [x]) = sumN l - x.2 := by simp [sumN]; omega
theorem draw_sum (t : Int) : ∀ (ls : List Lf) (R : Int), sumN (drawL t R ls) = R - drawR R ls
  | [], R => by show (0 : Int) = R - R; omega
  | x :: r, R => by
    unfold drawL drawR
    split
    · have e : ∀ (p : ByteArray × Int) (l : List (ByteArray × Int)), sumN (p :: l) = -p.2 + sumN l := fun p l => by simp [sumN]
      rw [e, draw_sum t r]
      show -(-(min R x.2.2)) + _ = _
      omega
    · exact draw_sum t r R
theorem draw_neg (t : Int) : ∀ (ls : List Lf) (R : Int), ∀ p ∈ drawL t R ls, p.2 < 0
  | [], R, p, hp => by cases hp
  | x :: r, R, p, hp => by
    unfold drawL at hp
    split at hp
    · rcases List.mem_cons.1 hp with rfl | hp
      · show -(min R x.2.2) < 0; omega
      · exact draw_neg t r _ p hp
    · exact draw_neg t r R p hp
theorem sumN_part : ∀ (l : List (ByteArray × Int)), (∀ p ∈ l, p.2 < 0) → ∀ i, 0 ≤ sumN (l.take i) ∧ sumN (l.take i) ≤ sumN l
  | [], _, i => by simp [sumN]
  | x :: r, h, 0 => by
    have e : sumN (x :: r) = -x.2 + sumN r := by simp [sumN]
    have h1 := h x List.mem_cons_self
    have h2 := sumN_part r (fun p hp => h p (List.mem_cons_of_mem _ hp)) 0
    rw [List.take_zero] at h2 ⊢
    have e0 : sumN [] = 0 := rfl
    rw [e]
    omega
  | x :: r, h, i + 1 => by
    have e : ∀ l, sumN (x :: l) = -x.2 + sumN l := fun l => by simp [sumN]
    have h1 := h x List.mem_cons_self
    have h2 := sumN_part r (fun p hp => h p (List.mem_cons_of_mem _ hp)) i
    rw [List.take_succ_cons, e, e]
    omega
theorem lefts_set2 : ∀ (L : List Lf) (i : Nat) (v : Int), i < L.length → leftsC (L.set i (L[i]!.1, L[i]!.2.1, v)) = (leftsC L).set (i * 3 + 2) (.int .i64 v)
  | [], i, v, h => by simp at h
  | y :: r, 0, v, _ => rfl
  | y :: r, i + 1, v, h => by
    have ih := lefts_set2 r i v (by simpa using h)
    have e : (y :: r)[i + 1]! = r[i]! := by simp
    rw [e]
    show leftC y ++ leftsC (r.set i (r[i]!.1, r[i]!.2.1, v)) = (leftC y ++ leftsC r).set ((i + 1) * 3 + 2) (.int .i64 v)
    rw [ih, show (i + 1) * 3 + 2 = 3 + (i * 3 + 2) from by omega, List.set_append_right _ _ (by exact Nat.le_add_right 3 _)]
    congr 2
    show i * 3 + 2 = 3 + (i * 3 + 2) - 3
    omega
theorem RowL.unit {w : World} {B g cap : Nat} {d : Array Lf} (h : RowL w B g cap d) {i : Nat} (hi : i < d.size) (v : Int) :
    RowL (w.setCell ⟨g, i * 3 + 2, none⟩ (.int .i64 v)) B g cap (d.setIfInBounds i (d[i]!.1, d[i]!.2.1, v)) ∧ w.grownBy (w.setCell ⟨g, i * 3 + 2, none⟩ (.int .i64 v)) (some g) := by
  obtain ⟨h1, g1⟩ := h.stored (i * 3 + 2) (.int .i64 v)
  refine ⟨?_, g1⟩
  unfold RowL
  have hl : i < d.toList.length := by simpa using hi
  have e : d.toList[i]! = d[i]! := by rw [getElem!_pos d i hi, getElem!_pos d.toList i hl]; simp
  have h2 := lefts_set2 d.toList i v hl
  rw [e] at h2
  rw [Array.size_setIfInBounds, Array.toList_setIfInBounds, h2]
  exact h1
theorem own_emptyL (w : World) : (w.alloc (.cells #[] 34)).ownsRow w.heap.size 34 3 (.slice (some ⟨w.heap.size, 0, none⟩) 0 0) 0 [] :=
  ⟨rfl, .inr ⟨w.heap.size, 0, #[], rfl, Nat.le_refl _, heap_alloc_new _ _, Nat.le_refl _, Nat.zero_le _, rfl, rfl⟩⟩
theorem lefts_src {w : World} {b o n c : Nat} {ls : List Lf} (h : LeftsAt w (.slice (some ⟨b, o, none⟩) n c) ls) : ∀ (j : Nat) (u : Value), (leftsC ls)[j]? = some u → w.cell? (Addr.add ⟨b, o, none⟩ j) = some u := by
  intro j u hu
  have hj : j < (leftsC ls).length := by
    rcases Nat.lt_or_ge j (leftsC ls).length with h | h
    · exact h
    · rw [List.getElem?_eq_none h] at hu; cases hu
  rw [lefts_length] at hj
  obtain ⟨a, c0, e, hc⟩ := h
  injection e with e1 e2 e3
  subst e1
  obtain ⟨b', o', e, h1, h2, h3⟩ := hc (j / 3) (by omega)
  injection e with e
  injection e with e1 e2 _
  subst e1 e2
  have hg := lefts_get ls (j / 3) (j % 3) (by omega) (by omega)
  have hj3 : j / 3 * 3 + j % 3 = j := by omega
  rw [hj3, hu] at hg
  have ea : Addr.add ⟨b, o, none⟩ j = ⟨b, o + j, none⟩ := by unfold Addr.add; split <;> simp_all
  have eg : ls.getD (j / 3) (0, 0, 0) = ls[j / 3]! := by rw [getD_at _ _ _ (by omega), getElem!_pos ls (j / 3) (by omega)]
  rw [eg] at h1 h2 h3
  rw [ea]
  have h4 : j % 3 = 0 ∨ j % 3 = 1 ∨ j % 3 = 2 := by omega
  rcases h4 with h | h | h
  · rw [h] at hg
    rw [show o + j = o + j / 3 * 3 from by omega, h1]
    exact hg.symm
  · rw [h] at hg
    rw [show o + j = o + j / 3 * 3 + 1 from by omega, h2]
    exact hg.symm
  · rw [h] at hg
    rw [show o + j = o + j / 3 * 3 + 2 from by omega, h3]
    exact hg.symm
theorem lefts_src2 {w : World} {la : Option Addr} {n c : Nat} {ls : List Lf} (h : LeftsAt w (.slice la n c) ls) (ad : Addr) (had : la = some ad) : ∀ (j : Nat) (u : Value), (leftsC ls)[j]? = some u → w.cell? (ad.add j) = some u := by
  intro j u hu
  by_cases h0 : ls.length = 0
  · obtain rfl : ls = [] := List.length_eq_zero_iff.1 h0
    simp [leftsC] at hu
  · have h1 := h
    obtain ⟨a, c0, e, hc⟩ := h1
    obtain ⟨b, o, e2, -⟩ := hc 0 (by omega)
    injection e with e1 _ _
    subst e1
    rw [had] at e2
    injection e2 with e2
    subst e2
    subst had
    exact lefts_src h j u hu
theorem leftsC_one (ls : List Lf) : ∀ u ∈ leftsC ls, u.oneCell' = true := by
  intro u hu
  unfold leftsC at hu
  obtain ⟨x, -, hx⟩ := List.mem_flatMap.1 hu
  simp only [leftC, List.mem_cons, List.not_mem_nil, or_false] at hx
  rcases hx with rfl | rfl | rfl <;> rfl
theorem wpList_append_optP {P : Program} {w : World} {ops : Array Oper} {rest : List Oper} {o : Oper} {a : Act} {Q : Exit → Act → World → Prop} (hgd : o.guard = none) (s x : Operand) (t : TypeId)
    (ho : o.op = .call { callee := .builtin .append, args := #[s, x], argTypes := #[t, t] })
    (base : Nat) (e : TypeId) (i : TypeInfo) (z : Value) (size bytes : Nat) (ht : P.underlying t = some (.slice e)) (hi : P.info? e = some i) (hz : i.zero = some z)
    (hsize : i.size = size) (hby : i.bytes = bytes) (hzs : z.cells.size = size) (hsz : 0 < size)
    (v : Value) (n : Nat) (xs : List Value) (hs : a.eval s = v) (hown : w.ownsRow base e size v n xs)
    (oa : Option Addr) (m c : Nat) (news : List Value) (hx : a.eval x = .slice oa m c) (hnone : oa = none → m = 0 ∧ c = 0) (hl : news.length = m * size) (hnews : ∀ ad, oa = some ad → ∀ j u, news[j]? = some u → w.cell? (ad.add j) = some u) (h1 : ∀ u ∈ news, u.oneCell' = true)
    (h63 : n + m ≤ maxLen) (hbytes : (n + m) * bytes ≤ 140737488355328) (hbase : base ≤ w.heap.size)
    (h : ∀ v' w', w'.ownsRow base e size v' (n + m) (xs ++ news) → w.grownBy w' v.ownBlock → wpList P ops Q rest (a.put o.dst v') w') : wpList P ops Q (o :: rest) a w := by
  cases oa with
  | some ad => exact wpList_append_own w hgd s x t ho base e i z size bytes ht hi hz hsize hby hzs hsz v n xs hs hown ad m c news hx hl (hnews ad rfl) h1 h63 hbytes hbase (fun v' w' h2 h3 _ => h v' w' h2 h3)
  | none =>
    obtain ⟨rfl, rfl⟩ := hnone rfl
    have hn : news = [] := List.eq_nil_of_length_eq_zero (by rw [hl]; omega)
    subst hn
    exact wpList_append_own_none hgd s x t ho base e i size ht hi v n xs hs hown hx (h v w (by simpa using hown) (World.grownBy.refl _ _))
set_option maxHeartbeats 8000000 in
theorem packsAll_any (u na nb : Int) (uv : Value) (us : List Int) (w : World) (hE : EnvA w) (hU : NumsAt .u32 w uv us) (hu : ∀ t ∈ us, 0 ≤ t ∧ t < 4294967296) (hl : us.length ≤ 9223372036854775807) (ht : 0 ≤ u ∧ u < 4294967296) (hna : 0 ≤ na ∧ na < 65536) (hnb : 0 ≤ nb ∧ nb < 65536) :
    Calls Tryz.prog 7 #[.int .u32 u, uv, .int .u16 na, .int .u16 nb] w fun e w' => e = .returned (.bool true) ∧ Below w.heap.size w w' := by
  have HE := Lib.hid hE
  obtain ⟨a, c, rfl⟩ := hU.formP
  by_cases h100 : us.length > 100
  · have hz : (us.length : Int) > 100 := by omega
    clear hE hU hu
    go_enter Tryz.func7, Tryz.ntmps7
    go_wp2_with fail
    go_ret
    exact ⟨rfl, Below.refl _ _⟩
  have hz : ¬ (us.length : Int) > 100 := by omega
  have hl100 : us.length ≤ 100 := by omega
  have LX := Lib.hid (leftsW_any _ us w hU hu hl100)
  have LM := Lib.hid (lfs_mem hu)
  have LI := Lib.hid (lfs_ids hl100)
  have LL : Hid ((lfs us).length ≤ 100) := by show _ ≤ _; rw [lfs_len]; exact hl100
  have HLL := Lib.hid (lfs_len us)
  clear hE hU hu h100
  generalize lfs us = ls at *
  have wa : IntKind.i64.wrap na = na := IntWalk.i64_in _ (by omega)
  have wb : IntKind.i64.wrap nb = nb := IntWalk.i64_in _ (by omega)
  have wab : IntKind.i64.wrap (na + nb) = na + nb := IntWalk.i64_in _ (by omega)
  obtain ⟨i0, hi, hz0, hz1, hz2⟩ := info_parts infoLeft
  go_enter Tryz.func7, Tryz.ntmps7
  go_wp2_with fail
  refine LX.out.mono ?_
  rintro e w1 ⟨v1, rfl, ho, hb⟩
  rw [← HLL.out] at ho
  have B1 := Lib.hid hb
  have L1 := Lib.hid (lefts_own ho rfl)
  obtain ⟨la, lc, hv1, -⟩ := L1.out
  subst hv1
  have LN : Hid (la = none → ls.length = 0 ∧ lc = 0) := fun h0 => by
    rcases Go.Joins.ownsRow_forms ho with ⟨h1, h2⟩ | ⟨g, cap, h1⟩
    · injection h1 with h1 _ h3
      exact ⟨h2, h3⟩
    · injection h1 with h1 _ h3
      rw [h0] at h1
      cases h1
  clear ho hb LX
  have NN : Hid (∀ x ∈ ls, 0 ≤ x.2.2) := fun x hx => (LM.out x hx).1
  have DX := Lib.hid (draw_any u na _ ls w1 (HE.out.below B1.out).pow L1.out ht LI.out ⟨by omega, by omega⟩ (by have := LL.out; omega))
  have hmx : max 0 na = na := by omega
  rw [hmx] at DX
  clear hmx
  go_wp2_with fail
  refine DX.out.mono ?_
  rintro e w2 ⟨pv, rfl, hb, ho⟩
  have B2 := Lib.hid (onward hb B1.out)
  have L2 := Lib.hid (L1.out.below hb)
  have R2 := Lib.hid (drawn_rows ho)
  obtain ⟨pa, pc, rfl⟩ := pt_form (drawn_rows ho)
  rw [List.length_map]
  clear ho hb DX L1
  have DLE := Lib.hid (draw_len u ls na)
  obtain ⟨dl, hdl⟩ : ∃ dl, dl = drawL u na ls := ⟨_, rfl⟩
  have HDL := Lib.hid hdl
  rw [← hdl] at R2 DLE ⊢
  obtain ⟨xr, hxr⟩ : ∃ xr, xr = drawR na ls := ⟨_, rfl⟩
  have HXR := Lib.hid hxr
  rw [← hxr]
  clear hdl hxr
  obtain ⟨w3, hw3⟩ : ∃ W, W = w2.alloc (.cells #[] 34) := ⟨_, rfl⟩
  have hb3 : Below w2.heap.size w2 w3 := by rw [hw3]; exact below_alloc _ _
  have O3 : Hid (w3.ownsRow w2.heap.size 34 3 (.slice (some ⟨w2.heap.size, 0, none⟩) 0 0) 0 []) := by rw [hw3]; exact own_emptyL w2
  have B3 := Lib.hid hb3
  clear hb3
  go_upto_region 5 with fail
  go_wp2_with (at_builtin; rw [← hw3]; refine wpList_append_optP rfl _ _ 24 rfl w2.heap.size 34 i0 _ 3 24 Tryz.underlying24 hi hz0 hz1 hz2 rfl (by decide) _ _ _ rfl O3.out la ls.length lc (leftsC ls) rfl LN.out (lefts_length ls) (fun ad had => lefts_src2 (L2.out.below B3.out) ad had) (leftsC_one ls) (by unfold maxLen; have := LL.out; omega) (by have := LL.out; omega) B3.out.size ?_)
  intro v4 w4 hown4 hgrow4
  rw [← hw3] at hgrow4
  have hg4 : Below w2.heap.size w2 w4 := B3.out.grown hgrow4 B3.out.size (fun k hk => (O3.out.lt k hk).1)
  obtain ⟨ra, rc, hv4, g, hgr⟩ : ∃ ra rc, v4 = .slice ra ls.length rc ∧ ∃ g, 0 < ls.length → ra = some ⟨g, 0, none⟩ := by
    rcases Go.Joins.ownsRow_forms hown4 with ⟨h1, h0⟩ | ⟨g, cap, h1⟩
    · exact ⟨none, 0, by rw [h1, h0], 0, fun h => by omega⟩
    · exact ⟨_, cap, h1, g, fun _ => rfl⟩
  subst hv4
  have O4 : Hid (w4.ownsRow w2.heap.size 34 3 (.slice ra ls.length rc) ls.length (leftsC ls.toArray.toList)) := hown4
  have B4 := Lib.hid hg4
  have HGR := Lib.hid hgr
  clear hown4 hgrow4 hg4 hgr O3 B3 hw3 hi hz0 hz1 hz2
  have HZ : Hid (dl.drop 0 = drawL u na (ls.drop 0)) := HDL.out
  go_wp2_with fail
  go_loopw [13, 14] (fun av iv wr => ∃ (i k p : Nat) (R : Int) (d : Array Lf), i ≤ dl.length ∧ k ≤ ls.length ∧ p ≤ k ∧ 0 ≤ R ∧ R ≤ na ∧ iv = .int .i64 i ∧ av = .int .i64 p ∧ Hid (dl.drop i = drawL u R (ls.drop k)) ∧ Hid (d.size = ls.length ∧ d.toList.drop k = ls.drop k ∧ afterL na ls = d.toList.take k ++ afterL R (ls.drop k) ∧ (i < dl.length → ∀ q, p ≤ q → q < k → d[q]!.2.2 = 0)) ∧ Hid (wr.ownsRow w2.heap.size 34 3 (.slice ra ls.length rc) ls.length (leftsC d.toList)) ∧ Hid (Below w2.heap.size w2 wr)) (fun _ iv _ => dl.length - (intOf iv).toNat)
  case atStart => exact ⟨0, 0, 0, na, ls.toArray, by omega, by omega, by omega, hna.1, by omega, rfl, rfl, HZ.out, ⟨rfl, rfl, rfl, fun _ q h1 h2 => by omega⟩, O4.out, B4.out⟩
  case round =>
    obtain ⟨i, k, p, R, d, hik, hk, hpk, hRp, hRm, rfl, rfl, HI, HD, OR, BR⟩ := hrel
    have hDL := DLE.out
    have hLL := LL.out
    by_cases hlt : i < dl.length
    · have hzz : (i : Int) < (dl.length : Int) := by omega
      have hd := List.drop_eq_getElem_cons hlt
      rw [HI.out] at hd
      obtain ⟨j, j1, j2, j3, j4, j5, j6, -, j8⟩ := draw_step u (ls.drop k) R (fun x hx => NN.out x (List.mem_of_mem_drop hx)) hRp _ _ hd
      have ha := after_step (ls.drop k) R j j1 j2 j3 j4
      rw [List.length_drop] at j1
      have hjj : ∀ q, q < ls.length - k → (ls.drop k)[q]! = ls[k + q]! := fun q hq => by
        rw [getElem!_pos _ q (by rw [List.length_drop]; exact hq), getElem!_pos _ (k + q) (by omega), List.getElem_drop]
      rw [hjj j j1] at j3 j5 j6 j8 ha
      obtain ⟨q0, hq0⟩ : ∃ q0, q0 = k + j := ⟨_, rfl⟩
      rw [← hq0] at j3 j5 j6 j8 ha
      obtain ⟨hds, hdd, hda, hdz⟩ := HD.out
      have hdl : ∀ q, k ≤ q → q < ls.length → d[q]! = ls[q]! := fun q h1 h2 => by
        have e1 : d.toList[q]? = ls[q]? := by
          have := congrArg (fun l => l[q - k]?) hdd
          simp only [List.getElem?_drop] at this
          rwa [show k + (q - k) = q from by omega] at this
        rw [getElem!_pos d q (by omega), getElem!_pos ls q h2]
        rw [List.getElem?_eq_getElem (by rw [Array.length_toList]; omega), List.getElem?_eq_getElem h2] at e1
        injection e1 with e1
      have hzero : Hid (∀ q, p ≤ q → q < q0 → d[q]!.2.2 = 0) := fun q h1 h2 => by
        by_cases hqk : q < k
        · exact hdz hlt q h1 hqk
        · rw [hdl q (by omega) (by omega)]
          have := j2 (q - k) (by omega)
          rwa [hjj (q - k) (by omega), show k + (q - k) = q from by omega] at this
      have hq0l : q0 < ls.length := by omega
      have hkq : k ≤ q0 := by omega
      have hra := HGR.out (by omega)
      subst hra
      have hxm := LM.out ls[q0]! (by rw [getElem!_pos ls q0 hq0l]; exact List.getElem_mem _)
      have hdx := hdl q0 hkq hq0l
      have hpt := pt_cells (R2.out.below (BR.out.mono (Nat.le_refl _))) i (by rw [List.length_map]; exact hlt)
      obtain ⟨pg, po, rfl, -, y1⟩ := hpt
      rw [List.getElem_map] at y1
      simp only at y1
      rw [j5] at y1
      simp only at y1
      have hpg : pg < w2.heap.size := by
        obtain ⟨a', c', e, -, -, hx⟩ := R2.out
        obtain ⟨b', o', e2, hb', -⟩ := hx i (by rw [List.length_map, List.length_map]; exact hlt)
        injection e with e _ _
        subst e
        injection e2 with e2
        injection e2 with e2 _ _
        rw [e2]
        exact hb'
      have HX8 := Lib.hid j8
      have HX6 := Lib.hid j6
      have HA := Lib.hid ha
      have HDA := Lib.hid hda
      have HDD := Lib.hid hdd
      have HDX := Lib.hid hdx
      have HQ0 := Lib.hid hq0
      generalize hxx : ls[q0]! = x at *
      have HXX := Lib.hid hxx
      obtain ⟨xi, xe, xu⟩ := x
      simp only at y1 j3 hxm
      have OR2 : Hid (RowL wr w2.heap.size g rc d) := by
        show wr.ownsRow _ _ _ (.slice _ d.size _) d.size _
        rw [hds]
        exact OR.out
      have hgl := OR2.out.lt
      have HDS := Lib.hid hds
      clear hd j2 j5 j6 j8 hjj ha hda hdx hdd hdz hdl hxx hq0 HD OR hds
      go_wp2_with fail
      go_loopw [13] (fun av wr' => ∃ q : Nat, p ≤ q ∧ q ≤ q0 ∧ av = .int .i64 q ∧ wr' = wr) (fun av _ => q0 - (intOf av).toNat)
      case atStart => exact ⟨p, Nat.le_refl _, by omega, rfl, rfl⟩
      case round =>
        obtain ⟨q, hq1, hq2, rfl, hwr⟩ := hrel
        have hwr' := hwr.symm
        subst hwr'
        clear hwr
        have hqz : (q : Int) < (ls.length : Int) := by omega
        have hdsz := HDS.out
        have hcq := (OR2.out.cells (i := q) (by omega)).2.2
        by_cases hqq : q < q0
        · rw [hzero.out q hq1 hqq] at hcq
          clear hdsz
          go_wp2_with fail
          go_roundw
          case rel => exact ⟨q + 1, by omega, by omega, by go_num, by trivial⟩
          case measure => simp [intOf]; omega
        · obtain rfl : q = q0 := by omega
          rw [HDX.out] at hcq
          simp only at hcq
          have hne0 : (xu == 0) = false := by rw [beq_eq_false_iff_ne]; omega
          have hwn : IntKind.i64.wrap (- -(min R xu)) = min R xu := by rw [Int.neg_neg]; exact IntWalk.i64_in _ (by omega)
          have hwn2 : IntKind.i64.wrap (min R xu) = min R xu := IntWalk.i64_in _ (by omega)
          have hgt : ¬ xu < min R xu := by omega
          have hge : ¬ (q : Int) ≥ (ls.length : Int) := by omega
          clear hdsz
          go_upto_region 12 with fail
          go_quiet (fail)
          have BQ := Lib.hid (World.below_drewN (Below.refl wr.heap.size wr) nq)
          obtain ⟨w5, hw5⟩ : ∃ W, W = wr.drewN nq := ⟨_, rfl⟩
          rw [← hw5] at BQ ⊢
          have B5 := Lib.hid (onward BQ.out BR.out)
          have O5 := Lib.hid (OR2.out.below BQ.out)
          have c5 := stays BQ.out hcq
          have y5 := stays BQ.out y1
          have hf5 := O5.out.frozenAt (q * 3 + 2)
          have hws : IntKind.i64.wrap (xu + -(min R xu)) = xu - min R xu := by rw [show xu + -(min R xu) = xu - min R xu from by omega]; exact IntWalk.i64_in _ (by omega)
          have HDS2 := HDS.out
          obtain ⟨o6', -⟩ := O5.out.unit (i := q) (by omega) (xu - min R xu)
          obtain ⟨WF, hWF⟩ : ∃ W, W = (w5.setCell ⟨g, q * 3 + 2, none⟩ (.int .i64 (xu - min R xu))).drew := ⟨_, rfl⟩
          have o6 : RowL WF w2.heap.size g rc (d.setIfInBounds q (d[q]!.1, d[q]!.2.1, xu - min R xu)) := by rw [hWF]; exact o6'
          have O6 := Lib.hid o6
          have B6 : Hid (Below w2.heap.size w2 WF) := by rw [hWF]; exact (B5.out.setCell (by show w2.heap.size ≤ g; have := OR2.out.lt; omega) _).drew
          obtain ⟨-, -, u6⟩ := o6.cells (i := q) (by rw [Array.size_setIfInBounds]; omega)
          rw [Sort.getElem!_set_same d q _ (by omega)] at u6
          simp only at u6
          have hdq : d[q]! = (xi, xe, xu) := HDX.out
          have IE : Hid (dl.drop (i + 1) = drawL u (R - min R xu) (ls.drop (q + 1))) := by
            have h6 := HX6.out
            rw [List.drop_drop, show k + (j + 1) = q + 1 from by have := HQ0.out; omega] at h6
            exact h6
          have HE2 : Hid ((d.setIfInBounds q (d[q]!.1, d[q]!.2.1, xu - min R xu)).size = ls.length ∧ (d.setIfInBounds q (d[q]!.1, d[q]!.2.1, xu - min R xu)).toList.drop (q + 1) = ls.drop (q + 1) ∧ afterL na ls = (d.setIfInBounds q (d[q]!.1, d[q]!.2.1, xu - min R xu)).toList.take (q + 1) ++ afterL (R - min R xu) (ls.drop (q + 1)) ∧ (i + 1 < dl.length → ∀ q', q ≤ q' → q' < q + 1 → (d.setIfInBounds q (d[q]!.1, d[q]!.2.1, xu - min R xu))[q']!.2.2 = 0)) := by
            have hq := HQ0.out
            have hdd := HDD.out
            have hdl : q < d.toList.length := by rw [Array.length_toList]; omega
            refine ⟨by rw [Array.size_setIfInBounds]; exact HDS2, ?_, ?_, fun hi1 q' h1 h2 => ?_⟩
            · rw [Array.toList_setIfInBounds, List.drop_set_of_lt (by omega)]
              have := congrArg (fun l => l.drop (q + 1 - k)) hdd
              simp only [List.drop_drop] at this
              rwa [show k + (q + 1 - k) = q + 1 from by omega] at this
            · have e1 : (d.toList.set q (d[q]!.1, d[q]!.2.1, xu - min R xu)).take (q + 1) = d.toList.take q ++ [(d[q]!.1, d[q]!.2.1, xu - min R xu)] := by
                rw [List.take_succ_eq_append_getElem (by rw [List.length_set]; exact hdl), List.getElem_set_self, List.take_set_of_le (Nat.le_refl _)]
              have e2 : d.toList.take q = d.toList.take k ++ (ls.drop k).take j := by
                rw [hq, List.take_add, hdd]
              rw [HDA.out, HA.out, List.drop_drop, show k + (j + 1) = q + 1 from by omega, Array.toList_setIfInBounds, e1, e2, hdq]
              simp
            · obtain rfl : q' = q := by omega
              rw [Sort.getElem!_set_same d q' _ (by omega)]
              show xu - min R xu = 0
              have := HX8.out (fun h => by
                have h2 := congrArg List.length h
                rw [List.length_drop] at h2
                have h3 : dl.length - (i + 1) = 0 := h2
                omega)
              omega
          have HLAST : Hid (xu - min R xu > 0 → i + 1 = dl.length) := fun h => by
            rcases Nat.lt_or_ge (i + 1) dl.length with h1 | h1
            · exfalso
              have := HX8.out (fun h => by
                have h2 := congrArg List.length h
                rw [List.length_drop] at h2
                have h3 : dl.length - (i + 1) = 0 := h2
                omega)
              omega
            · omega
          clear hw5 BQ hcq y1 HDS2 o6 o6' hdq
          generalize d.setIfInBounds q (d[q]!.1, d[q]!.2.1, xu - min R xu) = d2 at *
          go_upto_region 14 with fail
          refine UpTo.start (z := 15) (C := (fun W => W.cell? ⟨g, q * 3 + 2, none⟩ = some (.int .i64 xu) ∧ W.cell? ⟨pg, po + i * 2 + 1, none⟩ = some (.int .i64 (-min R xu)))) (by kernel_rfl) ?_ (fun hHeld => ?_)
          · (try dsimp only)
            exact ⟨c5, y5⟩
          refine PlanY.start (kk := 14) (plan := [0, 1, 2, 3, 4, 5, 6, 7, 8, 9, 10, 11, 12, 13, 14]) (fuel := 1) (by decide +kernel) (by assumption) ?_
          refine PlanY.free (i := 0) (ds := some 80) (v := ?_) rfl rfl rfl ?_ (fun _ _ _ h => h) ?_
          rotate_left
          · (intro w hSw; (try dsimp only at hSw); go_simp; first | done | with_reducible rfl)
          (try simp only [Act.put, List.setIfInBounds_toArray, List.set_cons_zero, List.set_cons_succ])
          refine PlanY.free (i := 1) (ds := some 81) (v := ?_) rfl rfl rfl ?_ (fun _ _ _ h => h) ?_
          rotate_left
          · (intro w hSw; (try dsimp only at hSw); go_simp; first | done | with_reducible rfl)
          (try simp only [Act.put, List.setIfInBounds_toArray, List.set_cons_zero, List.set_cons_succ])
          refine PlanY.free (i := 2) (ds := some 82) (v := ?_) rfl rfl rfl ?_ (fun _ _ _ h => h) ?_
          rotate_left
          · (intro w hSw; (try dsimp only at hSw); go_simp; first | done | with_reducible rfl)
          (try simp only [Act.put, List.setIfInBounds_toArray, List.set_cons_zero, List.set_cons_succ])
          refine PlanY.free (i := 3) (ds := some 83) (v := ?_) rfl rfl rfl ?_ (fun _ _ _ h => h) ?_
          rotate_left
          · (intro w hSw; (try dsimp only at hSw); go_simp; first | done | with_reducible rfl)
          (try simp only [Act.put, List.setIfInBounds_toArray, List.set_cons_zero, List.set_cons_succ])
          refine PlanY.free (i := 4) (ds := some 84) (v := ?_) rfl rfl rfl ?_ (fun _ _ _ h => h) ?_
          rotate_left
          · (intro w hSw; (try dsimp only at hSw); go_simp; first | done | with_reducible rfl)
          (try simp only [Act.put, List.setIfInBounds_toArray, List.set_cons_zero, List.set_cons_succ])
          refine PlanY.free (i := 5) (ds := some 85) (v := ?_) rfl rfl rfl ?_ (fun _ _ _ h => h) ?_
          rotate_left
          · (intro w hSw; (try dsimp only at hSw); go_simp; first | done | with_reducible rfl)
          (try simp only [Act.put, List.setIfInBounds_toArray, List.set_cons_zero, List.set_cons_succ])
          refine PlanY.free (i := 6) (ds := some 86) (v := ?_) rfl rfl rfl ?_ (fun _ _ _ h => h) ?_
          rotate_left
          · (intro w hSw; (try dsimp only at hSw); go_simp; first | done | with_reducible rfl)
          (try simp only [Act.put, List.setIfInBounds_toArray, List.set_cons_zero, List.set_cons_succ])
          refine PlanY.free (i := 7) (ds := some 87) (v := ?_) rfl rfl rfl ?_ (fun _ _ _ h => h) ?_
          rotate_left
          · (intro w hSw; (try dsimp only at hSw); go_simp; first | done | with_reducible rfl)
          (try simp only [Act.put, List.setIfInBounds_toArray, List.set_cons_zero, List.set_cons_succ])
          refine PlanY.free (i := 8) (ds := some 88) (v := ?_) rfl rfl rfl ?_ (fun _ _ _ h => h) ?_
          rotate_left
          · (intro w hSw; (try dsimp only at hSw); go_simp; first | done | with_reducible rfl)
          (try simp only [Act.put, List.setIfInBounds_toArray, List.set_cons_zero, List.set_cons_succ])
          refine PlanY.free (i := 9) (ds := some 89) (v := ?_) rfl rfl rfl ?_ (fun _ _ _ h => h) ?_
          rotate_left
          · (intro w hSw; (try dsimp only at hSw); go_simp; first | done | with_reducible rfl)
          (try simp only [Act.put, List.setIfInBounds_toArray, List.set_cons_zero, List.set_cons_succ])
          refine PlanY.free (i := 10) (ds := some 90) (v := ?_) rfl rfl rfl ?_ (fun _ _ _ h => h) ?_
          rotate_left
          · (intro w hSw; (try dsimp only at hSw); go_simp; first | done | with_reducible rfl)
          (try simp only [Act.put, List.setIfInBounds_toArray, List.set_cons_zero, List.set_cons_succ])
          refine PlanY.free (i := 11) (ds := some 91) (v := ?_) rfl rfl rfl ?_ (fun _ _ _ h => h) ?_
          rotate_left
          · (intro w hSw; (try dsimp only at hSw); go_simp; first | done | with_reducible rfl)
          (try simp only [Act.put, List.setIfInBounds_toArray, List.set_cons_zero, List.set_cons_succ])
          refine PlanY.free (i := 12) (ds := some 92) (v := ?_) rfl rfl rfl ?_ (fun _ _ _ h => h) ?_
          rotate_left
          · (intro w hSw; (try dsimp only at hSw); go_simp; first | done | with_reducible rfl)
          (try simp only [Act.put, List.setIfInBounds_toArray, List.set_cons_zero, List.set_cons_succ])
          refine PlanY.free (i := 13) (ds := some 93) (v := ?_) rfl rfl rfl ?_ (fun _ _ _ h => h) ?_
          rotate_left
          · (intro w hSw; (try dsimp only at hSw); go_simp; first | done | with_reducible rfl)
          (try simp only [Act.put, List.setIfInBounds_toArray, List.set_cons_zero, List.set_cons_succ])
          refine PlanY.free (i := 14) (ds := some 94) (v := ?_) rfl rfl rfl ?_ (fun _ _ _ h => h) ?_
          rotate_left
          · (intro w hSw; (try dsimp only at hSw); go_simp; first | done | with_reducible rfl)
          (try simp only [Act.put, List.setIfInBounds_toArray, List.set_cons_zero, List.set_cons_succ])
          refine PlanY.stop (fun hHeld => ?_)
          refine UpTo.ready (rs := [15]) (by decide +kernel) (by simp) ?_
          refine AllZ.last (o := _) rfl ?_
          intro K hK
          rw [if_pos (wanted_none (by rfl))]
          (have hfd : w5.drew.frozen? ⟨g, q * 3 + 2, none⟩ = false := hf5; have hcd : w5.drew.cell? ⟨g, q * 3 + 2, none⟩ = some (.int .i64 xu) := c5; go_simp)
          refine hK.out _ _ ?_
          clear hK K
          (try simp only [Act.put, List.setIfInBounds_toArray, List.set_cons_zero, List.set_cons_succ])
          refine UpTo.done (by decide +kernel) ?_ _
          go_upto_region 15 with fail
          rw [← hWF]
          clear hWF c5 y5 hf5
          by_cases hun : min R xu < xu
          · have hi1 := HLAST.out (by omega)
            have hlt1 : ¬ (i : Int) < (dl.length : Int) - 1 := by omega
            have HI1 := Lib.hid hi1
            clear hi1
            go_wp2_with fail
            go_roundw
            case rel => exact ⟨i + 1, q + 1, q, R - min R xu, d2, by omega, by omega, by omega, by omega, by omega, by go_num, rfl, IE.out, HE2.out, by have h := O6.out; have h2 := HE2.out.1; unfold RowL at h; rw [h2] at h; exact h, B6.out⟩
            case measure => simp [intOf]; omega
          · go_wp2_with fail
            go_roundw
            case rel => exact ⟨i + 1, q + 1, q, R - min R xu, d2, by omega, by omega, by omega, by omega, by omega, by go_num, rfl, IE.out, HE2.out, by have h := O6.out; have h2 := HE2.out.1; unfold RowL at h; rw [h2] at h; exact h, B6.out⟩
            case measure => simp [intOf]; omega
    · obtain rfl : i = dl.length := by omega
      have dk0 : decide ((dl.length : Int) < (dl.length : Int)) = false := decide_eq_false (by omega)
      have hdn := HI.out
      rw [List.drop_length] at hdn
      obtain ⟨hds, hdd, hda, -⟩ := HD.out
      have hM : afterL na ls = d.toList := by
        rw [hda, after_none u (ls.drop k) R hdn.symm, ← hdd, List.take_append_drop]
      have ML := after_len ls na
      have MM := after_mem ls na NN.out
      have MS := after_sum ls na
      have hdr := drawR_all ls na NN.out hna.1
      rw [← HXR.out] at MS hdr
      have RX := Lib.hid (lefts_own OR.out (by rw [← hM, ML]))
      rw [← hM] at RX
      have LX2 : Hid (∀ x ∈ afterL na ls, 0 ≤ x.1 ∧ x.1 < 4294967296) := fun x hx => by
        obtain ⟨y, hy, e, -⟩ := MM x hx
        rw [e]
        exact LI.out y hy
      have N2 : Hid (∀ x ∈ afterL na ls, 0 ≤ x.2.2) := fun x hx => by
        obtain ⟨y, -, -, h1, -⟩ := MM x hx
        exact h1
      clear hdn hds hdd hda hM HD HI MM
      generalize afterL na ls = M at *
      have DX := Lib.hid (draw_any u nb _ M wr (HE.out.below (onward BR.out B2.out)).pow RX.out ht LX2.out ⟨by omega, by omega⟩ (by omega))
      have hmx : max 0 nb = nb := by omega
      rw [hmx] at DX
      have hy := drawR_all M nb N2.out hnb.1
      have hsq := draw_sum u M nb
      have hsn := draw_neg u M nb
      have hql := draw_len u M nb
      clear hmx
      obtain ⟨yr, hyr⟩ : ∃ yr, yr = drawR nb M := ⟨_, rfl⟩
      rw [← hyr] at DX hy hsq
      obtain ⟨ql, hqq⟩ : ∃ ql, ql = drawL u nb M := ⟨_, rfl⟩
      rw [← hqq] at DX hsq hsn hql
      have HY := Lib.hid hy
      have HSQ := Lib.hid (show sumN ql = nb - yr from hsq)
      have HSN := Lib.hid hsn
      have HML : Hid (M.length = ls.length) := ML
      have HQL := Lib.hid hql
      have HMS := Lib.hid MS
      have HDR := Lib.hid hdr
      clear hy hsq hsn hyr hqq hql ML MS hdr
      go_wp2_with fail
      refine DX.out.mono ?_
      rintro e w6 ⟨qv, rfl, hb, ho⟩
      have B6 := Lib.hid (onward hb BR.out)
      have R6 := Lib.hid (drawn_rows ho)
      obtain ⟨qa, qc, rfl⟩ := pt_form (drawn_rows ho)
      rw [List.length_map]
      clear hb ho DX RX OR BR
      have L6 := Lib.hid (L2.out.below B6.out)
      have DY := Lib.hid (draw_any u (na + nb) _ ls w6 (HE.out.below (onward B6.out B2.out)).pow L6.out ht LI.out ⟨by omega, by omega⟩ (by have := LL.out; omega))
      have hmx : max 0 (na + nb) = na + nb := by omega
      have hz := drawR_all ls (na + nb) NN.out (by omega)
      rw [hmx] at DY
      clear hmx
      obtain ⟨zr, hzr⟩ : ∃ zr, zr = drawR (na + nb) ls := ⟨_, rfl⟩
      rw [← hzr] at DY hz
      have HZR := Lib.hid hz
      clear hz hzr
      go_wp2_with fail
      refine DY.out.mono ?_
      rintro e w7 ⟨rv, rfl, hb, ho⟩
      have B7 := Lib.hid (onward hb B6.out)
      have L7 := Lib.hid (L6.out.below hb)
      have P7 := Lib.hid (R2.out.below B7.out)
      have Q7 := Lib.hid (R6.out.below hb)
      obtain ⟨za, zc, rfl⟩ := pt_form (drawn_rows ho)
      clear hb ho DY L6 R6 B6
      have HSP : Hid (sumN dl = na - xr) := by show _ = _; rw [HDL.out, HXR.out]; exact draw_sum u ls na
      have HPN : Hid (∀ p ∈ dl, p.2 < 0) := by rw [HDL.out]; exact draw_neg u ls na
      have hxr0 : 0 ≤ xr := by have := drawR_pos ls na hna.1; rw [← HXR.out] at this; exact this
      have hyr0 : 0 ≤ yr := by have := HY.out; omega
      have hxa : 0 ≤ na - xr := by have h1 := sumN_part dl HPN.out 0; have h2 := HSP.out; omega
      go_wp2_with fail
      go_loopw [19, 20] (fun sv iv wr' => ∃ i : Nat, i ≤ dl.length ∧ iv = .int .i64 i ∧ sv = .int .i64 (sumN (dl.take i)) ∧ wr' = w7) (fun _ iv _ => dl.length - (intOf iv).toNat)
      case atStart => exact ⟨0, by omega, rfl, rfl, rfl⟩
      case round =>
        obtain ⟨i, hi2, rfl, rfl, hwr⟩ := hrel
        have hwr' := hwr.symm
        subst hwr'
        clear hwr
        have hDL := DLE.out
        have hLL := LL.out
        by_cases hlt : i < dl.length
        · have hzz : (i : Int) < (dl.length : Int) := by omega
          obtain ⟨g7, o7, rfl, -, y1⟩ := pt_cells P7.out i (by rw [List.length_map]; exact hlt)
          rw [List.getElem_map] at y1
          simp only at y1
          have hs1 := sumN_part dl HPN.out i
          have hs2 := sumN_part dl HPN.out (i + 1)
          have hsn := List.take_succ_eq_append_getElem hlt
          rw [hsn, sumN_snoc] at hs2
          have hsp := HSP.out
          have HSS : Hid (sumN (dl.take (i + 1)) = sumN (dl.take i) - dl[i].2) := by show _ = _; rw [hsn, sumN_snoc]
          have hw1 : IntKind.i64.wrap (sumN (dl.take i) - dl[i].2) = sumN (dl.take i) - dl[i].2 := IntWalk.i64_in _ (by omega)
          generalize sumN (dl.take i) = s0 at *
          generalize dl[i].2 = am at *
          clear hsn hs1 hs2 hsp
          go_wp2_with fail
          go_roundw
          case rel => exact ⟨i + 1, by omega, by go_num, by rw [HSS.out], by trivial⟩
          case measure => simp [intOf]; omega
        · obtain rfl : i = dl.length := by omega
          have dk1 : decide ((dl.length : Int) < (dl.length : Int)) = false := decide_eq_false (by omega)
          rw [List.take_length]
          have hsp := HSP.out
          rw [hsp]
          clear hsp
          have I0 : na - xr = (na - xr) + sumN (ql.take 0) := by show _ = _ + (0 : Int); omega
          have HI0 := Lib.hid I0
          clear I0
          go_wp2_with fail
          go_loopw [19, 21] (fun sv iv wr' => ∃ i : Nat, i ≤ ql.length ∧ iv = .int .i64 i ∧ sv = .int .i64 ((na - xr) + sumN (ql.take i)) ∧ wr' = w7) (fun _ iv _ => ql.length - (intOf iv).toNat)
          case atStart => exact ⟨0, by omega, rfl, by rw [← HI0.out], rfl⟩
          case round =>
            obtain ⟨i, hi2, rfl, rfl, hwr⟩ := hrel
            have hwr' := hwr.symm
            subst hwr'
            clear hwr
            have hQ1 := HQL.out
            have hQ2 := HML.out
            by_cases hlt : i < ql.length
            · have hzz : (i : Int) < (ql.length : Int) := by omega
              obtain ⟨g7, o7, rfl, -, y1⟩ := pt_cells Q7.out i (by rw [List.length_map]; exact hlt)
              rw [List.getElem_map] at y1
              simp only at y1
              have hs1 := sumN_part ql HSN.out i
              have hs2 := sumN_part ql HSN.out (i + 1)
              have hsn := List.take_succ_eq_append_getElem hlt
              rw [hsn, sumN_snoc] at hs2
              have hsp := HSQ.out
              have hsp2 := HDR.out
              have HSS : Hid ((na - xr) + sumN (ql.take (i + 1)) = (na - xr) + sumN (ql.take i) - ql[i].2) := by show _ = _; rw [hsn, sumN_snoc]; omega
              have hw1 : IntKind.i64.wrap ((na - xr) + sumN (ql.take i) - ql[i].2) = (na - xr) + sumN (ql.take i) - ql[i].2 := IntWalk.i64_in _ (by omega)
              generalize sumN (ql.take i) = s0 at *
              generalize ql[i].2 = am at *
              clear hsn hs1 hs2 hsp hsp2
              go_wp2_with fail
              go_roundw
              case rel => exact ⟨i + 1, by omega, by go_num, by rw [HSS.out], by trivial⟩
              case measure => simp [intOf]; omega
            · obtain rfl : i = ql.length := by omega
              have dk2 : decide ((ql.length : Int) < (ql.length : Int)) = false := decide_eq_false (by omega)
              rw [List.take_length]
              have hsp := HSQ.out
              rw [hsp]
              clear hsp
              have HUB := Lib.hid (usumP_bd ls LM.out)
              have TX := Lib.hid (totalP_any _ ls w7 L7.out LM.out (by omega))
              have hzz1 : Hid (xr + yr = zr ∧ drawR (usumP ls) ls = 0 ∧ drawR (usumP ls + 1) ls = 1 ∧ 0 ≤ zr ∧ zr ≤ 200000) := by
                have h1 := HDR.out
                have h2 := HY.out
                have h3 := HMS.out
                have h4 := HZR.out
                have h5 := HUB.out
                have h6 := drawR_all ls (usumP ls) NN.out h5.1
                have h7 := drawR_all ls (usumP ls + 1) NN.out (by omega)
                refine ⟨by omega, by omega, by omega, by omega, by omega⟩
              have TB := HUB.out
              have hll := LL.out
              have D1 := Lib.hid (fun (W : World) (hb : Below w7.heap.size w7 W) => draw_any u (usumP ls) _ ls W (HE.out.below (onward hb (onward B7.out B2.out))).pow (L7.out.below hb) ht LI.out ⟨by omega, by omega⟩ (by omega))
              have D2 := Lib.hid (fun (W : World) (hb : Below w7.heap.size w7 W) => draw_any u (usumP ls + 1) _ ls W (HE.out.below (onward hb (onward B7.out B2.out))).pow (L7.out.below hb) ht LI.out ⟨by omega, by omega⟩ (by omega))
              have T2 := Lib.hid (fun (W : World) (hb : Below w7.heap.size w7 W) => totalP_any _ ls W (L7.out.below hb) LM.out (by omega))
              have m1 : max 0 (usumP ls) = usumP ls := by omega
              have m2 : max 0 (usumP ls + 1) = usumP ls + 1 := by omega
              rw [m1, hzz1.out.2.1] at D1
              rw [m2, hzz1.out.2.2.1] at D2
              have hwt : IntKind.i64.wrap (usumP ls + 1) = usumP ls + 1 := IntWalk.i64_in _ (by omega)
              clear m1 m2
              generalize usumP ls = U at *
              clear TB
              go_wp2_with fail
              refine TX.out.mono ?_
              rintro e w8 ⟨rfl, hb⟩
              have B8 := Lib.hid hb
              clear hb TX
              go_wp2_with fail
              refine (D1.out w8 B8.out).mono ?_
              rintro e w9 ⟨xv, rfl, hb, ho⟩
              have B9 := Lib.hid (onward hb B8.out)
              obtain ⟨xa', xc', rfl⟩ := pt_form (drawn_rows ho)
              clear hb ho D1
              go_wp2_with fail
              refine (T2.out w9 B9.out).mono ?_
              rintro e w10 ⟨rfl, hb⟩
              have B10 := Lib.hid (onward hb B9.out)
              clear hb T2
              go_wp2_with fail
              refine (D2.out w10 B10.out).mono ?_
              rintro e w11 ⟨xv, rfl, hb, ho⟩
              have B11 : Hid (Below w.heap.size w w11) := onward (onward hb B10.out) (onward B7.out B2.out)
              obtain ⟨xa2, xc2, rfl⟩ := pt_form (drawn_rows ho)
              clear hb ho D2
              have hww1 : IntKind.i64.wrap (xr + yr) = zr := by rw [hzz1.out.1]; exact IntWalk.i64_in _ (by have := hzz1.out.2.2.2; omega)
              have hww2 : IntKind.i64.wrap (na - xr + (nb - yr) + zr) = na + nb := by
                have := hzz1.out.1
                rw [show na - xr + (nb - yr) + zr = na + nb from by omega]
                exact IntWalk.i64_in _ (by omega)
              go_wp2_with fail
              refine (goesP_any w11 (HE.out.below B11.out)).mono ?_
              rintro e w12 ⟨rfl, hb⟩
              have B12 := Lib.hid (onward hb B11.out)
              clear hb
              go_wp2_with fail
              go_ret
              exact ⟨rfl, B12.out⟩
end Go.Proofs.YtcaihncnmjegoaaGreatDoor

