/- The walks of kv.New, big, Key, With, and journal.key. The walks of kv.Key, With, journal.key, kv.Number, Set, journal.Last. The walks of kv.Number, kv.Set, journal.Last: through the interface. -/
import Derived.Test.YtcaihncnmjegoaaGreatDoorPkPacksAl2
import Derived.Laws.AppendOwnNone
import Derived.Maps.AppendAt
import Derived.Lib.AppendStr
import Derived.Laws.BitsAllLaws
/-! The walks of kv.New, big, Key, With, and journal.key. -/
namespace Go.Proofs.YtcaihncnmjegoaaGreatDoor
open Go.RowKit Go.WideMaps Go.Maps
set_option linter.unusedVariables false
set_option linter.unusedSimpArgs false
set_option maxRecDepth 100000
def byt (x i : Nat) : UInt8 := UInt8.ofNat (x / 2 ^ i)
def big8 (x : Nat) : Bs := [byt x 56, byt x 48, byt x 40, byt x 32, byt x 24, byt x 16, byt x 8, byt x 0]
theorem byt_nat (x i : Nat) : (byt x i).toNat = x / 2 ^ i % 256 := by unfold byt; rw [UInt8.toNat_ofNat']
theorem new_any (room : Int) (w : World) : Calls Tryz.prog 12 #[.int .i64 room] w fun e w' => ∃ p b1 b2, e = .returned (.pointer (some ⟨p, 0, none⟩)) ∧ MemS w' p b1 b2 room 0 (.map []) (.map []) ∧ Below w.heap.size w w' ∧ w.heap.size ≤ p ∧ w.heap.size ≤ b1 ∧ w.heap.size ≤ b2 := by
  have hmm := @run_makeMap Tryz.prog
  go_enter Tryz.func12, Tryz.ntmps12
  go_wp2_with fail
  go_ret
  refine ⟨_, _, _, rfl, ⟨(by have h := heap_alloc_new ((w.alloc (.map #[] 0)).alloc (.map #[] 0)) (.cells #[.int .i64 room, .map (some w.heap.size), .map (some (w.heap.size + 1))] 57); simp only [World.size_alloc] at h; exact h), ?_, ?_, ?_⟩, ?_, ?_, ?_, ?_⟩
  · exact (((World.ownsMap_made w _ _ _).alloc _).alloc _)
  · have h := (World.ownsMap_made (H := Unit) (w.alloc (.map #[] 0)) Tryz.prog 9 (plainElem Tryz.prog 9)).alloc (.cells #[.int .i64 room, .map (some w.heap.size), .map (some (w.heap.size + 1))] 57)
    rw [World.size_alloc] at h
    exact h
  · omega
  · exact onward (below_alloc _ _) (onward (below_alloc _ _) (below_alloc w _))
  · omega
  · omega
  · omega
theorem wpList_append_own_at {P : Program} (w : World) {ops : Array Oper} {rest : List Oper} {o : Oper} {a : Act} {Q : Exit → Act → World → Prop} (hgd : o.guard = none) (s x : Operand) (t : TypeId)
    (ho : o.op = .call { callee := .builtin .append, args := #[s, x], argTypes := #[t, t] })
    (base : Nat) (e : TypeId) (i : TypeInfo) (z : Value) (size bytes : Nat) (ht : P.underlying t = some (.slice e)) (hi : P.info? e = some i) (hz : i.zero = some z)
    (hsize : i.size = size) (hby : i.bytes = bytes) (hzs : z.cells.size = size) (hsz : 0 < size)
    (v : Value) (n : Nat) (xs : List Value) (hs : a.eval s = v) (hown : w.ownsRow base e size v n xs)
    (ad : Addr) (m c : Nat) (news : List Value) (hx : a.eval x = .slice (some ad) m c) (hl : news.length = m * size) (hnews : ∀ j u, news[j]? = some u → w.cell? (ad.add j) = some u) (h1 : ∀ u ∈ news, u.oneCell' = true)
    (h63 : n + m ≤ maxLen) (hbytes : (n + m) * bytes ≤ 140737488355328) (hbase : base ≤ w.heap.size)
    (h : ∀ v' w', w'.ownsRow base e size v' (n + m) (xs ++ news) → w.grownBy w' v.ownBlock → (v'.ownBlock = v.ownBlock ∨ v'.ownBlock = some w.heap.size) → wpList P ops Q rest (a.put o.dst v') w') : wpList P ops Q (o :: rest) a w := by
  refine wpList_plain hgd fun K hK => ?_
  obtain ⟨v', w', hr, h2, h3, h4, h5⟩ := run_append_own_at (P := P) w base t o.type e i z size bytes ht hi hz hsize hby hzs hsz v n xs hown ad m c news hl hnews h1 h63 hbytes hbase
  unfold Oper.wp execOp
  simp only [ho, resolve, invoke, builtin, Sem.run_bind, Sem.run_pure, Result.andThen_ok, List.map_toArray, List.map_cons, List.map_nil, hs, hx, hr]
  exact hK _ _ (h v' w' h2 h3 h5)
theorem byt_wrap (x i : Nat) (y : Int) (h : y = ((x / 2 ^ i : Nat) : Int)) : IntKind.u8.wrap y = ((byt x i).toNat : Int) := by
  rw [byt_nat, h]
  have : ∀ z : Int, IntKind.u8.wrap z = z % 256 := fun _ => rfl
  rw [this]
  omega
theorem byt_top (x : Nat) (h : x < 18446744073709551616) : (x : Int) / 72057594037927936 = ((byt x 56).toNat : Int) := by
  rw [byt_nat]
  have : x / 2 ^ 56 < 256 := by omega
  omega
theorem take_step (x k : Nat) (hk : k < 8) : (big8 x).take (k + 1) = (big8 x).take k ++ [byt x (56 - 8 * k)] := by
  have h : k = 0 ∨ k = 1 ∨ k = 2 ∨ k = 3 ∨ k = 4 ∨ k = 5 ∨ k = 6 ∨ k = 7 := by omega
  rcases h with rfl | rfl | rfl | rfl | rfl | rfl | rfl | rfl <;> rfl
theorem bytesV_app (a b : Bs) : bytesV (a ++ b) = bytesV a ++ bytesV b := by unfold bytesV; rw [List.map_append]
theorem big_end {base m : Nat} {ys : List Value} {w w2 w3 : World} {v v2 : Value} {bs : Bs} {x k : Nat} {u : Value} (hk : k < 8) (hu : u = .int .u8 ((byt x (56 - 8 * k)).toNat : Nat)) (OR : w.ownsRow base 5 1 v (bs.length + k) (bytesV (bs ++ (big8 x).take k)))
    (ho : w3.ownsRow base 5 1 v2 m (ys ++ [u])) (hm : m = bs.length + k + 1) (hys : ys = bytesV (bs ++ (big8 x).take k)) : w3.ownsRow base 5 1 v2 (bs.length + (k + 1)) (bytesV (bs ++ (big8 x).take (k + 1))) := by
  rw [take_step x k hk, ← List.append_assoc, bytesV_app]
  subst hu hm hys
  exact ho
theorem grown_row {base : Nat} {w w1 w2 w3 : World} {v v1 : Value} {n : Nat} {xs : List Value} {o : Obj} (h : w.grownBy w1 v.ownBlock) (ho : w1.ownsRow base 5 1 v1 n xs) (hv : v1.ownBlock = v.ownBlock ∨ ∀ k, v1.ownBlock = some k → w.heap.size ≤ k) (hg : (w1.alloc o).grownBy w3 v1.ownBlock) : w.grownBy w3 v.ownBlock := by
  refine ⟨hg.os.trans h.os, hg.tape.trans h.tape, hg.output.trans h.output, Nat.le_trans h.size (Nat.le_trans (by simp) hg.size), fun k hk hne => ?_⟩
  have h1 := h.block k hk hne
  have h2 : (w1.alloc o).heap[k]? = w1.heap[k]? := (below_alloc w1 o).block k (Nat.lt_of_lt_of_le hk h.size)
  rw [← h1, ← h2]
  refine hg.block k (Nat.lt_of_lt_of_le hk (Nat.le_trans h.size (by simp))) fun e => ?_
  rcases hv with hv | hv
  · rw [hv] at e; exact hne e
  · have := hv k e.symm; omega
set_option maxHeartbeats 4000000 in
theorem big_any (base : Nat) (v : Value) (bs : Bs) (x : Nat) (w : World) (hx : x < 18446744073709551616) (ho : w.ownsRow base 5 1 v bs.length (bytesV bs)) (hb : base ≤ w.heap.size) (hl : bs.length ≤ 1000000) :
    Calls Tryz.prog 29 #[v, .int .u64 x] w fun e w' => ∃ v', e = .returned v' ∧ w'.ownsRow base 5 1 v' (bs ++ big8 x).length (bytesV (bs ++ big8 x)) ∧ w.grownBy w' v.ownBlock ∧ (v'.ownBlock = v.ownBlock ∨ ∀ k, v'.ownBlock = some k → w.heap.size ≤ k) := by
  obtain ⟨i0, hi, hz0, hz1, hz2⟩ := info_parts infoB
  have HO := Lib.hid ho
  have E56 := byt_top x hx
  have E48 := byt_wrap x 48 ((x : Int) / 281474976710656) (by omega)
  have E40 := byt_wrap x 40 ((x : Int) / 1099511627776) (by omega)
  have E32 := byt_wrap x 32 ((x : Int) / 4294967296) (by omega)
  have E24 := byt_wrap x 24 ((x : Int) / 16777216) (by omega)
  have E16 := byt_wrap x 16 ((x : Int) / 65536) (by omega)
  have E8 := byt_wrap x 8 ((x : Int) / 256) (by omega)
  have E0 := byt_wrap x 0 (x : Int) (by simp)
  clear ho
  go_enter Tryz.func29, Tryz.ntmps29
  go_wp2_with fail
  go_loopw [0, 5] (fun bv iv wr => ∃ k : Nat, k ≤ 8 ∧ iv = .int .i64 (56 - 8 * k) ∧ Hid (wr.ownsRow base 5 1 bv (bs.length + k) (bytesV (bs ++ (big8 x).take k))) ∧ Hid (w.grownBy wr v.ownBlock) ∧ Hid (bv.ownBlock = v.ownBlock ∨ ∀ k, bv.ownBlock = some k → w.heap.size ≤ k)) (fun _ iv _ => ((intOf iv) + 8).toNat)
  case atStart => exact ⟨0, by omega, rfl, by simpa using HO, World.grownBy.refl _ _, .inl rfl⟩
  case round =>
    obtain ⟨k, hk, rfl, OR, GR, NR⟩ := hrel
    have hsz := GR.out.size
    have hk8 : k = 0 ∨ k = 1 ∨ k = 2 ∨ k = 3 ∨ k = 4 ∨ k = 5 ∨ k = 6 ∨ k = 7 ∨ k = 8 := by omega
    rcases hk8 with rfl | rfl | rfl | rfl | rfl | rfl | rfl | rfl | rfl
    iterate 8
      · go_wp2_with (at_builtin; refine wpList_append_own_at _ rfl (.tmp 10) (.tmp 15) 62 rfl base 5 i0 _ 1 1 Tryz.underlying62 hi hz0 hz1 hz2 rfl (by decide) _ _ _ rfl (OR.out.alloc _) ⟨wr.heap.size, 0, none⟩ 1 1 [_] rfl rfl (new_cells _ _ _) (fun u hu => by simp at hu; subst hu; rfl) (by unfold maxLen; omega) (by omega) (by simp; omega) ?_)
        intro v2 w2 hown hgr hat
        have O2 := Lib.hid (big_end (w2 := w) (by decide) (by first | rfl | (simp; done)) OR.out hown (by omega) (by first | rfl | (simp; done) | simp [bytesV]))
        have G2 := Lib.hid (grown_row (w2 := w) GR.out OR.out NR.out hgr)
        have N2 : Hid (v2.ownBlock = v.ownBlock ∨ ∀ k, v2.ownBlock = some k → w.heap.size ≤ k) := by
          rcases hat with h | h
          · rw [h]; exact NR.out
          · refine .inr fun k hk => ?_
            rw [h] at hk
            injection hk with hk
            try simp at hk
            omega
        clear hown hgr hat OR GR NR
        go_wp2_with fail
        go_roundw
        case rel => exact ⟨_, by decide, by first | rfl | go_num, O2.out, G2.out, N2.out⟩
        case measure => simp [intOf]
    · go_wp2_with fail
      go_ret
      refine ⟨_, rfl, ?_, GR.out, NR.out⟩
      have h := OR.out
      rw [show (big8 x).take 8 = big8 x from rfl] at h
      rw [List.length_append]
      exact h
end Go.Proofs.YtcaihncnmjegoaaGreatDoor

/-! The walks of kv.Key, With, journal.key, kv.Number, Set, journal.Last. -/
namespace Go.Proofs.YtcaihncnmjegoaaGreatDoor
open Go.RowKit Go.WideMaps Go.Maps
set_option linter.unusedVariables false
set_option linter.unusedSimpArgs false
set_option maxRecDepth 100000
set_option maxHeartbeats 1000000 in
theorem clone_own (B : Nat) (v : Value) (bs : Bs) (w : World) (hB : BytesAt B w v bs) (hl : bs.length ≤ 1000000) : Calls Tryz.prog 91 #[v] w fun e w' => ∃ v', e = .returned v' ∧ w'.ownsRow w.heap.size 5 1 v' bs.length (bytesV bs) ∧ Below w.heap.size w w' := by
  have HB := Lib.hid hB
  obtain ⟨a, c, rfl, hn, hx⟩ := hB
  have hnil := fun (W : World) (a : Option Addr) (n c n' c' : Nat) => Lib.run_eql_slice_nil (P := Tryz.prog) W 62 5 a n c n' c' Tryz.underlying62
  cases a with
  | none =>
    obtain rfl := hn rfl
    obtain rfl : bs = [] := by
      cases bs with
      | nil => rfl
      | cons x r => obtain ⟨b, o, h3, _⟩ := hx 0 (by simp); cases h3
    clear hx hn
    go_enter Tryz.func91, Tryz.ntmps91
    go_wp2_with fail
    go_ret
    exact ⟨_, rfl, World.ownsRow_nil _ _ _ _, Below.refl _ _⟩
  | some ad =>
    clear hx hn
    obtain ⟨i0, hi, hz0, hz1, hz2⟩ := info_parts infoB
    have O0 := Lib.hid (own_emptyB w)
    have B0 := Lib.hid (below_alloc w (.cells #[] 5))
    have H0 := Lib.hid (HB.out.below (below_alloc w (.cells #[] 5)))
    clear HB
    go_enter Tryz.func91, Tryz.ntmps91
    go_wp2_with (at_builtin; refine wpList_append_own _ rfl (.tmp 5) (.tmp 6) 62 rfl w.heap.size 5 i0 _ 1 1 Tryz.underlying62 hi hz0 hz1 hz2 rfl (by decide) _ _ _ rfl O0.out ad bs.length c (bytesV bs) rfl (by rw [bytesV_len, Nat.mul_one]) (bytes_src H0.out) (bytes_one bs) (by unfold maxLen; omega) (by omega) (by simp) ?_)
    intro v2 w2 hown2 hgrow2 _
    try simp only [Nat.zero_add, List.nil_append] at hown2
    have B2 := Lib.hid (owned_below O0.out B0.out hgrow2)
    have O2 := Lib.hid hown2
    clear hown2 hgrow2 O0 B0 H0
    go_wp2
    go_ret
    exact ⟨_, rfl, O2.out, B2.out⟩
theorem bytes_append (B : Nat) (w : World) (v : Value) (bs : Bs) (s : ByteArray) (base : Nat) (h : w.ownsRow base 5 1 v (bs.length + s.size) (bytesV bs ++ Lib.strCells s)) : BytesAt B w v (bs ++ s.data.toList) := by
  refine BytesAt.of_own (base := base) ?_
  have e : s.data.toList.length = s.size := by rw [Array.length_toList]; rfl
  rw [bytesV_app, List.length_append, e]
  exact h
set_option maxHeartbeats 1000000 in
theorem with_any (B : Nat) (v : Value) (bs : Bs) (s : ByteArray) (w : World) (hB : BytesAt B w v bs) (hl : bs.length ≤ 1000000) (hs : s.size ≤ 1000000) : Calls Tryz.prog 76 #[v, .string s] w fun e w' => ∃ v', e = .returned v' ∧ BytesAt 0 w' v' (bs ++ s.data.toList) ∧ Below w.heap.size w w' := by
  obtain ⟨i0, hi, hz0, hz1, hz2⟩ := info_parts infoB
  have HC := Lib.hid (clone_own B v bs w hB hl)
  clear hB
  go_enter Tryz.func76, Tryz.ntmps76
  go_wp2_with fail
  refine HC.out.mono ?_
  rintro e w1 ⟨v1, rfl, ho, hb⟩
  have O1 := Lib.hid ho
  have B1 := Lib.hid hb
  clear ho hb HC
  go_wp2_with (at_builtin; refine Lib.wpList_append_own_string _ rfl (.tmp 6) (.tmp 7) 62 9 rfl w.heap.size 5 i0 Tryz.underlying62 Tryz.underlying9 hi hz0 hz1 hz2 _ _ _ rfl O1.out s rfl (by unfold maxLen; omega) (by omega) B1.out.size ?_)
  intro v2 w2 hown hgr _
  have H2 := Lib.hid (bytes_append 0 w2 v2 bs s _ hown)
  have B2 := Lib.hid (B1.out.grown hgr B1.out.size (fun k hk => (O1.out.lt k hk).1))
  clear hown hgr
  go_wp2
  go_ret
  exact ⟨_, rfl, H2.out, B2.out⟩
set_option maxHeartbeats 1000000 in
theorem key0_any (kind : UInt8) (w : World) : Calls Tryz.prog 18 #[.int .u8 kind.toNat, .slice none 0 0] w fun e w' => ∃ v', e = .returned v' ∧ BytesAt 0 w' v' [kind] ∧ Below w.heap.size w w' := by
  have HA := Lib.hid (bytes_block (B := 0) (bs := [kind]) (alloc_block w #[.int .u8 kind.toNat] 5 (0, 0)))
  have BA := Lib.hid (below_alloc w (.cells #[.int .u8 kind.toNat] 5))
  go_enter Tryz.func18, Tryz.ntmps18
  go_wp2_with fail
  generalize w.alloc (.cells #[.int .u8 kind.toNat] 5) = W1 at *
  go_loopw [5, 12] (fun bv iv wr => bv = .slice (some ⟨w.heap.size, 0, none⟩) 1 1 ∧ iv = .int .i64 0 ∧ wr = W1) (fun _ iv _ => 0)
  case atStart => exact ⟨rfl, rfl, rfl⟩
  case round =>
    obtain ⟨rfl, rfl, rfl⟩ := hrel
    go_wp2_with fail
    go_ret
    exact ⟨_, rfl, HA.out, BA.out⟩
set_option maxHeartbeats 2000000 in
theorem key1_any (kind : UInt8) (x g : Nat) (w : World) (hx : x < 18446744073709551616) (hc : w.cell? ⟨g, 0, none⟩ = some (.int .u64 x)) : Calls Tryz.prog 18 #[.int .u8 kind.toNat, .slice (some ⟨g, 0, none⟩) 1 1] w fun e w' => ∃ v', e = .returned v' ∧ BytesAt 0 w' v' (kind :: big8 x) ∧ Below w.heap.size w w' := by
  have OA : Hid ((w.alloc (.cells #[.int .u8 kind.toNat] 5)).ownsRow w.heap.size 5 1 (.slice (some ⟨w.heap.size, 0, none⟩) 1 1) [kind].length (bytesV [kind])) :=
    ⟨rfl, .inr ⟨w.heap.size, 1, #[.int .u8 kind.toNat], rfl, Nat.le_refl _, heap_alloc_new _ _, Nat.le_refl _, by unfold maxLen; omega, rfl, rfl⟩⟩
  have BA := Lib.hid (below_alloc w (.cells #[.int .u8 kind.toNat] 5))
  have S1 : w.heap.size + 1 = (w.alloc (.cells #[.int .u8 kind.toNat] 5)).heap.size := by simp
  have c1 := stays BA.out hc
  clear hc
  go_enter Tryz.func18, Tryz.ntmps18
  go_wp2_with fail
  generalize w.alloc (.cells #[.int .u8 kind.toNat] 5) = W1 at *
  go_loopw [5, 12] (fun bv iv wr => (bv = .slice (some ⟨w.heap.size, 0, none⟩) 1 1 ∧ iv = .int .i64 0 ∧ wr = W1) ∨ (iv = .int .i64 1 ∧ BytesAt 0 wr bv (kind :: big8 x) ∧ Below w.heap.size w wr)) (fun _ iv _ => 1 - (intOf iv).toNat)
  case atStart => exact .inl ⟨rfl, rfl, rfl⟩
  case round =>
    rcases hrel with ⟨rfl, rfl, hwr⟩ | ⟨rfl, hB, hb⟩
    · have hwr' := hwr.symm
      subst hwr'
      clear hwr
      go_wp2_with fail
      refine (big_any w.heap.size _ [kind] x _ hx OA.out (by omega) (by simp)).mono ?_
      rintro e w2 ⟨v2, rfl, ho, hg, hn⟩
      have H2 : Hid (BytesAt 0 w2 v2 (kind :: big8 x)) := BytesAt.of_own ho
      have B2 := Lib.hid (BA.out.grown hg BA.out.size (fun k hk => (OA.out.lt k hk).1))
      clear ho hg hn
      go_wp2_with fail
      go_roundw
      case rel => exact .inr ⟨by go_num, H2.out, B2.out⟩
      case measure => simp [intOf]
    · have HB := Lib.hid hB
      have BB := Lib.hid hb
      clear hB hb
      go_wp2_with fail
      go_ret
      exact ⟨_, rfl, HB.out, BB.out⟩
set_option maxHeartbeats 1000000 in
theorem jkey_any (s : ByteArray) (w : World) (hs : s.size ≤ 1000000) : Calls Tryz.prog 49 #[.string s] w fun e w' => ∃ v', e = .returned v' ∧ BytesAt 0 w' v' (98 :: s.data.toList) ∧ Below w.heap.size w w' := by
  go_enter Tryz.func49, Tryz.ntmps49
  go_wp2_with fail
  refine (key0_any 98 w).mono ?_
  rintro e w1 ⟨v1, rfl, hB, hb⟩
  have B1 := Lib.hid hb
  have WX := Lib.hid (with_any 0 v1 [98] s w1 hB (by simp) hs)
  clear hB hb
  go_wp2_with fail
  refine WX.out.mono ?_
  rintro e w2 ⟨v2, rfl, hB, hb⟩
  have H2 := Lib.hid hB
  have B2 := Lib.hid (onward hb B1.out)
  clear hB hb
  go_wp2
  go_ret
  exact ⟨_, rfl, H2.out, B2.out⟩
def unbig (l : Bs) : Nat := l.foldl (fun v c => v * 256 + c.toNat) 0
/-- a number that is kept -/
def numAt (D : DM) (k : Bs) : Int × Int := match gt D k with
  | none => (0, 0)
  | some b => if b.length = 8 then (((unbig b : Nat) : Int), 0) else (0, 10)
theorem unbig_lt : ∀ (l : Bs), unbig l < 256 ^ l.length := by
  have key : ∀ (l : Bs) (a : Nat), l.foldl (fun v c => v * 256 + c.toNat) a < (a + 1) * 256 ^ l.length := by
    intro l
    induction l with
    | nil => intro a; simp
    | cons x r ih =>
      intro a
      rw [List.foldl_cons, List.length_cons, Nat.pow_succ]
      have h1 := ih (a * 256 + x.toNat)
      have h2 : x.toNat < 256 := x.toNat_lt
      have h3 : (a * 256 + x.toNat + 1) * 256 ^ r.length ≤ (a + 1) * 256 * 256 ^ r.length := Nat.mul_le_mul_right _ (by omega)
      have h4 : (a + 1) * (256 ^ r.length * 256) = (a + 1) * 256 * 256 ^ r.length := by
        rw [Nat.mul_comm (256 ^ r.length) 256, Nat.mul_assoc]
      omega
  intro l
  have := key l 0
  simpa [unbig] using this
theorem unbig_snoc (l : Bs) (c : UInt8) : unbig (l ++ [c]) = unbig l * 256 + c.toNat := by unfold unbig; rw [List.foldl_append]; rfl
theorem unbig_big (x : Nat) (h : x < 18446744073709551616) : unbig (big8 x) = x := by
  unfold unbig big8
  simp only [List.foldl_cons, List.foldl_nil, byt_nat]
  omega
end Go.Proofs.YtcaihncnmjegoaaGreatDoor

/-! The walks of kv.Number, kv.Set, journal.Last: through the interface. -/
namespace Go.Proofs.YtcaihncnmjegoaaGreatDoor
open Go.RowKit Go.WideMaps Go.Maps
set_option linter.unusedVariables false
set_option linter.unusedSimpArgs false
set_option maxRecDepth 100000
/-- the store as an interface's value -/
abbrev memI (p : Nat) : Value := .iface 40 (.pointer (some ⟨p, 0, none⟩))
theorem or_step (a c : Nat) (ha : a < 72057594037927936) (hc : c < 256) : bits BinOp.or IntKind.u64 (IntKind.u64.wrap ((a : Nat) * 256)) (IntKind.u64.wrap (c : Nat)) = ((a * 256 + c : Nat) : Int) := by
  have e : ∀ z : Int, IntKind.u64.wrap z = z % 18446744073709551616 := fun _ => rfl
  rw [e, e, show ((a : Nat) : Int) * 256 % 18446744073709551616 = ((a * 256 : Nat) : Int) from by omega, show ((c : Nat) : Int) % 18446744073709551616 = ((c : Nat) : Int) from by omega, u64_or_nat _ _ (by omega) (by omega)]
  congr 1
  rw [show a * 256 = a <<< 8 from by rw [Nat.shiftLeft_eq]]
  rw [← Nat.shiftLeft_add_eq_or_of_lt (by omega : c < 2 ^ 8)]
theorem BytesAt.cell_at {B : Nat} {w : World} {a : Option Addr} {n c : Nat} {bs : Bs} (h : BytesAt B w (.slice a n c) bs) (k : Nat) (hk : k < bs.length) : ∃ g o, a = some ⟨g, o, none⟩ ∧ w.cell? ⟨g, o + k, none⟩ = some (.int .u8 (bs[k]).toNat) := by
  obtain ⟨a', c', h1, h2, h3⟩ := h
  injection h1 with h1 _ _
  subst h1
  obtain ⟨g, o, h4, h5, -⟩ := h3 k hk
  rw [getD_at _ _ _ hk] at h5
  exact ⟨g, o, h4, h5⟩
set_option maxHeartbeats 2000000 in
theorem kvnum_any {p b1 b2 n : Nat} {room : Int} {D D2 : DM} (w : World) (hM : MemS w p b1 b2 room n D D2) {B : Nat} (kv : Value) (ks : Bs) (hk : BytesAt B w kv ks) (hl : ks.length ≤ 1000000) : Calls Tryz.prog 48 #[memI p, kv] w fun e w' => e = .returned (.tuple #[.int .u64 (numAt D ks).1, .int .i64 (numAt D ks).2]) ∧ Below w.heap.size w w' := by
  have GX := Lib.hid (get_any w hM kv ks hk hl)
  clear hM hk
  go_enter Tryz.func48, Tryz.ntmps48
  go_wp2_with fail
  refine GX.out.mono ?_
  rintro e w1 ⟨hb, hm⟩
  have B1 := Lib.hid hb
  clear hb GX
  cases hg : gt D ks with
  | none =>
    rw [hg] at hm
    have he : e = .returned (.tuple #[.slice none 0 0, .bool false, .int .i64 0]) := hm
    subst he
    have HN : Hid (numAt D ks = (0, 0)) := by show _ = _; unfold numAt; rw [hg]
    clear hm hg
    go_wp2_with fail
    go_ret2
    exact ⟨by rw [HN.out]; rfl, B1.out⟩
  | some vs =>
    rw [hg] at hm
    obtain ⟨v, hv, hvl, rfl⟩ := hm
    obtain ⟨va, vc, rfl⟩ := hv.form
    have HV := Lib.hid hv
    by_cases h8 : vs.length = 8
    · have HN : Hid (numAt D ks = (((unbig vs : Nat) : Int), 0)) := by show _ = _; unfold numAt; rw [hg]; (try simp only); rw [if_pos h8]
      have e8 : ((((vs.length : Nat) : Int)) != 8) = false := by rw [h8]; rfl
      clear hg hv
      go_wp2_with fail
      go_loopw [9, 33] (fun nv iv wr => ∃ k : Nat, k ≤ 8 ∧ iv = .int .i64 k ∧ nv = .int .u64 (unbig (vs.take k) : Nat) ∧ wr = w1) (fun _ iv _ => 8 - (intOf iv).toNat)
      case atStart => exact ⟨0, by omega, rfl, rfl, rfl⟩
      case round =>
        obtain ⟨k, hk, rfl, rfl, hwr⟩ := hrel
        have hwr' := hwr.symm
        subst hwr'
        clear hwr
        by_cases hlt : k < 8
        · obtain ⟨g, o, rfl, hc⟩ := HV.out.cell_at k (by omega)
          have hi1 : (k : Int) < 8 := by omega
          have hi2 : (k : Int) < ((vs.length : Nat) : Int) := by omega
          have hst : vs.take (k + 1) = vs.take k ++ [vs[k]] := List.take_succ_eq_append_getElem (by omega)
          have hub := unbig_lt (vs.take k)
          have hlk : (vs.take k).length ≤ 7 := by rw [List.length_take]; omega
          have hpow : 256 ^ (vs.take k).length ≤ 256 ^ 7 := Nat.pow_le_pow_right (by omega) hlk
          have hor : Hid (bits BinOp.or IntKind.u64 (IntKind.u64.wrap ((unbig (vs.take k) : Nat) * 256)) (IntKind.u64.wrap ((vs[k]).toNat : Nat)) = ((unbig (vs.take (k + 1)) : Nat) : Int)) := by
            show _ = _
            rw [hst, unbig_snoc]
            exact or_step _ _ (by omega) (vs[k]).toNat_lt
          clear hst hub hlk hpow
          go_wp2_with fail
          go_roundw
          case rel => exact ⟨k + 1, by omega, by go_num, by rw [hor.out], by trivial⟩
          case measure => simp [intOf]; omega
        · obtain rfl : k = 8 := by omega
          have HT : Hid (vs.take 8 = vs) := List.take_of_length_le (by omega)
          go_wp2_with fail
          go_ret2
          exact ⟨by rw [HN.out, HT.out]; rfl, B1.out⟩
    · have HN : Hid (numAt D ks = (0, 10)) := by show _ = _; unfold numAt; rw [hg]; (try simp only); rw [if_neg h8]
      have e8 : ((((vs.length : Nat) : Int)) != 8) = true := by rw [bne_iff_ne]; omega
      clear hg hv
      go_wp2_with fail
      go_ret2
      exact ⟨by rw [HN.out]; rfl, B1.out⟩
theorem nil_put (p f : Nat) (w : World) : (nilAhead (f + 1) 40 (.pointer (some ⟨p, 0, none⟩)) "Put").run Tryz.prog w = .ok (some false) w := by kernel_rfl
end Go.Proofs.YtcaihncnmjegoaaGreatDoor

