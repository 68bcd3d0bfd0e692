/- media: settle, with each of the two functions that it is handed; Fence, Crash. Printed by wip/mk_settle.py. -/
import Derived.Test.YtdkcghicobakhaaMediaC
import Derived.Deep.QuietTactic
namespace Go.Proofs.Ytdkcghicobakhaa
open Go.RowKit
set_option linter.unusedVariables false

section
variable {P : Program}
theorem wpList_append_in {ops : Array Oper} {rest : List Oper} {o : Oper} {a : Act} {w : World} {Q : Exit → Act → World → Prop} (hw : Region.wanted o (yielded ops a.tmps) = true) (s x : Operand) (t : TypeId)
    (ho : o.op = .call { callee := .builtin .append, args := #[s, x], argTypes := #[t, t] })
    (e : TypeId) (i : TypeInfo) (size : Nat) (ht : P.underlying t = some (.slice e)) (hi : P.info? e = some i) (hsize : i.size = size) (hsz : 0 < size)
    (b n cap : Nat) (cur : Array Value) (hs : a.eval s = .slice (some ⟨b, 0, none⟩) n cap) (hg : w.heap[b]? = some (.cells cur e (0, 0)))
    (u : Value) (m : Nat) (news : List Value) (hx : a.eval x = u) (hr : Rd w u m news) (hl : news.length = m * size) (hm : 0 < m) (h1 : ∀ u ∈ news, u.oneCell' = true)
    (hroom : n + m ≤ cap) (hfit : n * size + news.length ≤ cur.size)
    (h : ∀ w', w'.heap[b]? = some (.cells (cur.toList.take (n * size) ++ news ++ cur.toList.drop (n * size + news.length)).toArray e (0, 0)) → Touch (fun k => k = b) w w' → wpList P ops Q rest (a.put o.dst (.slice (some ⟨b, 0, none⟩) (n + m) cap)) w') : wpList P ops Q (o :: rest) a w := by
  refine wpList_want hw fun K hK => ?_
  obtain ⟨A, c, rfl, hmc, hcm, hcell⟩ := hr
  cases A with
  | none =>
    cases news with
    | nil => rcases Nat.mul_eq_zero.1 hl.symm with h | h <;> omega
    | cons u r => obtain ⟨b, o, hA, _⟩ := hcell 0 u rfl; cases hA
  | some ad =>
    have hcells : ∀ j u, news[j]? = some u → w.cell? (ad.add j) = some u := by
      intro j u hu
      obtain ⟨b, o, hA, h⟩ := hcell j u hu
      injection hA with hA
      subst hA
      rw [Addr.add_lit]
      exact h
    subst hsize
    have hrun := run_append_room (P := P) w t o.type e i ht hi b n cap cur hg ad m c news hl hcells h1 hroom hfit
    unfold Oper.wp execOp
    simp only [ho, resolve, invoke, builtin, Sem.run_bind, Sem.run_pure, Result.andThen_ok, List.map_toArray, List.map_cons, List.map_nil, hs, hx, hrun]
    exact hK _ _ (h _ (setRow_heap w b cur _ e _ hg) ⟨rfl, rfl, rfl, by simp, fun k _ hk => setRow_other w b k _ (fun e => hk e)⟩)
end

/-- a device but for what waits -/
def DevC (w : World) (D : TypeId) (g kb nb : Nat) (vk vn vw : Value) (K N : List Nat) : Prop :=
  w.heap[g]? = some (.cells #[vk, vn, vw] D (0, 0)) ∧ Row w kb 32 1 vk K.length (u64s K) ∧ Row w nb 32 1 vn N.length (u64s N) ∧ kb ≠ nb ∧ D ≠ 32 ∧ D ≠ 61
def footC (g kb nb b : Nat) : Prop := b = g ∨ b = kb ∨ b = nb
section
variable {w w' : World} {D : TypeId} {g kb nb : Nat} {wb : Option Nat} {vk vn vw : Value} {K N : List Nat} {L : List Pd}
theorem DevB.devC (h : DevB w D g kb nb wb vk vn vw K N L) : DevC w D g kb nb vk vn vw K N := ⟨h.1, h.2.1, h.2.2.1, h.2.2.2.2⟩
theorem DevC.devB (h : DevC w D g kb nb vk vn vw K N) (hw : WRow w wb 61 3 vw L.length (pends L)) : DevB w D g kb nb wb vk vn vw K N L := ⟨h.1, h.2.1, h.2.2.1, hw, h.2.2.2⟩
theorem DevC.cell (h : DevC w D g kb nb vk vn vw K N) : w.cell? ⟨g, 0, none⟩ = some vk ∧ w.cell? ⟨g, 1, none⟩ = some vn ∧ w.cell? ⟨g, 2, none⟩ = some vw := by
  obtain ⟨hg, _⟩ := h
  refine ⟨?_, ?_, ?_⟩
  · rw [cell_of_row w g 0 _ D (0, 0) hg]; rfl
  · rw [cell_of_row w g 1 _ D (0, 0) hg]; rfl
  · rw [cell_of_row w g 2 _ D (0, 0) hg]; rfl
theorem DevC.frozen (h : DevC w D g kb nb vk vn vw K N) (o : Nat) : w.frozen? ⟨g, o, none⟩ = false := by
  obtain ⟨hg, _⟩ := h
  simp [World.frozen?, hg]
theorem DevC.lt (h : DevC w D g kb nb vk vn vw K N) : ∀ b, footC g kb nb b → b < w.heap.size := by
  obtain ⟨hg, hk, hn, _⟩ := h
  intro b hb
  rcases hb with rfl | rfl | rfl
  · exact (Array.getElem?_eq_some_iff.1 hg).1
  · exact hk.lt
  · exact hn.lt
theorem DevC.kept (h : DevC w D g kb nb vk vn vw K N) (hb : ∀ b, footC g kb nb b → w'.heap[b]? = w.heap[b]?) : DevC w' D g kb nb vk vn vw K N := by
  obtain ⟨hg, hk, hn, r⟩ := h
  exact ⟨(hb g (.inl rfl)).trans hg, hk.kept (hb kb (.inr (.inl rfl))), hn.kept (hb nb (.inr (.inr rfl))), r⟩
theorem DevC.below (h : DevC w D g kb nb vk vn vw K N) (hb : Below w.heap.size w w') : DevC w' D g kb nb vk vn vw K N := h.kept fun b hh => hb.block b (h.lt b hh)
theorem DevC.touch {T : Nat → Prop} (h : DevC w D g kb nb vk vn vw K N) (ht : Touch T w w') (hd : ∀ b, T b → ¬ footC g kb nb b) : DevC w' D g kb nb vk vn vw K N := h.kept fun b hb => ht.block b (h.lt b hb) (fun hh => hd b hh hb)
theorem DevC.setK (h : DevC w D g kb nb vk vn vw K N) (j x : Nat) : DevC (w.setCell ⟨kb, j, none⟩ (.int .u64 (x : Nat))) D g kb nb vk vn vw (K.set j x) N := by
  obtain ⟨hg, hk, hn, hkn, d1, d2⟩ := h
  have hst := hk.stored j (.int .u64 (x : Nat))
  have e : (u64s K).set j (.int .u64 (x : Nat)) = u64s (K.set j x) := by simp [u64s, List.map_set]
  rw [e, ← (List.length_set : (K.set j x).length = K.length)] at hst
  exact ⟨(Below.heap_setCell _ _ _ g (hk.ne_block hg d1.symm).symm).trans hg, hst, hn.kept (Below.heap_setCell _ _ _ nb hkn.symm), hkn, d1, d2⟩
end

/-- what waits, as settle goes over it: R are those that wait on, from j on all are as they were -/
def Mid (w : World) (b : Nat) (R L : List Pd) (j : Nat) : Prop :=
  ∃ cur : Array Value, w.heap[b]? = some (.cells cur 61 (0, 0)) ∧ L.length * 3 ≤ cur.size ∧ cur.toList.take (R.length * 3) = pends R ∧ R.length ≤ j ∧
    ∀ i, j ≤ i → ∀ u k, k < 3 → i < L.length → (pends L)[i * 3 + k]? = some u → cur[i * 3 + k]? = some u
section
variable {w w' : World} {b : Nat} {R L : List Pd} {j : Nat}
theorem Mid.start {c : Nat} {v : Value} (h : Row w b 61 3 v L.length (pends L)) : Mid w b [] L 0 := by
  obtain ⟨hl, cap, cur, hv, hg, hn, hc, hs, ht⟩ := h
  refine ⟨cur, hg, by omega, by simp [pends], by simp, fun i _ u k hk hi hu => ?_⟩
  rw [← ht, List.getElem?_take] at hu
  split at hu
  · simpa using hu
  · cases hu
theorem Mid.kept (h : Mid w b R L j) (hb : w'.heap[b]? = w.heap[b]?) : Mid w' b R L j := by
  obtain ⟨cur, hg, r⟩ := h
  exact ⟨cur, hb.trans hg, r⟩
theorem Mid.lt (h : Mid w b R L j) : b < w.heap.size := by
  obtain ⟨cur, hg, r⟩ := h
  exact (Array.getElem?_eq_some_iff.1 hg).1
theorem Mid.below (h : Mid w b R L j) (hb : Below w.heap.size w w') : Mid w' b R L j := h.kept (hb.block b h.lt)
theorem Mid.next (h : Mid w b R L j) : Mid w b R L (j + 1) := by
  obtain ⟨cur, hg, h1, h2, h3, h4⟩ := h
  exact ⟨cur, hg, h1, h2, by omega, fun i hi => h4 i (by omega)⟩
theorem Mid.cell (h : Mid w b R L j) (hj : j < L.length) : w.cell? ⟨b, j * 3, none⟩ = some (.int .i64 L[j].p) ∧ w.cell? ⟨b, j * 3 + 1, none⟩ = some (.int .u64 L[j].w) ∧ w.cell? ⟨b, j * 3 + 2, none⟩ = some (.bool L[j].f) := by
  obtain ⟨cur, hg, h1, h2, h3, h4⟩ := h
  obtain ⟨p0, p1, p2⟩ := pends_at L j hj
  refine ⟨?_, ?_, ?_⟩
  · rw [cell_of_row w b _ cur _ (0, 0) hg]; exact h4 j (Nat.le_refl _) _ 0 (by omega) hj p0
  · rw [cell_of_row w b _ cur _ (0, 0) hg]; exact h4 j (Nat.le_refl _) _ 1 (by omega) hj p1
  · rw [cell_of_row w b _ cur _ (0, 0) hg]; exact h4 j (Nat.le_refl _) _ 2 (by omega) hj p2
theorem Mid.push {cur : Array Value} {x : Pd} (h : Mid w b R L j) (hg : w.heap[b]? = some (.cells cur 61 (0, 0))) (hj : j < L.length)
    (hw : w'.heap[b]? = some (.cells (cur.toList.take (R.length * 3) ++ pend x ++ cur.toList.drop (R.length * 3 + (pend x).length)).toArray 61 (0, 0))) : Mid w' b (R ++ [x]) L (j + 1) := by
  obtain ⟨cur', hg', h1, h2, h3, h4⟩ := h
  rw [hg] at hg'
  injection hg' with hg'
  injection hg' with hg' _
  subst hg'
  have hpl : (pend x).length = 3 := rfl
  have hcl : (cur.toList.take (R.length * 3)).length = R.length * 3 := by rw [h2, pends_length]
  refine ⟨_, hw, ?_, ?_, by rw [List.length_append]; simp; omega, fun i hi u k hk hil hu => ?_⟩
  · simp only [List.size_toArray, List.length_append, hcl, hpl, List.length_drop, Array.length_toList]
    omega
  · rw [pends_append, pends_one, ← h2, List.length_append, List.length_singleton, Nat.add_mul, Nat.one_mul]
    exact List.take_left' (by rw [List.length_append, hcl, hpl])
  · have h5 := h4 i (by omega) u k hk hil hu
    rw [List.getElem?_toArray, List.getElem?_append_right (by rw [List.length_append, hcl, hpl]; omega), List.getElem?_drop, List.length_append, hcl, hpl, ← h5]
    rw [Array.getElem?_toList]
    congr 1
    omega
theorem Mid.row (h : Mid w b R L L.length) (hm : L.length ≤ maxLen) : Row w b 61 3 (.slice (some ⟨b, 0, none⟩) R.length L.length) R.length (pends R) := by
  obtain ⟨cur, hg, h1, h2, h3, h4⟩ := h
  exact ⟨pends_length R, L.length, cur, rfl, hg, h3, hm, h1, h2⟩
end

set_option maxHeartbeats 400000 in
theorem fence1_any (i p x : Nat) (f : Bool) (w : World) : Calls Try.prog 35 #[.int .i64 i, .agg #[.int .i64 p, .int .u64 x, .bool f]] w fun e w' => e = .returned (.bool (isF i ⟨p, x, f⟩)) ∧ Below w.heap.size w w' := by
  go_enter Try.func35, Try.ntmps35
  go_wp2
  go_ret
  exact ⟨rfl, (Below.refl _ _).alloc (Nat.le_refl _) _⟩
def bools (l : List Bool) : List Value := l.map Value.bool
set_option maxHeartbeats 400000 in
theorem crash1_any (q : Nat) (v : Value) (keep : List Bool) (i p x : Nat) (f : Bool) (w : World) (hq : w.cell? ⟨q, 0, none⟩ = some v) (hr : Rd w v keep.length (bools keep)) (hk : keep.length ≤ 65536) :
    Calls Try.prog 36 #[.int .i64 i, .agg #[.int .i64 p, .int .u64 x, .bool f], .pointer (some ⟨q, 0, none⟩)] w fun e w' => e = .returned (.bool (isK keep i ⟨p, x, f⟩)) ∧ Below w.heap.size w w' := by
  have hR := hr
  obtain ⟨A, c, rfl, h1, h2, h3⟩ := hr
  have hqb := World.block_lt_of_cell? w _ hq
  have hq2 := hq
  clear h3
  by_cases hlt : i < keep.length
  · have hat : (bools keep)[i]? = some (.bool keep[i]) := by simp [bools, hlt]
    obtain ⟨b, o, rfl, hc⟩ := hR.at_ hat
    have hcb := World.block_lt_of_cell? w _ hc
    have hi : isK keep i ⟨p, x, f⟩ = keep[i] := by simp [isK, hlt, List.getD]
    have Hi := Lib.hid hi
    have hlt' : (i : Int) < (keep.length : Int) := by omega
    generalize keep[i] = y at *
    clear hi hat hR
    go_enter Try.func36, Try.ntmps36
    go_wp2
    go_ret
    exact ⟨ret_bool Hi.out.symm, (Below.refl _ _).alloc (Nat.le_refl _) _⟩
  · have hi : isK keep i ⟨p, x, f⟩ = false := by simp [isK, hlt]
    have Hi := Lib.hid hi
    have hlt' : (keep.length : Int) ≤ (i : Int) := by omega
    clear hi hR hlt
    go_enter Try.func36, Try.ntmps36
    go_wp2
    go_ret
    exact ⟨ret_bool Hi.out.symm, (Below.refl _ _).alloc (Nat.le_refl _) _⟩

set_option maxHeartbeats 8000000 in
theorem settle_fence (w : World) (g : Nat) (S : Nat → Prop) (K N : List Nat) (L : List Pd) (h : Dev w DT g S K N L) (m : Nat) (hm : K.length = 8 * m) (hm2 : m ≤ 65536) (hL : L.length ≤ 65536) (hP : ∀ x ∈ L, OkP (8 * m) x)  :
    Calls Try.prog 34 #[.pointer (some ⟨g, 0, none⟩), .func (.func 35) #[] #[]] w fun e w' => e = .returned (.tuple #[]) ∧ Goes w w' DT g S (apP K (takes (isF) 0 L)) N (rests (isF) 0 L) := by
  obtain ⟨i0, hi0, hz0, hz1, hz2⟩ := info_parts infoPd
  obtain ⟨kb, nb, wb, vk, vn, vw, hd, hs⟩ := h
  obtain ⟨c0, c1, c2⟩ := hd.cell
  have hw := hd.2.2.2.1
  have hrow := hw
  obtain ⟨A, c, rfl⟩ := hw.form
  have hLc : L.length ≤ c := by
    obtain ⟨_, _, hv, h1, _⟩ := hw.rd
    injection hv with _ _ e3
    omega
  have HC := Lib.hid hd.devC
  have HB := Lib.hid hd
  have Hs := Lib.hid hs
  have HP := Lib.hid hP
  have HW := Lib.hid hrow
  have Hm := Lib.hid hm
  clear hm hd hs hw hP hrow
  go_enter Try.func34, Try.ntmps34
  go_wp2
  go_quiet (fail)
  go_wp2
  go_loopw [4, 5, 6, 22] (fun rest _ _ i wr => ∃ j : Nat, j ≤ L.length ∧ i = .int .i64 j ∧ rest = .slice A (rests (isF) 0 (L.take j)).length L.length ∧ DevC wr DT g kb nb vk vn (.slice A L.length c) (apP K (takes (isF) 0 (L.take j))) N ∧
      (∀ b, wb = some b → Mid wr b (rests (isF) 0 (L.take j)) L j) ∧ Touch S w wr) (fun _ _ _ i _ => L.length - (intOf i).toNat)
  case atStart => exact ⟨0, by omega, rfl, rfl, HC.out, fun b hb => by subst hb; exact Mid.start (c := 0) HW.out, (Touch.refl S w).drewN nq⟩
  case round =>
    obtain ⟨j, hj, rfl, rfl, hd, hmid, ht⟩ := hrel
    by_cases hlt : j < L.length
    · cases wb with
      | none =>
        obtain ⟨_, h0, _⟩ := HW.out
        omega
      | some b =>
        have hmid := hmid b rfl
        obtain ⟨c', hv⟩ := Row.form HW.out
        injection hv with e1 e2 e3
        subst e1; subst e3
        clear e2
        have htk := takes_take (isF) L j hlt
        have hre := rests_take (isF) L j hlt
        have hxo := HP.out _ (List.getElem_mem hlt)
        have hRl := rests_le (isF) (L.take j) 0
        rw [List.length_take, Nat.min_eq_left (by omega)] at hRl
        obtain ⟨q0, q1, q2⟩ := hmid.cell hlt
        have hKl : (apP K (takes (isF) 0 (L.take j))).length = 8 * m := by rw [apP_length]; exact Hm.out
        generalize takes (isF) 0 (L.take j) = T at *
        generalize rests (isF) 0 (L.take j) = R at *
        generalize L[j] = x at *
        obtain ⟨xp, xw, xf⟩ := x
        obtain ⟨hx1, hx2⟩ := hxo
        dsimp only at q0 q1 q2 hx1 hx2
        generalize hK1 : apP K T = K1 at *
        have hj' : (j : Int) < (L.length : Int) := by omega
        have Hd := Lib.hid hd
        have Hmid := Lib.hid hmid
        have Ht := Lib.hid ht
        have Htk := Lib.hid htk
        have Hre := Lib.hid hre
        have HK1 := Lib.hid hK1
        have HKl := Lib.hid hKl
        clear hd hmid ht htk hre hK1 hKl c0 c1 c2
        have hbl := Hmid.out.lt
        go_wp2_with fail
        generalize hW : wr.alloc (.cells #[.int .i64 (xp : Nat), .int .u64 (xw : Nat), .bool xf] 61) = W2
        have hb2 : Below wr.heap.size wr W2 := by rw [← hW]; exact (Below.refl _ _).alloc (Nat.le_refl _) _
        have hn2 : W2.heap[wr.heap.size]? = some (.cells #[.int .i64 (xp : Nat), .int .u64 (xw : Nat), .bool xf] 61 (0, 0)) := by rw [← hW]; exact heap_alloc_new wr _
        have hs2 : wr.heap.size < W2.heap.size := by rw [← hW]; simp
        clear hW
        refine (fence1_any j xp xw xf _).mono ?_
        rintro e W3 ⟨rfl, hb3'⟩
        have hb3 := below_then hb2 hb3'
        have hn3 := (hb3'.block wr.heap.size hs2).trans hn2
        have k0 : W3.cell? ⟨wr.heap.size, 0, none⟩ = some (.int .i64 (xp : Nat)) := by rw [cell_of_row _ _ 0 _ _ _ hn3]; rfl
        have k1 : W3.cell? ⟨wr.heap.size, 1, none⟩ = some (.int .u64 (xw : Nat)) := by rw [cell_of_row _ _ 1 _ _ _ hn3]; rfl
        have k2 : W3.cell? ⟨wr.heap.size, 2, none⟩ = some (.bool xf) := by rw [cell_of_row _ _ 2 _ _ _ hn3]; rfl
        have hd3 := Hd.out.below hb3
        have hmid3 := Hmid.out.below hb3
        have Hd3 := Lib.hid hd3
        have Hmid3 := Lib.hid hmid3
        have Ht3 := Lib.hid (Ht.out.trans (Touch.of_below (S := S) hb3) (fun b hb => .inl hb))
        clear hb2 hb3 hb3' hn2 hn3 hs2 hmid3
        cases hy : (isF) j ⟨xp, xw, xf⟩ with
        | true =>
          have htk := Htk.out
          have hre := Hre.out
          rw [hy] at htk hre
          rw [if_pos rfl] at htk hre
          have Htk' := Lib.hid htk
          have Hre' := Lib.hid hre
          obtain ⟨d0, _, _⟩ := hd3.cell
          have hrk := hd3.2.1
          obtain ⟨ck, hvk⟩ := hrk.form
          subst hvk
          have ha := hrk.cell (at_word (l := K1) (k := xp) (by rw [HKl.out]; exact hx1))
          have hfk := hrk.frozen xp
          have HsK := Lib.hid (hd3.setK xp xw)
          generalize wd K1 xp = z at *
          have hKle := HKl.out
          have hxp' : (xp : Int) < (K1.length : Int) := by omega
          clear hd3 hrk htk hre hy hKle
          go_wp2
          go_still_tail 9, (by kernel_rfl)
          go_wp2
          go_roundw
          case rel =>
            refine ⟨j + 1, by omega, by go_num, ?_, ?_, fun b' hb' => ?_, (Ht3.out.setCell ⟨kb, xp, none⟩ (.inl ((Hs.out kb).2 (.inr (.inl rfl)))) _).drew⟩
            · rw [Hre'.out, List.append_nil]
            · rw [Htk'.out, apP_snoc, HK1.out]
              exact HsK.out
            · cases hb'
              rw [Hre'.out, List.append_nil]
              refine Hmid3.out.next.kept (Below.heap_setCell _ _ _ b ?_)
              exact fun e => (HB.out.ne).2.2.2.1 (by rw [e])
          case measure => simp [intOf]; omega
        | false =>
          have htk := Htk.out
          have hre := Hre.out
          rw [hy] at htk hre
          rw [if_neg (by decide)] at htk hre
          have Htk' := Lib.hid htk
          have Hre' := Lib.hid hre
          obtain ⟨cur, hcur, hcs, hct, hcj, hci⟩ := Hmid3.out
          have HRn := Lib.hid (Rd.newAt W3 W3.heap.size rfl (pend ⟨xp, xw, xf⟩) 61 (by simp [pend]) 1 (by omega))
          have hcur4 : (W3.alloc (.cells #[.int .i64 (xp : Nat), .int .u64 (xw : Nat), .bool xf] 61)).heap[b]? = some (.cells cur 61 (0, 0)) := (heap_alloc_old _ _ Hmid3.out.lt).trans hcur
          have Hcur4 := Lib.hid hcur4
          have hfit : R.length * 3 + (pend ⟨xp, xw, xf⟩).length ≤ cur.size := by simp [pend]; omega
          have Hfit := Lib.hid hfit
          clear htk hre hy hcur hct hci hcur4 hfit hd3
          go_wp2_with (at_builtin; go_loud (refine wpList_append_in rfl (.tmp 40) (.tmp 42) 48 rfl 61 i0 3 Try.underlying48 hi0 hz1 (by decide) b R.length L.length cur rfl Hcur4.out _ 1 (pend ⟨xp, xw, xf⟩) rfl HRn.out rfl (by omega) (by rw [← pends_one]; exact pends_oneCell _) (by omega) Hfit.out ?_); intro w5 hw5 ht5; have Hw5 := Lib.hid hw5; have Ht5 := Lib.hid ht5; clear hw5 ht5)
          go_roundw
          case rel =>
            have hmid4 := Hmid3.out.below ((Below.refl _ _).alloc (Nat.le_refl _) (.cells #[.int .i64 (xp : Nat), .int .u64 (xw : Nat), .bool xf] 61))
            have hd4 := Hd3.out.below ((Below.refl _ _).alloc (Nat.le_refl _) (.cells #[.int .i64 (xp : Nat), .int .u64 (xw : Nat), .bool xf] 61))
            refine ⟨j + 1, by omega, by go_num, ?_, ?_, fun b' hb' => ?_, ?_⟩
            · rw [Hre'.out, List.length_append]; rfl
            · rw [Htk'.out, List.append_nil, HK1.out]
              refine hd4.touch Ht5.out (fun b' hb' hf => ?_)
              subst hb'
              obtain ⟨n1, n2, n3, n4, n5⟩ := HB.out.ne
              rcases hf with hf | hf | hf
              · exact n3 (by rw [hf])
              · exact n4 (by rw [hf])
              · exact n5 (by rw [hf])
            · cases hb'
              rw [Hre'.out]
              exact hmid4.push Hcur4.out hlt Hw5.out
            · exact (Ht3.out.alloc _).trans Ht5.out (fun b' hb' => .inl ((Hs.out b').2 (.inr (.inr (.inr (by rw [hb'])))))) 
          case measure => simp [intOf]; omega
    · obtain rfl : j = L.length := by omega
      rw [List.take_length] at hd hmid
      obtain ⟨_, _, d2⟩ := hd.cell
      have hf2 := hd.frozen 2
      have Hd := Lib.hid hd
      have Hmid := Lib.hid hmid
      have Ht := Lib.hid ht
      rw [List.take_length]
      clear hd hmid ht c0 c1 c2
      go_wp2
      go_end0
      refine ⟨rfl, S, ?_, Ht.out.setCell ⟨g, 2, none⟩ (.inl ((Hs.out g).2 (.inl rfl))) _, fun b hb => .inl hb⟩
      refine ⟨kb, nb, wb, vk, vn, .slice A (rests (isF) 0 L).length L.length, ?_, Hs.out⟩
      cases wb with
      | none =>
        obtain ⟨hv, hl0, _⟩ := HW.out
        injection hv with e1 e2 e3
        have hnil : L = [] := List.eq_nil_of_length_eq_zero hl0
        subst hnil
        subst e1; subst e3
        have := (Hd.out.devB (wb := none) (L := []) (WRow.nil _ _ _)).setW (wb' := none) (v' := .slice none 0 0) (L' := []) (WRow.nil _ _ _)
        exact this
      | some b =>
        obtain ⟨c', hv⟩ := Row.form HW.out
        injection hv with e1 _ _
        subst e1
        have hrow := (Hmid.out b rfl).row (by unfold maxLen; omega)
        have hbase : WRow wr (some b) 61 3 (.slice (some ⟨b, 0, none⟩) (rests (isF) 0 L).length L.length) (rests (isF) 0 L).length (pends (rests (isF) 0 L)) := hrow
        obtain ⟨hg, hk, hn, hkn, d1, d2'⟩ := Hd.out
        obtain ⟨n1, n2, n3, n4, n5⟩ := HB.out.ne
        exact ⟨heap_setCell_same wr g 2 _ DT _ hg, hk.kept (Below.heap_setCell _ _ _ kb n1), hn.kept (Below.heap_setCell _ _ _ nb n2), hbase.kept (fun b' hb' => Below.heap_setCell _ _ _ b' (fun e2 => n3 (by rw [hb', e2]))), hkn, d1, d2'⟩

set_option maxHeartbeats 8000000 in
theorem settle_crash (w : World) (g : Nat) (S : Nat → Prop) (K N : List Nat) (L : List Pd) (h : Dev w DT g S K N L) (m : Nat) (hm : K.length = 8 * m) (hm2 : m ≤ 65536) (hL : L.length ≤ 65536) (hP : ∀ x ∈ L, OkP (8 * m) x) (q : Nat) (v : Value) (keep : List Bool) (hq : w.cell? ⟨q, 0, none⟩ = some v) (hqS : ¬ S q) (hr : Rd w v keep.length (bools keep)) (hrS : ∀ b o c, v = .slice (some ⟨b, o, none⟩) keep.length c → ¬ S b) (hk : keep.length ≤ 65536) :
    Calls Try.prog 34 #[.pointer (some ⟨g, 0, none⟩), .func (.func 36) #[] #[.pointer (some ⟨q, 0, none⟩)]] w fun e w' => e = .returned (.tuple #[]) ∧ Goes w w' DT g S (apP K (takes (isK keep) 0 L)) N (rests (isK keep) 0 L) := by
  obtain ⟨i0, hi0, hz0, hz1, hz2⟩ := info_parts infoPd
  obtain ⟨kb, nb, wb, vk, vn, vw, hd, hs⟩ := h
  obtain ⟨c0, c1, c2⟩ := hd.cell
  have hw := hd.2.2.2.1
  have hrow := hw
  obtain ⟨A, c, rfl⟩ := hw.form
  have hLc : L.length ≤ c := by
    obtain ⟨_, _, hv, h1, _⟩ := hw.rd
    injection hv with _ _ e3
    omega
  have HC := Lib.hid hd.devC
  have HB := Lib.hid hd
  have Hs := Lib.hid hs
  have HP := Lib.hid hP
  have HW := Lib.hid hrow
  have Hm := Lib.hid hm
  have Hq := Lib.hid hq
  have HqS := Lib.hid hqS
  have Hr := Lib.hid hr
  have HrS := Lib.hid hrS
  clear hq hqS hr hrS
  clear hm hd hs hw hP hrow
  go_enter Try.func34, Try.ntmps34
  go_wp2
  go_quiet (fail)
  go_wp2
  go_loopw [4, 5, 6, 22] (fun rest _ _ i wr => ∃ j : Nat, j ≤ L.length ∧ i = .int .i64 j ∧ rest = .slice A (rests (isK keep) 0 (L.take j)).length L.length ∧ DevC wr DT g kb nb vk vn (.slice A L.length c) (apP K (takes (isK keep) 0 (L.take j))) N ∧
      (∀ b, wb = some b → Mid wr b (rests (isK keep) 0 (L.take j)) L j) ∧ Touch S w wr) (fun _ _ _ i _ => L.length - (intOf i).toNat)
  case atStart => exact ⟨0, by omega, rfl, rfl, HC.out, fun b hb => by subst hb; exact Mid.start (c := 0) HW.out, (Touch.refl S w).drewN nq⟩
  case round =>
    obtain ⟨j, hj, rfl, rfl, hd, hmid, ht⟩ := hrel
    by_cases hlt : j < L.length
    · cases wb with
      | none =>
        obtain ⟨_, h0, _⟩ := HW.out
        omega
      | some b =>
        have hmid := hmid b rfl
        obtain ⟨c', hv⟩ := Row.form HW.out
        injection hv with e1 e2 e3
        subst e1; subst e3
        clear e2
        have htk := takes_take (isK keep) L j hlt
        have hre := rests_take (isK keep) L j hlt
        have hxo := HP.out _ (List.getElem_mem hlt)
        have hRl := rests_le (isK keep) (L.take j) 0
        rw [List.length_take, Nat.min_eq_left (by omega)] at hRl
        obtain ⟨q0, q1, q2⟩ := hmid.cell hlt
        have hKl : (apP K (takes (isK keep) 0 (L.take j))).length = 8 * m := by rw [apP_length]; exact Hm.out
        generalize takes (isK keep) 0 (L.take j) = T at *
        generalize rests (isK keep) 0 (L.take j) = R at *
        generalize L[j] = x at *
        obtain ⟨xp, xw, xf⟩ := x
        obtain ⟨hx1, hx2⟩ := hxo
        dsimp only at q0 q1 q2 hx1 hx2
        generalize hK1 : apP K T = K1 at *
        have hj' : (j : Int) < (L.length : Int) := by omega
        have Hd := Lib.hid hd
        have Hmid := Lib.hid hmid
        have Ht := Lib.hid ht
        have Htk := Lib.hid htk
        have Hre := Lib.hid hre
        have HK1 := Lib.hid hK1
        have HKl := Lib.hid hKl
        clear hd hmid ht htk hre hK1 hKl c0 c1 c2
        have hbl := Hmid.out.lt
        go_wp2_with fail
        generalize hW : wr.alloc (.cells #[.int .i64 (xp : Nat), .int .u64 (xw : Nat), .bool xf] 61) = W2
        have hb2 : Below wr.heap.size wr W2 := by rw [← hW]; exact (Below.refl _ _).alloc (Nat.le_refl _) _
        have hn2 : W2.heap[wr.heap.size]? = some (.cells #[.int .i64 (xp : Nat), .int .u64 (xw : Nat), .bool xf] 61 (0, 0)) := by rw [← hW]; exact heap_alloc_new wr _
        have hs2 : wr.heap.size < W2.heap.size := by rw [← hW]; simp
        clear hW
        have hq2 := (hb2.cell (p := ⟨q, 0, none⟩) (World.block_lt_of_cell? _ _ (Ht.out.cell HqS.out Hq.out))).trans (Ht.out.cell HqS.out Hq.out)
        refine (crash1_any q v keep j xp xw xf _ hq2 ((Hr.out.touch Ht.out HrS.out).below hb2) hk).mono ?_
        rintro e W3 ⟨rfl, hb3'⟩
        clear hq2
        have hb3 := below_then hb2 hb3'
        have hn3 := (hb3'.block wr.heap.size hs2).trans hn2
        have k0 : W3.cell? ⟨wr.heap.size, 0, none⟩ = some (.int .i64 (xp : Nat)) := by rw [cell_of_row _ _ 0 _ _ _ hn3]; rfl
        have k1 : W3.cell? ⟨wr.heap.size, 1, none⟩ = some (.int .u64 (xw : Nat)) := by rw [cell_of_row _ _ 1 _ _ _ hn3]; rfl
        have k2 : W3.cell? ⟨wr.heap.size, 2, none⟩ = some (.bool xf) := by rw [cell_of_row _ _ 2 _ _ _ hn3]; rfl
        have hd3 := Hd.out.below hb3
        have hmid3 := Hmid.out.below hb3
        have Hd3 := Lib.hid hd3
        have Hmid3 := Lib.hid hmid3
        have Ht3 := Lib.hid (Ht.out.trans (Touch.of_below (S := S) hb3) (fun b hb => .inl hb))
        clear hb2 hb3 hb3' hn2 hn3 hs2 hmid3
        cases hy : (isK keep) j ⟨xp, xw, xf⟩ with
        | true =>
          have htk := Htk.out
          have hre := Hre.out
          rw [hy] at htk hre
          rw [if_pos rfl] at htk hre
          have Htk' := Lib.hid htk
          have Hre' := Lib.hid hre
          obtain ⟨d0, _, _⟩ := hd3.cell
          have hrk := hd3.2.1
          obtain ⟨ck, hvk⟩ := hrk.form
          subst hvk
          have ha := hrk.cell (at_word (l := K1) (k := xp) (by rw [HKl.out]; exact hx1))
          have hfk := hrk.frozen xp
          have HsK := Lib.hid (hd3.setK xp xw)
          generalize wd K1 xp = z at *
          have hKle := HKl.out
          have hxp' : (xp : Int) < (K1.length : Int) := by omega
          clear hd3 hrk htk hre hy hKle
          go_wp2
          go_still_tail 9, (by kernel_rfl)
          go_wp2
          go_roundw
          case rel =>
            refine ⟨j + 1, by omega, by go_num, ?_, ?_, fun b' hb' => ?_, (Ht3.out.setCell ⟨kb, xp, none⟩ (.inl ((Hs.out kb).2 (.inr (.inl rfl)))) _).drew⟩
            · rw [Hre'.out, List.append_nil]
            · rw [Htk'.out, apP_snoc, HK1.out]
              exact HsK.out
            · cases hb'
              rw [Hre'.out, List.append_nil]
              refine Hmid3.out.next.kept (Below.heap_setCell _ _ _ b ?_)
              exact fun e => (HB.out.ne).2.2.2.1 (by rw [e])
          case measure => simp [intOf]; omega
        | false =>
          have htk := Htk.out
          have hre := Hre.out
          rw [hy] at htk hre
          rw [if_neg (by decide)] at htk hre
          have Htk' := Lib.hid htk
          have Hre' := Lib.hid hre
          obtain ⟨cur, hcur, hcs, hct, hcj, hci⟩ := Hmid3.out
          have HRn := Lib.hid (Rd.newAt W3 W3.heap.size rfl (pend ⟨xp, xw, xf⟩) 61 (by simp [pend]) 1 (by omega))
          have hcur4 : (W3.alloc (.cells #[.int .i64 (xp : Nat), .int .u64 (xw : Nat), .bool xf] 61)).heap[b]? = some (.cells cur 61 (0, 0)) := (heap_alloc_old _ _ Hmid3.out.lt).trans hcur
          have Hcur4 := Lib.hid hcur4
          have hfit : R.length * 3 + (pend ⟨xp, xw, xf⟩).length ≤ cur.size := by simp [pend]; omega
          have Hfit := Lib.hid hfit
          clear htk hre hy hcur hct hci hcur4 hfit hd3
          go_wp2_with (at_builtin; go_loud (refine wpList_append_in rfl (.tmp 40) (.tmp 42) 48 rfl 61 i0 3 Try.underlying48 hi0 hz1 (by decide) b R.length L.length cur rfl Hcur4.out _ 1 (pend ⟨xp, xw, xf⟩) rfl HRn.out rfl (by omega) (by rw [← pends_one]; exact pends_oneCell _) (by omega) Hfit.out ?_); intro w5 hw5 ht5; have Hw5 := Lib.hid hw5; have Ht5 := Lib.hid ht5; clear hw5 ht5)
          go_roundw
          case rel =>
            have hmid4 := Hmid3.out.below ((Below.refl _ _).alloc (Nat.le_refl _) (.cells #[.int .i64 (xp : Nat), .int .u64 (xw : Nat), .bool xf] 61))
            have hd4 := Hd3.out.below ((Below.refl _ _).alloc (Nat.le_refl _) (.cells #[.int .i64 (xp : Nat), .int .u64 (xw : Nat), .bool xf] 61))
            refine ⟨j + 1, by omega, by go_num, ?_, ?_, fun b' hb' => ?_, ?_⟩
            · rw [Hre'.out, List.length_append]; rfl
            · rw [Htk'.out, List.append_nil, HK1.out]
              refine hd4.touch Ht5.out (fun b' hb' hf => ?_)
              subst hb'
              obtain ⟨n1, n2, n3, n4, n5⟩ := HB.out.ne
              rcases hf with hf | hf | hf
              · exact n3 (by rw [hf])
              · exact n4 (by rw [hf])
              · exact n5 (by rw [hf])
            · cases hb'
              rw [Hre'.out]
              exact hmid4.push Hcur4.out hlt Hw5.out
            · exact (Ht3.out.alloc _).trans Ht5.out (fun b' hb' => .inl ((Hs.out b').2 (.inr (.inr (.inr (by rw [hb'])))))) 
          case measure => simp [intOf]; omega
    · obtain rfl : j = L.length := by omega
      rw [List.take_length] at hd hmid
      obtain ⟨_, _, d2⟩ := hd.cell
      have hf2 := hd.frozen 2
      have Hd := Lib.hid hd
      have Hmid := Lib.hid hmid
      have Ht := Lib.hid ht
      rw [List.take_length]
      clear hd hmid ht c0 c1 c2
      go_wp2
      go_end0
      refine ⟨rfl, S, ?_, Ht.out.setCell ⟨g, 2, none⟩ (.inl ((Hs.out g).2 (.inl rfl))) _, fun b hb => .inl hb⟩
      refine ⟨kb, nb, wb, vk, vn, .slice A (rests (isK keep) 0 L).length L.length, ?_, Hs.out⟩
      cases wb with
      | none =>
        obtain ⟨hv, hl0, _⟩ := HW.out
        injection hv with e1 e2 e3
        have hnil : L = [] := List.eq_nil_of_length_eq_zero hl0
        subst hnil
        subst e1; subst e3
        have := (Hd.out.devB (wb := none) (L := []) (WRow.nil _ _ _)).setW (wb' := none) (v' := .slice none 0 0) (L' := []) (WRow.nil _ _ _)
        exact this
      | some b =>
        obtain ⟨c', hv⟩ := Row.form HW.out
        injection hv with e1 _ _
        subst e1
        have hrow := (Hmid.out b rfl).row (by unfold maxLen; omega)
        have hbase : WRow wr (some b) 61 3 (.slice (some ⟨b, 0, none⟩) (rests (isK keep) 0 L).length L.length) (rests (isK keep) 0 L).length (pends (rests (isK keep) 0 L)) := hrow
        obtain ⟨hg, hk, hn, hkn, d1, d2'⟩ := Hd.out
        obtain ⟨n1, n2, n3, n4, n5⟩ := HB.out.ne
        exact ⟨heap_setCell_same wr g 2 _ DT _ hg, hk.kept (Below.heap_setCell _ _ _ kb n1), hn.kept (Below.heap_setCell _ _ _ nb n2), hbase.kept (fun b' hb' => Below.heap_setCell _ _ _ b' (fun e2 => n3 (by rw [hb', e2]))), hkn, d1, d2'⟩
end Go.Proofs.Ytdkcghicobakhaa
