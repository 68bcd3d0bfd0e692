/- pool.free: the iterator over the bits that are not; pool.Free, the caller that counts. -/
import Derived.Test.YteojodddfanepaaPoolDrop
import Derived.RangeFuncNested
import Derived.RangeFuncBound
import Derived.RangeFuncCalls
import Derived.RangeFuncLeaves
import Derived.Shelf.Abstract
import Derived.Shelf.RegionOpen
import Derived.OwnWalkIn
import Derived.TacticsInMore
import Derived.LoopNIn
import Derived.LoopIn
namespace Go.Proofs.Yteojodddfanepaa
open Go.RowKit Go.Shelf
set_option linter.unusedVariables false
attribute [local go_sem] Oper.semAt_some
attribute [local go_sem ↓] run_least2

/-- the free ones below k, each with its bound -/
def freF (l : List Nat) (k : Nat) : List (Fin (64 * l.length)) := (List.range k).filterMap fun i => if h : i < 64 * l.length ∧ bitOf l i = false then some ⟨i, h.1⟩ else none
theorem freF_zero (l : List Nat) : freF l 0 = [] := rfl
theorem freF_yes {l : List Nat} {k : Nat} (hk : k < 64 * l.length) (h : bitOf l k = false) : freF l (k + 1) = freF l k ++ [⟨k, hk⟩] := by
  unfold freF
  rw [List.range_succ, List.filterMap_append]
  refine congrArg (_ ++ ·) ?_
  simp [hk, h]
theorem freF_no {l : List Nat} {k : Nat} (h : bitOf l k = true) : freF l (k + 1) = freF l k := by
  unfold freF
  rw [List.range_succ, List.filterMap_append]
  simp [h]
theorem freF_val {l : List Nat} : ∀ {k : Nat}, k ≤ 64 * l.length → (freF l k).map Fin.val = frees l k
  | 0, _ => rfl
  | k + 1, h => by
    have ih := freF_val (l := l) (k := k) (by omega)
    cases hb : bitOf l k with
    | true => rw [freF_no hb, ih, frees_succ, if_pos hb]
    | false => rw [freF_yes (by omega) hb, List.map_append, ih, frees_succ, if_neg (by rw [hb]; decide)]; rfl
theorem freF_length {l : List Nat} {k : Nat} (h : k ≤ 64 * l.length) : (freF l k).length ≤ k := by
  have := congrArg List.length (freF_val h)
  rw [List.length_map] at this
  rw [this]
  exact frees_length_le l k
theorem freF_prefix {l : List Nat} {k n : Nat} (h : k ≤ n) : freF l k <+: freF l n := by
  obtain ⟨d, rfl⟩ : ∃ d, n = k + d := ⟨n - k, by omega⟩
  unfold freF
  rw [List.range_add, List.filterMap_append]
  exact List.prefix_append _ _
/-- 'x >> r & 1 == 0' -/
theorem and_zero (x r : Nat) (hx : x < 18446744073709551616) : (bits BinOp.and IntKind.u64 ((x : Int) / 2 ^ r) 1 == 0) = !x.testBit r := by
  have h := u64_and_nat (x / 2 ^ r) 1 (Nat.lt_of_le_of_lt (Nat.div_le_self _ _) hx) (by decide)
  rw [Nat.and_one_is_mod] at h
  rw [div_pow]
  have h' : bits BinOp.and IntKind.u64 ((x / 2 ^ r : Nat) : Int) 1 = ((x / 2 ^ r % 2 : Nat) : Int) := h
  rw [h', testBit_div, Bool.eq_iff_iff, beq_iff_eq, Bool.not_eq_true', decide_eq_false_iff_not]
  omega

/-- what a round of a caller keeps: what lay below n₀, and the cell that holds the row -/
def Kb (n₀ Bl : Nat) (W W' : World) : Prop := Below n₀ W W' ∧ W'.cell? ⟨Bl, 0, none⟩ = W.cell? ⟨Bl, 0, none⟩
theorem Kb.refl (n₀ Bl : Nat) (W : World) : Kb n₀ Bl W W := ⟨Below.refl _ _, rfl⟩
theorem Kb.trans {n₀ Bl : Nat} {A B C : World} (h : Kb n₀ Bl A B) (k : Kb n₀ Bl B C) : Kb n₀ Bl A C := ⟨h.1.trans k.1, k.2.trans h.2⟩
theorem Kb_b {n₀ Bl : Nat} {w : World} (hn : n₀ ≤ w.heap.size) (hB : Bl < w.heap.size) : ∀ (W : World) (l : Nat) (o o' : Obj), w.heap.size ≤ l → W.heap[l]? = some o → o.isCells = false → o.isWalk = false → Kb n₀ Bl W (W.putObj l o') :=
  fun W l o o' hl ho h1 h2 => ⟨belowK_b hn W l o o' hl ho h1 h2, World.cell?_of_block ((grownBy_putObj' W l o').block Bl (by have := (Array.getElem?_eq_some_iff.1 ho).1; omega) (by simp; omega))⟩

set_option maxRecDepth 100000 in
set_option maxHeartbeats 2000000 in
theorem free1_in (F : Fence) (m : Nat) (hf : F.fn 27) (hro : F.round = none) (hm : 1 ≤ m) (lp Bl Bn n₀ : Nat) (A : Option Addr) (c : Nat) (l : List Nat) (hw : Wd64 l) (hl : l.length ≤ 65536) (n : Nat) (hn : n ≤ 64 * l.length)
    (J Jx : List (Fin (64 * l.length)) → World → Prop)
    (hY : ∀ pre x W, J pre W → pre.length < 64 * l.length → YieldAt F (m - 1) Try.prog lp #[.int .i64 (x.val : Int)] W fun e W' =>
      (e = .returned (.bool true) ∧ J (pre ++ [x]) W' ∧ Kb n₀ Bl W W') ∨ (e = .returned (.bool false) ∧ Jx (pre ++ [x]) W'))
    (W : World) (hcl : W.cell? ⟨Bl, 0, none⟩ = some (.slice A l.length c)) (hcn : W.cell? ⟨Bn, 0, none⟩ = some (.int .i64 n))
    (hc : ∀ j (hj : j < l.length), ∃ b o, A = some ⟨b, o, none⟩ ∧ b < n₀ ∧ W.cell? ⟨b, o + j, none⟩ = some (.int .u64 (l[j] : Nat))) (h0 : J [] W) :
    CallsIn F m Try.prog 27 #[.func (.yield lp) #[] #[], .pointer (some ⟨Bn, 0, none⟩), .pointer (some ⟨Bl, 0, none⟩)] W fun e W' => (∃ v, e = .returned v) ∧
      ((∃ ys, ys = freF l n ∧ J ys W') ∨ (∃ pre, pre <+: freF l n ∧ Jx pre W')) := by
  have hle := least2_nat n (64 * l.length) n (by omega)
  rw [show ((64 * l.length : Nat) : Int) = 64 * (l.length : Int) by push_cast; rfl] at hle
  refine callsIn_of_wp Try.func27 rfl hf ?_ hro
  simp only [Try.ntmps27, List.size_toArray, List.length_cons, List.length_nil, Nat.reduceAdd, Nat.reduceSub, Array.replicate_succ, Array.replicate_zero, List.push_toArray, List.append_toArray, List.nil_append, List.cons_append]
  gi_wp2
  gi_loopw [10] (fun i wr => ∃ k : Nat, k ≤ n ∧ i = .int .i64 k ∧ J (freF l k) wr ∧ Kb n₀ Bl W wr)
    (fun i _ => n - (intOf i).toNat)
  case atStart => exact ⟨0, Nat.zero_le _, rfl, h0, Kb.refl _ _ _⟩
  case round =>
    obtain ⟨k, hk, rfl, hJs, hnx⟩ := hrel
    by_cases hlt : k < n
    · have hq : k / 64 < l.length := by omega
      obtain ⟨b, o, rfl, hb, hcx⟩ := hc _ hq
      have hcx' := (hnx.1.cell (p := ⟨b, o + k / 64, none⟩) hb).trans hcx
      have hcl' := hnx.2.trans hcl
      have hx : l[k / 64] < 18446744073709551616 := hw _ (List.getElem_mem hq)
      have hb2 := bitOf_at hq
      have hlen := freF_length (l := l) (k := k) (by omega)
      generalize l[k / 64] = x at *
      have hz := and_zero x (k % 64) hx
      rw [← hb2] at hz
      have hq' : (k : Int) / 64 < (l.length : Int) := by omega
      cases hbit : bitOf l k with
      | true =>
        have hno := freF_no hbit
        rw [hbit] at hz
        have hz' : (bits BinOp.and IntKind.u64 ((x : Int) / 2 ^ (k % 64)) 1 == 0) = false := hz
        have Hno := Lib.hid hno
        clear hno hcx hcl hw hc hY hb2 hbit hz
        gi_wp2
        refine ⟨fun f hf' => (by cases hf'), ?_⟩
        gi_wp2
        go_roundw
        case rel => exact ⟨k + 1, by omega, by simp, by rw [Hno.out]; exact hJs, hnx⟩
        case measure => simp [intOf]; omega
      | false =>
        have hyes := freF_yes (show k < 64 * l.length by omega) hbit
        have hpre := freF_prefix (l := l) (show k + 1 ≤ n by omega)
        rw [hbit] at hz
        have hz' : (bits BinOp.and IntKind.u64 ((x : Int) / 2 ^ (k % 64)) 1 == 0) = true := hz
        obtain ⟨fn, tmps, assign, body, hy, hR⟩ := hY (freF l k) ⟨k, by omega⟩ _ hJs (by omega)
        have Hyes := Lib.hid hyes
        have Hpre := Lib.hid hpre
        clear hyes hpre hcx hcl hw hc hY hb2 hbit hz
        dsimp only at hy
        gi_wp2
        refine hR.mono ?_
        rintro e W3 (⟨rfl, hJ3, hk3⟩ | ⟨rfl, hJx3⟩)
        · gi_wp2
          go_roundw
          case rel => exact ⟨k + 1, by omega, by simp, by rw [Hyes.out]; exact hJ3, hnx.trans hk3⟩
          case measure => simp [intOf]; omega
        · gi_wp2
          refine bodyPost_ret (results_none rfl _ _ _) rfl ?_
          exact ⟨⟨_, rfl⟩, .inr ⟨_, by rw [← Hyes.out]; exact Hpre.out, hJx3⟩⟩
    · obtain rfl : k = n := by omega
      gi_wp2
      go_end0
      exact ⟨⟨_, rfl⟩, .inl ⟨_, rfl, hJs⟩⟩

set_option maxHeartbeats 1000000 in
theorem free_in (F : Fence) (m : Nat) (hf : F.fn 22) (hro : F.round = none) (a : Option Addr) (len cap : Nat) (n : Int) (w : World) :
    CallsIn F m Try.prog 22 #[.slice a len cap, .int .i64 n] w fun e w' => e = .returned (.func (.func 27) #[] #[.pointer (some ⟨w.heap.size + 1, 0, none⟩), .pointer (some ⟨w.heap.size, 0, none⟩)]) ∧
      w' = (w.alloc (.cells #[.slice a len cap] 22)).alloc (.cells #[.int .i64 n] 3) := by
  refine callsIn_of_wp Try.func22 rfl hf ?_ hro
  simp only [Try.ntmps22, List.size_toArray, List.length_cons, List.length_nil, Nat.reduceAdd, Nat.reduceSub, Array.replicate_succ, Array.replicate_zero, List.push_toArray, List.append_toArray, List.nil_append, List.cons_append]
  gi_wp2
  go_ret
  exact ⟨rfl, rfl⟩

theorem free_stops (F : Fence) (m : Nat) (hf : F.fn 27) (hro : F.round = none) (hm : 1 ≤ m) (Bl Bn n₀ : Nat) (A : Option Addr) (c : Nat) (l : List Nat) (hw : Wd64 l) (hl : l.length ≤ 65536) (n : Nat) (hn : n ≤ 64 * l.length) (w : World)
    (hBl : Bl < w.heap.size) (hBn : Bn < w.heap.size) (hn₀ : n₀ ≤ w.heap.size) (hcl : w.cell? ⟨Bl, 0, none⟩ = some (.slice A l.length c)) (hcn : w.cell? ⟨Bn, 0, none⟩ = some (.int .i64 n))
    (hI : ∀ j (hj : j < l.length), ∃ b o, A = some ⟨b, o, none⟩ ∧ b < n₀ ∧ w.cell? ⟨b, o + j, none⟩ = some (.int .u64 (l[j] : Nat))) :
    SeqStopsK F m Try.prog 27 #[.pointer (some ⟨Bn, 0, none⟩), .pointer (some ⟨Bl, 0, none⟩)] (fun x : Fin (64 * l.length) => #[Value.int .i64 (x.val : Int)]) (Kb n₀ Bl) (fun ys => ys = freF l n) (fun pre => pre <+: freF l n) (64 * l.length) w := fun lp J Jx W hW _ _ hY h0 =>
  free1_in F m hf hro hm lp Bl Bn n₀ A c l hw hl n hn J Jx hY W ((hW.cell (p := ⟨Bl, 0, none⟩) hBl).trans hcl) ((hW.cell (p := ⟨Bn, 0, none⟩) hBn).trans hcn) (fun j hj => by
    obtain ⟨b, o, hA, hb, h⟩ := hI j hj
    exact ⟨b, o, hA, hb, (hW.cell (p := ⟨b, o + j, none⟩) (by show b < w.heap.size; omega)).trans h⟩) h0
end Go.Proofs.Yteojodddfanepaa
