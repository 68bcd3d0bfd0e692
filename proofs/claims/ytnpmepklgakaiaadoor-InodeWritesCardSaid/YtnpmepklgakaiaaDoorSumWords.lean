/- sum.Words: a range over the function that sum.bytes hands back. The iterator by its contract, the caller by the law of a loop over such a one. -/
import Derived.Test.YtnpmepklgakaiaaDoorSumRefW
import Derived.RangeFuncNested
import Derived.RangeFuncBound
import Derived.RangeFuncCalls
import Derived.RangeFuncLeaves
import Derived.Shelf.Abstract
import Derived.Shelf.RegionOpen
import Derived.OwnWalkIn
import Derived.TacticsInMore
import Derived.LoopNIn
import Derived.LoopIn
namespace Go.Proofs.YtnpmepklgakaiaaDoor
open Go.RowKit Go.Shelf
set_option linter.unusedVariables false
attribute [local go_sem] Oper.semAt_some

/-- a word's bytes, each below 256 -/
def wbF (x : Nat) : List (Fin 256) := (List.range 8).map fun k => ⟨x / 2 ^ (8 * k) % 256, Nat.mod_lt _ (by decide)⟩
def flF (l : List Nat) : List (Fin 256) := l.flatMap wbF
theorem wbF_val (x : Nat) : (wbF x).map Fin.val = wbytes x := by simp [wbF, wbytes]
theorem flF_val (l : List Nat) : (flF l).map Fin.val = l.flatMap wbytes := by
  induction l with
  | nil => rfl
  | cons x l ih =>
    unfold flF at ih ⊢
    rw [List.flatMap_cons, List.flatMap_cons, List.map_append, ih, wbF_val]
theorem wbF_length (x : Nat) : (wbF x).length = 8 := by simp [wbF]
theorem flF_length (l : List Nat) : (flF l).length = 8 * l.length := by
  induction l with
  | nil => rfl
  | cons x l ih =>
    unfold flF at ih ⊢
    rw [List.flatMap_cons, List.length_append, ih, wbF_length, List.length_cons]
    omega
/-- what has come of row l when i words are over and k bytes of the next -/
def come (l : List Nat) (i k : Nat) : List (Fin 256) := flF (l.take i) ++ (wbF (l.getD i 0)).take k
theorem come_length {l : List Nat} {i k : Nat} (hi : i ≤ l.length) (hk : k ≤ 8) : (come l i k).length = 8 * i + k := by
  unfold come
  rw [List.length_append, flF_length, List.length_take, List.length_take, wbF_length]
  omega
theorem come_succ (l : List Nat) (i : Nat) {k : Nat} (hk : k < 8) : come l i (k + 1) = come l i k ++ [⟨l.getD i 0 / 2 ^ (8 * k) % 256, Nat.mod_lt _ (by decide)⟩] := by
  unfold come
  rw [List.take_succ_eq_append_getElem (by rw [wbF_length]; exact hk), List.append_assoc]
  refine congrArg (fun z => flF (l.take i) ++ ((wbF (l.getD i 0)).take k ++ [z])) ?_
  simp [wbF]
theorem come_next {l : List Nat} {i : Nat} (hi : i < l.length) : come l i 8 = come l (i + 1) 0 := by
  unfold come
  have h8 : (wbF (l.getD i 0)).take 8 = wbF (l.getD i 0) := List.take_of_length_le (by rw [wbF_length]; omega)
  have hg : l.getD i 0 = l[i] := by simp [List.getD, hi]
  rw [h8, List.take_zero, List.append_nil, List.take_succ_eq_append_getElem hi, hg]
  unfold flF
  rw [List.flatMap_append]
  simp
theorem come_zero (l : List Nat) : come l 0 0 = [] := by simp [come, flF]
theorem come_all (l : List Nat) : come l l.length 0 = flF l := by simp [come]

set_option maxRecDepth 100000 in
set_option maxHeartbeats 2000000 in
theorem bytes1_in (F : Fence) (n : Nat) (hf : F.fn 59) (hro : F.round = none) (hn : 1 ≤ n) (lp Bs n₀ : Nat) (A : Option Addr) (c : Nat) (l : List Nat) (hw : Wd l) (hl : l.length ≤ 65536) (J Jx : List (Fin 256) → World → Prop)
    (hY : ∀ pre x W, J pre W → pre.length < 8 * l.length → YieldAt F (n - 1) Tryd.prog lp #[.int .u8 (x.val : Int)] W fun e W' =>
      (e = .returned (.bool true) ∧ J (pre ++ [x]) W' ∧ Below n₀ W W') ∨ (e = .returned (.bool false) ∧ Jx (pre ++ [x]) W'))
    (W : World) (hBs : W.cell? ⟨Bs, 0, none⟩ = some (.slice A l.length c)) (hc : ∀ j (hj : j < l.length), ∃ b o, A = some ⟨b, o, none⟩ ∧ b < n₀ ∧ W.cell? ⟨b, o + j, none⟩ = some (.int .u64 (l[j] : Nat))) (h0 : J [] W) :
    CallsIn F n Tryd.prog 59 #[.func (.yield lp) #[] #[], .pointer (some ⟨Bs, 0, none⟩)] W fun e W' => (∃ v, e = .returned v) ∧
      ((∃ ys, ys = flF l ∧ J ys W') ∨ (∃ pre, True ∧ Jx pre W')) := by
  refine callsIn_of_wp Tryd.func59 rfl hf ?_ hro
  simp only [Tryd.ntmps59, List.size_toArray, List.length_cons, List.length_nil, Nat.reduceAdd, Nat.reduceSub, Array.replicate_succ, Array.replicate_zero, List.push_toArray, List.append_toArray, List.nil_append, List.cons_append]
  gi_wp2
  gi_loopw [8] (fun i wr => ∃ k : Nat, k ≤ l.length ∧ i = .int .i64 k ∧ J (come l k 0) wr ∧ Below n₀ W wr)
    (fun i _ => l.length - (intOf i).toNat)
  case atStart => exact ⟨0, Nat.zero_le _, rfl, by rw [come_zero]; exact h0, Below.refl _ _⟩
  case round =>
    obtain ⟨i, hi, rfl, hJs, hnx⟩ := hrel
    by_cases hlt : i < l.length
    · obtain ⟨b, o, rfl, hb, hcx⟩ := hc i hlt
      have hcx' := (hnx.cell (p := ⟨b, o + i, none⟩) hb).trans hcx
      have hx : l[i] < 18446744073709551616 := hw _ (List.getElem_mem hlt)
      have hg : l.getD i 0 = l[i] := by simp [List.getD, hlt]
      generalize l[i] = x at *
      have Hg := Lib.hid hg
      clear hg hcx hw hc
      gi_wp2
      gi_loopw [12] (fun k wr => ∃ j : Nat, j ≤ 8 ∧ k = .int .i64 j ∧ J (come l i j) wr ∧ Below n₀ W wr) (fun k _ => 8 - (intOf k).toNat)
      case atStart => exact ⟨0, Nat.zero_le _, rfl, hJs, hnx⟩
      case round =>
        obtain ⟨j, hj, rfl, hJ2, hnx2⟩ := hrel
        by_cases hlt2 : j < 8
        · have hcs := come_succ l i hlt2
          have hlen := come_length (l := l) (i := i) (k := j) (by omega) hj
          rw [Hg.out] at hcs
          obtain ⟨fn, tmps, assign, body, hy, hR⟩ := hY (come l i j) ⟨x / 2 ^ (8 * j) % 256, Nat.mod_lt _ (by decide)⟩ _ hJ2 (by rw [hlen]; omega)
          have Hcs := Lib.hid hcs
          clear hcs hlen
          dsimp only at hy
          rw [show ((x / 2 ^ (8 * j) % 256 : Nat) : Int) = (x : Int) / 2 ^ (8 * j) % 256 by push_cast; rfl] at hy
          gi_wp2
          refine hR.mono ?_
          rintro e W3 (⟨rfl, hJ3, hk3⟩ | ⟨rfl, hJx3⟩)
          · gi_wp2
            go_roundw
            case rel => exact ⟨j + 1, by omega, by simp, by rw [Hcs.out]; exact hJ3, hnx2.trans hk3⟩
            case measure => simp [intOf]; omega
          · gi_wp2
            refine bodyPost_ret (results_none rfl _ _ _) rfl ?_
            exact ⟨⟨_, rfl⟩, .inr ⟨_, trivial, hJx3⟩⟩
        · obtain rfl : j = 8 := by omega
          gi_wp2
          go_roundw
          case rel => exact ⟨i + 1, by omega, by simp, by rw [← come_next hlt]; exact hJ2, hnx2⟩
          case measure => simp [intOf]; omega
    · obtain rfl : i = l.length := by omega
      gi_wp2
      go_end0
      exact ⟨⟨_, rfl⟩, .inl ⟨_, come_all l, hJs⟩⟩

set_option maxRecDepth 100000 in
set_option maxHeartbeats 1000000 in
theorem bytes_in (F : Fence) (n : Nat) (hf : F.fn 52) (hro : F.round = none) (a : Option Addr) (len cap : Nat) (w : World) :
    CallsIn F n Tryd.prog 52 #[.slice a len cap] w fun e w' => e = .returned (.func (.func 59) #[] #[.pointer (some ⟨w.heap.size, 0, none⟩)]) ∧ w' = w.alloc (.cells #[.slice a len cap] 28) := by
  refine callsIn_of_wp Tryd.func52 rfl hf ?_ hro
  simp only [Tryd.ntmps52, List.size_toArray, List.length_cons, List.length_nil, Nat.reduceAdd, Nat.reduceSub, Array.replicate_succ, Array.replicate_zero, List.push_toArray, List.append_toArray, List.nil_append, List.cons_append]
  gi_wp2
  go_ret
  exact ⟨rfl, rfl⟩

theorem bytes_stops (F : Fence) (n : Nat) (hf : F.fn 59) (hro : F.round = none) (hn : 1 ≤ n) (Bs n₀ : Nat) (A : Option Addr) (c : Nat) (l : List Nat) (hw : Wd l) (hl : l.length ≤ 65536) (w : World) (hBs : Bs < w.heap.size) (hn₀ : n₀ ≤ w.heap.size)
    (hc : w.cell? ⟨Bs, 0, none⟩ = some (.slice A l.length c)) (hI : ∀ j (hj : j < l.length), ∃ b o, A = some ⟨b, o, none⟩ ∧ b < n₀ ∧ w.cell? ⟨b, o + j, none⟩ = some (.int .u64 (l[j] : Nat))) :
    SeqStopsK F n Tryd.prog 59 #[.pointer (some ⟨Bs, 0, none⟩)] (fun x : Fin 256 => #[Value.int .u8 (x.val : Int)]) (Below n₀) (fun ys => ys = flF l) (fun _ => True) (8 * l.length) w := fun lp J Jx W hW _ _ hY h0 => by
  have hc' := (hW.cell (p := ⟨Bs, 0, none⟩) hBs).trans hc
  exact bytes1_in F n hf hro hn lp Bs n₀ A c l hw hl J Jx hY W hc' (fun j hj => by
    obtain ⟨b, o, hA, hb, h⟩ := hI j hj
    exact ⟨b, o, hA, hb, (hW.cell (p := ⟨b, o + j, none⟩) (show b < w.heap.size by omega)).trans h⟩) h0

/-- the sum that stands when the bytes 'pre' have come -/
def sumF (pre : List (Fin 256)) : Nat := fold full (pre.map Fin.val)
theorem sumF_snoc (pre : List (Fin 256)) (x : Fin 256) : sumF (pre ++ [x]) = on (sumF pre) x.val := by
  unfold sumF; rw [List.map_append, fold_append]; rfl
theorem sumF_lt (pre : List (Fin 256)) : sumF pre < 4294967296 := fold_lt (by decide) (fun b hb => by
  obtain ⟨x, _, rfl⟩ := List.mem_map.1 hb
  exact x.isLt)
theorem sumF_all (l : List Nat) : sumF (flF l) ^^^ full = wsum l := by unfold sumF wsum wfold; rw [flF_val]

set_option maxRecDepth 100000 in
set_option maxHeartbeats 2000000 in
theorem Words_any (v : Value) (l : List Nat) (w : World) (h : Rd w v l.length (u64s l)) (hw : Wd l) (hl : l.length ≤ 65536) :
    Calls Tryd.prog 40 #[v] w fun e w' => e = .returned (.int .u32 (wsum l : Nat)) ∧ Below w.heap.size w w' := by
  refine (callsIn_wide (n := 3)).1 ?_
  obtain ⟨A, c, rfl, _, _, hcell⟩ := h
  have hI : ∀ j (hj : j < l.length), ∃ b o, A = some ⟨b, o, none⟩ ∧ b < w.heap.size ∧ w.cell? ⟨b, o + j, none⟩ = some (.int .u64 (l[j] : Nat)) := by
    intro j hj
    obtain ⟨b, o, hA, hc⟩ := hcell j _ (u64s_at hj)
    exact ⟨b, o, hA, World.block_lt_of_cell? w _ hc, hc⟩
  have hB0 : Below w.heap.size w ((w.alloc (.cells #[.int .u32 4294967295] 22)).alloc (.cells #[.slice A l.length c] 28)) := ((Below.refl _ w).alloc (Nat.le_refl _) _).alloc (by simp) _
  have hI2 : ∀ j (hj : j < l.length), ∃ b o, A = some ⟨b, o, none⟩ ∧ b < w.heap.size ∧ ((w.alloc (.cells #[.int .u32 4294967295] 22)).alloc (.cells #[.slice A l.length c] 28)).cell? ⟨b, o + j, none⟩ = some (.int .u64 (l[j] : Nat)) := by
    intro j hj
    obtain ⟨b, o, hA, hb, hc⟩ := hI j hj
    exact ⟨b, o, hA, hb, (hB0.cell (p := ⟨b, o + j, none⟩) hb).trans hc⟩
  have HI := Lib.hid hI2
  have HW := Lib.hid hw
  clear hcell hI hI2 hw
  refine callsIn_of_wp_marks Tryd.func40 rfl trivial ?_ rfl
  simp only [Tryd.ntmps40, List.size_toArray, List.length_cons, List.length_nil, Nat.reduceAdd, Nat.reduceSub, Array.replicate_succ, Array.replicate_zero, List.push_toArray, List.append_toArray, List.nil_append, List.cons_append]
  gi_wp2_with (refine ⟨trivial, ?_⟩; gi_at_call 52; refine (bytes_in Fence.wide _ trivial rfl _ _ _ _).mono ?_; rintro e w' ⟨rfl, rfl⟩)
  have bS := Boxed.new w 22 (.int .u32 4294967295)
  have bN := Boxed.new (w.alloc (.cells #[.int .u32 4294967295] 22)) 28 (.slice A l.length c)
  rw [World.size_alloc] at bN
  refine wpIn_rangeFunc_ownG rfl (by omega) (gf := 59) (lb := #[.pointer (some ⟨w.heap.size + 1, 0, none⟩)]) rfl trivial (enters_of Tryd.func59 (by kernel_rfl) rfl)
    (bytes_stops Fence.wide _ trivial rfl (by omega) (w.heap.size + 1) w.heap.size A c l HW.out hl _ (by simp) (by simp; omega) bN.cell HI.out) belowK_t (belowK_b (by simp; omega)) (Below.refl _ _) (fun _ => rfl)
    (fun pre W => (W.cell? ⟨w.heap.size, 0, none⟩ = some (.int .u32 (sumF pre : Nat)) ∧ W.frozen? ⟨w.heap.size, 0, none⟩ = false) ∧ Below w.heap.size w W)
    (fun _ _ _ => False)
    (OwnFrom.and (Own.from (fun s A B row hs hg hr => ⟨cell_kept hs.1 hg hr, (frozen_kept hs.1 hg hr).trans hs.2⟩) _) (ownFrom_below (Nat.le_refl _) (by simp; omega)))
    (fun _ _ _ _ _ hs _ _ => hs)
    ⟨⟨(bS.alloc _).cell, (bS.alloc _).frozen⟩, hB0⟩
    (fun x => { tmps := #[.slice A l.length c, undef, .int .u32 0, .pointer (some ⟨w.heap.size, 0, none⟩), .int .u8 (x.val : Int), .slice A l.length c, .func (.func 59) #[] #[.pointer (some ⟨w.heap.size + 1, 0, none⟩)], .int .u8 (x.val : Int), undef, undef, undef, undef, undef], defers := [] }) ?assign ?body ?done ?stop
  case assign =>
    intro l x W K hK
    gi_wp2
    exact hK
  case body =>
    rintro lp pre x W ⟨⟨hc, hf⟩, hB⟩ _
    have hx := sumF_lt pre
    have hs := sumF_snoc pre x
    have hxl := x.isLt
    generalize hgy : sumF pre = y at *
    have Hs := Lib.hid hs
    clear hs hgy
    gi_wp2_with (first | (refine ⟨trivial, ?_⟩; gi_at_call 53; refine (CallsIn.inRound lp (callsIn_wide.2 (on_any y x.val hx hxl _))).mono ?_; rintro e w' ⟨rfl, rfl⟩))
    exact ⟨(KeepsOthers.setCell _ _ _).from _, (Below.refl w.heap.size W).setCell (p := ⟨w.heap.size, 0, none⟩) (Nat.le_refl _) _, ⟨by rw [Hs.out]; exact World.cell?_setCell_same' _ _ _ (by rw [hc]; rfl), by rw [World.frozen?_setCell]; exact hf⟩, hB.setCell (p := ⟨w.heap.size, 0, none⟩) (Nat.le_refl _) _⟩
  case done =>
    rintro D ys W hD rfl ⟨⟨hc, _⟩, hB⟩ hK
    have hx := sumF_lt (flF l)
    have hs := sumF_all l
    generalize hgy : sumF (flF l) = y at *
    have Hs := Lib.hid hs
    have Hn := Lib.hid (not_u32 y hx)
    clear hs hgy
    have hsg : IntKind.u32.signed = false := rfl
    gi_wp2
    refine ⟨by simp, .inl ⟨_, _, rfl, run_takeDeferred hK, ?_⟩⟩
    exact ⟨_, results_tmp (t := 2) rfl _ _ _, ret_int (by rw [Hn.out, Hs.out]), hB.trans (belowK_b (w := w) (Nat.le_refl _) W D _ _ (by simp at hD; omega) hK rfl rfl)⟩
  case stop =>
    rintro D c pre W _ _ h _
    exact h.elim
end Go.Proofs.YtnpmepklgakaiaaDoor
