/- word.With: a row with a bit turned. -/
import Derived.Test.YtlencbjaggaabaaDoorWordHas
import Derived.Test.YtlencbjaggaabaaDoorRefWith
import Derived.Test.YtlencbjaggaabaaDoorCopy
import Derived.StillTailTactics
namespace Go.Proofs.YtlencbjaggaabaaDoor
open Go.RowKit
set_option linter.unusedVariables false

theorem pow_in (r : Nat) (hr : r < 64) : IntKind.u64.wrap (2 ^ r) = ((2 ^ r : Nat) : Int) := by
  have h : 2 ^ r < 18446744073709551616 := Nat.pow_lt_pow_right (n := 64) (by decide) hr
  rw [show ((2 : Int) ^ r) = ((2 ^ r : Nat) : Int) by simp, IntKind.wrap_u64]
  exact Int.emod_eq_of_lt (Int.natCast_nonneg _) (Int.ofNat_lt.2 h)
theorem bit_off (x r : Nat) (hx : x < 18446744073709551616) (hr : r < 64) : bits BinOp.andNot IntKind.u64 (x : Int) (IntKind.u64.wrap (2 ^ r)) = ((putW x r 1 0 : Nat) : Int) := by
  rw [pow_in r hr, u64_andNot_nat _ _ hx (Nat.pow_lt_pow_right (by decide) hr), andNot_bit hx hr]
theorem bit_on (x r : Nat) (hx : x < 18446744073709551616) (hr : r < 64) : bits BinOp.or IntKind.u64 (x : Int) (IntKind.u64.wrap (2 ^ r)) = ((putW x r 1 1 : Nat) : Int) := by
  rw [pow_in r hr, u64_or_nat _ _ hx (Nat.pow_lt_pow_right (by decide) hr), or_bit]
theorem put_put (x r a b : Nat) : putW (putW x r 1 a) r 1 b = putW x r 1 b := by
  apply Nat.eq_of_testBit_eq
  intro i
  rw [testBit_putW, testBit_putW, testBit_putW]
  by_cases h1 : i < r
  · simp [h1]
  · by_cases h2 : i < r + 1
    · simp [h1, h2]
    · simp [h1, h2]
theorem setBit_twice (l : List Nat) (i a b : Nat) (h : i / 64 < l.length) : setBit (setBit l i a) i b = setBit l i b := by
  unfold setBit
  have e : (l.set (i / 64) (putW (l.getD (i / 64) 0) (i % 64) 1 a)).getD (i / 64) 0 = putW (l.getD (i / 64) 0) (i % 64) 1 a := by
    rw [List.getD_eq_getElem?_getD, List.getElem?_set, if_pos rfl, if_pos h]; rfl
  rw [e, put_put, List.set_set]
/-- what a row of the call's own lets a statement 'row[i/64] = ..' do -/
theorem row_bit {w : World} {B : Nat} {g c k : Nat} {l : List Nat} (hown : w.ownsRow B 22 1 (.slice (some ⟨g, 0, none⟩) l.length c) l.length (u64s l)) (hk : k / 64 < l.length) (hw : ∀ x ∈ l, x < 2 ^ 64) :
    ∃ x : Nat, x < 18446744073709551616 ∧ w.cell? ⟨g, k / 64, none⟩ = some (.int .u64 (x : Int)) ∧ w.frozen? ⟨g, k / 64, none⟩ = false ∧
      ∀ v : Nat, (w.setCell ⟨g, k / 64, none⟩ (.int .u64 ((putW x (k % 64) 1 v : Nat) : Int))).ownsRow B 22 1 (.slice (some ⟨g, 0, none⟩) l.length c) l.length (u64s (setBit l k v)) := by
  have hg : l.getD (k / 64) 0 = l[k / 64] := by simp [List.getD, hk]
  refine ⟨l[k / 64], hw _ (List.getElem_mem hk), (hown.cellAt (k / 64) (by rw [Nat.mul_one]; exact hk)).trans (u64s_at hk), hown.frozenAt (k / 64), fun v => ?_⟩
  have hst := (hown.stored (k / 64) (.int .u64 ((putW l[k / 64] (k % 64) 1 v : Nat) : Int))).1
  rw [u64s_setAt, ← hg] at hst
  rw [← hg]
  exact hst

set_option maxHeartbeats 4000000 in
theorem With_yes (v : Value) (l : List Nat) (i : Int) (on : Bool) (w : World) (h : Rd w v l.length (u64s l)) (hw : ∀ x ∈ l, x < 2 ^ 64) (hi : Idx l i) (hl : l.length ≤ 65536) :
    Calls Tryd.prog 20 #[v, .int .i64 i, .bool on] w (HandsOK w 22 1 l.length (u64s (setBit l i.toNat (num01 on)))) := by
  have HR := Lib.hid h
  have HW := Lib.hid hw
  obtain ⟨A, c, rfl, h1, h2, h3⟩ := h
  obtain ⟨k, rfl⟩ := Int.eq_ofNat_of_zero_le hi.1
  rw [Int.toNat_natCast]
  have hk : k < 64 * l.length := by have := hi.2; omega
  have hq : k / 64 < l.length := by omega
  have HH := Lib.hid (fun W (hW : Rd W (.slice A l.length c) l.length (u64s l)) => wordhas_yes _ l k W hW hi hl)
  have HT := Lib.hid (setBit_twice l k 0 1 hq)
  clear h3 hw hi
  obtain ⟨i0, hin, hz0, hz1, hz2⟩ := info_parts info64
  have hki : (k : Int) / 64 < (l.length : Int) := by omega
  have hk0 : (0 : Int) ≤ (k : Int) / 64 := by omega
  have hk1 : ((k : Int) / 64).toNat = k / 64 := by omega
  have hk2 : (0 : Int) ≤ (k : Int) % 64 := by omega
  have hk3 : ((k : Int) % 64).toNat = k % 64 := by omega
  cases on with
  | false =>
    go_enter Tryd.func20, Tryd.ntmps20
    go_wp2_with fail
    refine (HH.out _ HR.out).mono ?_
    rintro e w' ⟨rfl, rfl⟩
    go_wp2_with (first
      | (at_make; refine wpList_make_full _ rfl (.tmp 14) (.tmp 14) 30 rfl w.heap.size 22 i0 _ 1 Tryd.underlying30 hin hz0 hz1 .i64 .i64 _ _ l.length rfl rfl rfl rfl (by rw [hz2]; omega) (by unfold maxLen; omega) (Nat.le_refl _) ?_; intro w1 hown1 hg1; have hb1 : Below w.heap.size w w1 := (Below.refl _ _).grown hg1 (Nat.le_refl _) (by intro k h; cases h); obtain ⟨w2, hrun, hown2, hb2⟩ := run_over64 3 w.heap.size w.heap.size l.length w w1 _ l _ hown1 rfl (HR.out.below hb1) hb1 (Nat.le_refl _); clear hown1 hg1))
    obtain ⟨x, hx, hc, hf, hst⟩ := row_bit (k := k) hown2 hq HW.out
    have Hst := Lib.hid hst
    have Hb2 := Lib.hid hb2
    have Hcb := Lib.hid (bit_off x (k % 64) hx (by omega))
    clear hst hb2 hb1 hrun hown2
    go_wp2
    go_still_tail 10, (by kernel_rfl)
    repeat (refine wpStill_step (fun K hK => ?_); go_simp; (try go_bits); (try go_simp); refine hK _ ?_; clear hK K)
    refine wpStill_nil ?_
    go_wp2
    rw [Hcb.out]
    go_ret2
    exact ⟨_, _, rfl, Hst.out 0, (Hb2.out.setCell (Nat.le_refl _) _).drew⟩
  | true =>
    go_enter Tryd.func20, Tryd.ntmps20
    go_wp2_with fail
    refine (HH.out _ HR.out).mono ?_
    rintro e w' ⟨rfl, rfl⟩
    go_wp2_with (first
      | (at_make; refine wpList_make_full _ rfl (.tmp 14) (.tmp 14) 30 rfl w.heap.size 22 i0 _ 1 Tryd.underlying30 hin hz0 hz1 .i64 .i64 _ _ l.length rfl rfl rfl rfl (by rw [hz2]; omega) (by unfold maxLen; omega) (Nat.le_refl _) ?_; intro w1 hown1 hg1; have hb1 : Below w.heap.size w w1 := (Below.refl _ _).grown hg1 (Nat.le_refl _) (by intro k h; cases h); obtain ⟨w2, hrun, hown2, hb2⟩ := run_over64 3 w.heap.size w.heap.size l.length w w1 _ l _ hown1 rfl (HR.out.below hb1) hb1 (Nat.le_refl _); clear hown1 hg1))
    obtain ⟨x, hx, hc, hf, hst⟩ := row_bit (k := k) hown2 hq HW.out
    have Hst := Lib.hid hst
    have Hb2 := Lib.hid hb2
    have Hcb := Lib.hid (bit_off x (k % 64) hx (by omega))
    clear hst hb2 hb1 hrun hown2
    go_wp2
    go_still_tail 10, (by kernel_rfl)
    repeat (refine wpStill_step (fun K hK => ?_); go_simp; (try go_bits); (try go_simp); refine hK _ ?_; clear hK K)
    refine wpStill_nil ?_
    go_wp2_with fail
    rw [Hcb.out]
    generalize hW3 : (w2.setCell ⟨w.heap.size, k / 64, none⟩ (.int .u64 ((putW x (k % 64) 1 0 : Nat) : Int))).drew = w3
    have hown3 : w3.ownsRow w.heap.size 22 1 (.slice (some ⟨w.heap.size, 0, none⟩) l.length l.length) l.length (u64s (setBit l k 0)) := by rw [← hW3]; exact Hst.out 0
    have hb3 : Below w.heap.size w w3 := by rw [← hW3]; exact (Hb2.out.setCell (Nat.le_refl _) _).drew
    have hsl := setBit_length l k 0
    rw [← hsl] at hown3
    obtain ⟨y, hy, hc3, hf3, hst3⟩ := row_bit (k := k) hown3 (by rw [hsl]; exact hq) (setBit_wd HW.out k 0)
    have hst4 := hst3 1
    rw [hsl, HT.out] at hst4
    have Hst3 := Lib.hid hst4
    have Hb3 := Lib.hid hb3
    have Hsb := Lib.hid (bit_on y (k % 64) hy (by omega))
    clear hst3 hst4 hb3 hown3 hW3 Hst Hb2 Hcb hc hf hsl
    go_wp2
    go_still_tail 10, (by kernel_rfl)
    repeat (refine wpStill_step (fun K hK => ?_); go_simp; (try go_bits); (try go_simp); refine hK _ ?_; clear hK K)
    refine wpStill_nil ?_
    go_wp2
    rw [Hsb.out]
    go_ret2
    exact ⟨_, _, rfl, Hst3.out, (Hb3.out.setCell (Nat.le_refl _) _).drew⟩

set_option maxHeartbeats 1000000 in
theorem With_no (v : Value) (l : List Nat) (i : Int) (on : Bool) (w : World) (h : Rd w v l.length (u64s l)) (hi : ¬ Idx l i) (hi1 : -9223372036854775808 ≤ i) (hi2 : i ≤ 9223372036854775807) (hl : l.length ≤ 65536) :
    Calls Tryd.prog 20 #[v, .int .i64 i, .bool on] w fun e w' => e = .returned (.tuple #[.slice none 0 0, .int .i64 2]) ∧ w = w' := by
  have HH := Lib.hid (wordhas_no v l i w h hi hi1 hi2 hl)
  clear h hi
  go_enter Tryd.func20, Tryd.ntmps20
  go_wp2_with fail
  refine HH.out.mono ?_
  rintro e w' ⟨rfl, rfl⟩
  go_wp2
  go_ret2
  exact ⟨rfl, rfl⟩
end Go.Proofs.YtlencbjaggaabaaDoor
