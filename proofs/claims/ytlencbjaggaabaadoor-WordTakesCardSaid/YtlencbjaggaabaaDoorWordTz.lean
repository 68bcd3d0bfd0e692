/- math/bits.TrailingZeros64: the lowest bit that is 1. -/
import Derived.Test.YtlencbjaggaabaaDoorWordPut
import Derived.Lib.LaidTab
namespace Go.Proofs.YtlencbjaggaabaaDoor
open Go.RowKit
set_option linter.unusedVariables false

/-- the lowest bit of a number that is 1 -/
def LowAt (x k : Nat) : Prop := x.testBit k = true ∧ ∀ j, j < k → x.testBit j = false
theorem low_ex : ∀ x : Nat, x ≠ 0 → ∃ k, LowAt x k := by
  intro x
  induction x using Nat.strongRecOn with
  | ind x ih =>
    intro h
    by_cases h1 : x % 2 = 1
    · exact ⟨0, by simp [h1], fun j hj => by omega⟩
    · obtain ⟨k, hk, hb⟩ := ih (x / 2) (by omega) (by omega)
      refine ⟨k + 1, by rw [Nat.testBit_succ]; exact hk, fun j hj => ?_⟩
      cases j with
      | zero => simp [h1]
      | succ j => rw [Nat.testBit_succ]; exact hb j (by omega)
theorem low_form {x k : Nat} (h : LowAt x k) : ∃ m, x = 2 ^ k * (2 * m + 1) := by
  obtain ⟨h1, h2⟩ := h
  have e : x % 2 ^ k = 0 := by
    apply Nat.eq_of_testBit_eq
    intro i
    rw [Nat.testBit_mod_two_pow, Nat.zero_testBit]
    by_cases hi : i < k
    · simp [h2 i hi]
    · simp [hi]
  have e2 : x / 2 ^ k % 2 = 1 := by
    have := testBit_div x k
    rw [h1] at this
    exact of_decide_eq_true this.symm
  refine ⟨x / 2 ^ k / 2, ?_⟩
  have e3 := Nat.div_add_mod x (2 ^ k)
  rw [e, Nat.add_zero] at e3
  have e4 : 2 * (x / 2 ^ k / 2) + 1 = x / 2 ^ k := by omega
  rw [e4, e3]
theorem and_compl (m j : Nat) (h : m < 2 ^ j) : m &&& (2 ^ j - (m + 1)) = 0 := by
  apply Nat.eq_of_testBit_eq
  intro i
  rw [Nat.testBit_and, Nat.testBit_two_pow_sub_succ h, Nat.zero_testBit]
  cases m.testBit i <;> simp
theorem and_neg {x k : Nat} (h : LowAt x k) (hx : x < 2 ^ 64) : x &&& (2 ^ 64 - x) = 2 ^ k ∧ k < 64 := by
  obtain ⟨m, hm⟩ := low_form h
  have hk : k < 64 := by
    rcases Nat.lt_or_ge k 64 with hh | hh
    · exact hh
    · have := Nat.testBit_lt_two_pow (Nat.lt_of_lt_of_le hx (show 2 ^ 64 ≤ 2 ^ k from Nat.pow_le_pow_right (by decide) hh))
      rw [h.1] at this
      cases this
  refine ⟨?_, hk⟩
  have hp := Nat.two_pow_pos k
  have e64 : 2 ^ 64 = 2 ^ k * (2 * 2 ^ (63 - k)) := by
    rw [← Nat.pow_succ', ← Nat.pow_add]; congr 1; omega
  have hml : m < 2 ^ (63 - k) := by
    rw [hm, e64] at hx
    have := Nat.lt_of_mul_lt_mul_left hx
    omega
  have e2 : 2 ^ 64 - x = 2 ^ k * (2 * (2 ^ (63 - k) - (m + 1)) + 1) := by
    rw [e64, hm, ← Nat.mul_sub]
    congr 1
    omega
  rw [e2, hm]
  have hz := and_compl m (63 - k) hml
  generalize 2 ^ (63 - k) - (m + 1) = c at *
  apply Nat.eq_of_testBit_eq
  intro i
  rw [Nat.testBit_and, Nat.testBit_two_pow_mul, Nat.testBit_two_pow_mul, Nat.testBit_two_pow]
  by_cases h1 : k ≤ i
  · simp only [ge_iff_le, h1, decide_true, Bool.true_and]
    obtain ⟨d, rfl⟩ : ∃ d, i = k + d := ⟨i - k, by omega⟩
    rw [Nat.add_sub_cancel_left]
    cases d with
    | zero => simp
    | succ d =>
      rw [Nat.testBit_succ, Nat.testBit_succ, show (2 * m + 1) / 2 = m by omega, show (2 * c + 1) / 2 = c by omega]
      have := congrArg (fun z => Nat.testBit z d) hz
      simp only [Nat.testBit_and, Nat.zero_testBit] at this
      rw [this]
      simp
  · simp [h1]; omega

/-- the library's table -/
def deB : List Int := (List.range 64).map fun i => (((List.range 64).find? fun k => 2 ^ k * 285870213051353865 % 18446744073709551616 / 288230376151711744 == i).getD 0 : Nat)
theorem deB_at : ∀ k : Fin 64, deB[2 ^ k.val * 285870213051353865 % 18446744073709551616 / 288230376151711744]? = some (k.val : Int) := by decide +kernel
/-- the table lies in memory -/
def Tab (w : World) : Prop := ∀ i z, deB[i]? = some z → w.cell? ⟨0, i, none⟩ = some (.int .u8 z)
theorem Tab.below {w w' : World} (h : Tab w) (hb : Below w.heap.size w w') : Tab w' := fun i z hz => (hb.cell (World.block_lt_of_cell? _ _ (h i z hz))).trans (h i z hz)

set_option maxHeartbeats 1000000 in
theorem tz_any (x : Nat) (h0 : x ≠ 0) (hx : x < 18446744073709551616) (w : World) (ht : Tab w) :
    Calls Tryd.prog 30 #[.int .u64 x] w fun e w' => ∃ k : Nat, (k < 64 ∧ LowAt x k) ∧ e = .returned (.int .i64 k) ∧ w = w' := by
  obtain ⟨k, hk⟩ := low_ex x h0
  obtain ⟨h1, h2⟩ := and_neg hk hx
  have hne : ((x : Int) == 0) = false := by simp; omega
  have hat := deB_at ⟨k, h2⟩
  simp only at hat
  have hA : bits BinOp.and IntKind.u64 (x : Int) (IntKind.u64.wrap (-(x : Int))) = ((2 ^ k : Nat) : Int) := by
    have e : IntKind.u64.wrap (-(x : Int)) = ((2 ^ 64 - x : Nat) : Int) := by
      rw [IntKind.wrap_u64]
      have : (2 : Nat) ^ 64 = 18446744073709551616 := by decide
      omega
    have hlt : 2 ^ 64 - x < 18446744073709551616 := by
      have : (2 : Nat) ^ 64 = 18446744073709551616 := by decide
      omega
    rw [e, u64_and_nat x (2 ^ 64 - x) hx hlt, h1]
  generalize (2 : Nat) ^ k = q at *
  obtain ⟨i, hi⟩ : ∃ i, i = q * 285870213051353865 % 18446744073709551616 / 288230376151711744 := ⟨_, rfl⟩
  have hM : IntKind.u64.wrap ((q : Int) * 285870213051353865) / 288230376151711744 = (i : Int) := by
    rw [IntKind.wrap_u64, hi, Int.natCast_ediv, Int.natCast_emod, Int.natCast_mul]
    rfl
  have hi64 : i < 64 := by omega
  have hi64' : (i : Int) < 64 := by omega
  rw [← hi] at hat
  have hcell := ht _ _ hat
  have HK := Lib.hid hk
  clear hi hat hk h1 ht
  go_enter Tryd.func30, Tryd.ntmps30
  go_wp2
  go_ret
  exact ⟨k, ⟨h2, HK.out⟩, rfl, rfl⟩
end Go.Proofs.YtlencbjaggaabaaDoor
