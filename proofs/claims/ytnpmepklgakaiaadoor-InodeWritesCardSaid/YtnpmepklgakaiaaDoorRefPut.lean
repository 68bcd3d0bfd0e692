/- parcloseref01.Put: a word with a field put, bit by bit. -/
import Derived.Test.YtnpmepklgakaiaaDoorRefBit
import Derived.Test.YtnpmepklgakaiaaDoorBits
namespace Go.Proofs.YtnpmepklgakaiaaDoor
open Go.RowKit
set_option linter.unusedVariables false


/-- no bit from n on below i is 1 -/
def Clear (v n i : Nat) : Prop := ∀ j, n ≤ j → j < i → v.testBit j = false
theorem Clear.succ {v n i : Nat} (h : Clear v n i) (hb : v.testBit i = false) : Clear v n (i + 1) := by
  intro j h1 h2
  rcases Nat.lt_or_ge j i with h3 | h3
  · exact h j h1 h3
  · obtain rfl : j = i := by omega
    exact hb
theorem Clear.lt {v n : Nat} (hv : v < 2 ^ 64) (h : Clear v n 64) : v < 2 ^ n := by
  apply lt_of_testBit
  intro i hi
  by_cases h64 : i < 64
  · exact h i hi h64
  · exact Nat.testBit_lt_two_pow (Nat.lt_of_lt_of_le hv (Nat.pow_le_pow_right (by decide) (by omega)))
theorem bit_cast (v i : Nat) : (v : Int) / 2 ^ i % 2 = ((v / 2 ^ i % 2 : Nat) : Int) := by rw [div_pow]; rfl
theorem bit_one {v i : Nat} : (v : Int) / 2 ^ i % 2 = 1 ↔ v.testBit i = true := by
  rw [testBit_div, bit_cast, decide_eq_true_eq]; omega


theorem high_step (p k : Nat) (hk : k < 64) : 2 * (p / 2 ^ (64 - k)) + p / 2 ^ (63 - k) % 2 = p / 2 ^ (64 - (k + 1)) := by
  have e : 64 - k = (63 - k) + 1 := by omega
  have e2 : 64 - (k + 1) = 63 - k := by omega
  rw [e, e2, Nat.pow_succ, ← Nat.div_div_eq_div_mul]
  generalize p / 2 ^ (63 - k) = y
  omega
theorem high_lt {p k : Nat} (hp : p < 2 ^ 64) (hk : k < 64) : p / 2 ^ (64 - k) < 9223372036854775808 := by
  rw [Nat.div_lt_iff_lt_mul (Nat.two_pow_pos _)]
  refine Nat.lt_of_lt_of_le hp ?_
  have : 9223372036854775808 = 2 ^ 63 := by decide
  rw [this, ← Nat.pow_add]
  exact Nat.pow_le_pow_right (by decide) (by omega)
theorem bit_in {w a n v i : Nat} (h1 : a ≤ i) (h2 : i < a + n) : putW w a n v / 2 ^ i % 2 = v / 2 ^ (i - a) % 2 := by
  have := testBit_putW w a n v i
  rw [if_neg (by omega), if_pos h2, testBit_div, testBit_div] at this
  have hiff := decide_eq_decide.1 this
  have l1 := Nat.mod_two_eq_zero_or_one (putW w a n v / 2 ^ i)
  have l2 := Nat.mod_two_eq_zero_or_one (v / 2 ^ (i - a))
  omega
theorem bit_out {w a n v i : Nat} (h : i < a ∨ a + n ≤ i) : putW w a n v / 2 ^ i % 2 = w / 2 ^ i % 2 := by
  have := testBit_putW w a n v i
  have h2 : (if i < a then w.testBit i else if i < a + n then v.testBit (i - a) else w.testBit i) = w.testBit i := by
    rcases h with h | h
    · rw [if_pos h]
    · rw [if_neg (by omega), if_neg (by omega)]
  rw [h2, testBit_div, testBit_div] at this
  have hiff := decide_eq_decide.1 this
  have l1 := Nat.mod_two_eq_zero_or_one (putW w a n v / 2 ^ i)
  have l2 := Nat.mod_two_eq_zero_or_one (w / 2 ^ i)
  omega

end Go.Proofs.YtnpmepklgakaiaaDoor
