/- The words that a text is. No program. -/
import Derived.Test.YtfmjhmgpnlmkkaaDoorBits
namespace Go.Proofs.YtfmjhmgpnlmkkaaDoor
set_option linter.unusedVariables false

/-- m words with the first j bytes of bs in them -/
def packTo (b : List Nat) (m : Nat) : Nat → List Nat
  | 0 => List.replicate m 0
  | j + 1 => (packTo b m j).set (j / 8) (putW ((packTo b m j).getD (j / 8) 0) (8 * (j % 8)) 8 (b.getD j 0))
def packed (b : List Nat) : List Nat := packTo b ((b.length + 7) / 8) b.length
theorem packTo_length (b : List Nat) (m : Nat) : ∀ j, (packTo b m j).length = m := by
  intro j
  induction j with
  | zero => simp [packTo]
  | succ j ih => simp [packTo, ih]
theorem packed_length (b : List Nat) : (packed b).length = (b.length + 7) / 8 := packTo_length _ _ _
theorem packTo_wd (b : List Nat) (m : Nat) : ∀ j, Wd64 (packTo b m j) := by
  intro j
  induction j with
  | zero =>
    intro x hx
    simp only [packTo, List.mem_replicate] at hx
    rw [hx.2]
    decide
  | succ j ih =>
    intro x hx
    simp only [packTo] at hx
    rcases List.mem_or_eq_of_mem_set hx with hx | hx
    · exact ih x hx
    · subst hx
      exact putW_lt (getD_wd ih _) (by omega)
theorem packed_wd (b : List Nat) : Wd64 (packed b) := packTo_wd _ _ _
theorem getD_set (l : List Nat) (k x q : Nat) (hk : k < l.length) : (l.set k x).getD q 0 = if q = k then x else l.getD q 0 := by
  rw [List.getD_eq_getElem?_getD, List.getElem?_set]
  by_cases h : k = q
  · subst h; simp [hk]
  · rw [if_neg h, if_neg (Ne.symm h), List.getD_eq_getElem?_getD]
theorem putW_small {x a n v : Nat} (hx : x < 2 ^ a) : putW x a n v = x + 2 ^ a * (v % 2 ^ n) := by
  unfold putW
  have h : x < 2 ^ (a + n) := Nat.lt_of_lt_of_le hx (Nat.pow_le_pow_right (by decide) (by omega))
  rw [Nat.mod_eq_of_lt hx, Nat.div_eq_of_lt h, Nat.mul_zero, Nat.add_zero]
theorem putW_small_lt {x a n v : Nat} (hx : x < 2 ^ a) : putW x a n v < 2 ^ (a + n) := by
  rw [putW_small hx]
  have h := Nat.mod_lt v (Nat.two_pow_pos n)
  rw [Nat.pow_add]
  have h2 : 2 ^ a * (v % 2 ^ n) + 2 ^ a ≤ 2 ^ a * 2 ^ n := by
    rw [← Nat.mul_succ]
    exact Nat.mul_le_mul_left _ h
  omega
theorem or_small {x a n v : Nat} (hx : x < 2 ^ a) (hv : v < 2 ^ n) : x ||| v * 2 ^ a = putW x a n v := by
  rw [putW_small hx, Nat.mod_eq_of_lt hv, Nat.mul_comm v, Nat.or_comm, ← Nat.two_pow_add_eq_or_of_lt hx, Nat.add_comm]
/-- what is not filled yet is 0 -/
theorem packTo_small (b : List Nat) (m : Nat) : ∀ j, j ≤ 8 * m → ∀ q, (packTo b m j).getD q 0 < 2 ^ (8 * (j - 8 * q)) := by
  intro j
  induction j with
  | zero =>
    intro _ q
    have e : (packTo b m 0).getD q 0 = 0 := by
      simp only [packTo, List.getD_eq_getElem?_getD, List.getElem?_replicate]
      split <;> rfl
    rw [e]
    exact Nat.two_pow_pos _
  | succ j ih =>
    intro hj q
    have ih := ih (by omega)
    simp only [packTo]
    rw [getD_set _ _ _ _ (by rw [packTo_length]; omega)]
    by_cases h : q = j / 8
    · rw [if_pos h]
      subst h
      have h1 := ih (j / 8)
      rw [show j - 8 * (j / 8) = j % 8 by omega] at h1
      rw [show 8 * (j + 1 - 8 * (j / 8)) = 8 * (j % 8) + 8 by omega]
      exact putW_small_lt h1
    · rw [if_neg h]
      exact Nat.lt_of_lt_of_le (ih q) (Nat.pow_le_pow_right (by decide) (by omega))
theorem packTo_here (b : List Nat) (m j : Nat) (hj : j < 8 * m) : (packTo b m j).getD (j / 8) 0 < 2 ^ (8 * (j % 8)) := by
  have h := packTo_small b m j (by omega) (j / 8)
  rwa [show j - 8 * (j / 8) = j % 8 by omega] at h
/-- each byte stands where it was put -/
theorem packTo_byte (b : List Nat) (m : Nat) (hb : ∀ x ∈ b, x < 256) : ∀ j, j ≤ 8 * m → ∀ k, k < j → getW ((packTo b m j).getD (k / 8) 0) (8 * (k % 8)) 8 = b.getD k 0 := by
  have hbd : ∀ k, b.getD k 0 < 2 ^ 8 := by
    intro k
    by_cases hk : k < b.length
    · rw [List.getD_eq_getElem?_getD, List.getElem?_eq_getElem hk]; exact hb _ (List.getElem_mem hk)
    · rw [List.getD_eq_getElem?_getD, List.getElem?_eq_none (by omega)]; decide
  intro j
  induction j with
  | zero => intro _ k hk; omega
  | succ j ih =>
    intro hj k hk
    have ih := ih (by omega)
    simp only [packTo]
    rw [getD_set _ _ _ _ (by rw [packTo_length]; omega)]
    by_cases h : k = j
    · subst h
      rw [if_pos rfl, get_put _ _ _ _ (hbd k)]
    · by_cases hq : k / 8 = j / 8
      · rw [if_pos hq, get_put_apart _ _ _ _ _ _ (by omega), ← hq, ih k (by omega)]
      · rw [if_neg hq, ih k (by omega)]
end Go.Proofs.YtfmjhmgpnlmkkaaDoor
