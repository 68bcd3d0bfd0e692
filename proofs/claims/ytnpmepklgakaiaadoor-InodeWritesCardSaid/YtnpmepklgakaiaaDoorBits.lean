/- Fields of a word and bits of a row of words, as plain numbers. No program. -/
namespace Go.Proofs.YtnpmepklgakaiaaDoor
set_option linter.unusedVariables false

/-! ### fields -/
def getW (w a n : Nat) : Nat := w / 2 ^ a % 2 ^ n
def putW (w a n v : Nat) : Nat := w % 2 ^ a + 2 ^ a * (v % 2 ^ n + 2 ^ n * (w / 2 ^ (a + n)))

theorem testBit_getW (w a n i : Nat) : (getW w a n).testBit i = (decide (i < n) && w.testBit (a + i)) := by
  unfold getW; rw [Nat.testBit_mod_two_pow, Nat.testBit_div_two_pow, Nat.add_comm]
theorem testBit_putW (w a n v i : Nat) : (putW w a n v).testBit i = if i < a then w.testBit i else if i < a + n then v.testBit (i - a) else w.testBit i := by
  unfold putW
  have h1 : v % 2 ^ n + 2 ^ n * (w / 2 ^ (a + n)) = 2 ^ n * (w / 2 ^ (a + n)) ||| v % 2 ^ n := by
    rw [Nat.add_comm]; exact Nat.two_pow_add_eq_or_of_lt (Nat.mod_lt _ (Nat.two_pow_pos n)) _
  rw [h1]
  generalize hq : 2 ^ n * (w / 2 ^ (a + n)) ||| v % 2 ^ n = q
  have h2 : w % 2 ^ a + 2 ^ a * q = 2 ^ a * q ||| w % 2 ^ a := by
    rw [Nat.add_comm]; exact Nat.two_pow_add_eq_or_of_lt (Nat.mod_lt _ (Nat.two_pow_pos a)) _
  rw [h2, Nat.testBit_or, Nat.testBit_two_pow_mul, Nat.testBit_mod_two_pow]
  by_cases ha : i < a
  · rw [if_pos ha]; simp [ha, Nat.not_le.2 ha]
  · rw [if_neg ha, ← hq, Nat.testBit_or, Nat.testBit_two_pow_mul, Nat.testBit_div_two_pow, Nat.testBit_mod_two_pow]
    by_cases hn : i < a + n
    · rw [if_pos hn]
      have e1 : i - a < n := by omega
      simp [ha, e1, Nat.not_le.2 e1, show a ≤ i by omega]
    · rw [if_neg hn]
      have e1 : ¬ i - a < n := by omega
      simp only [ha, e1, decide_false, Bool.false_and, Bool.or_false, show (i ≥ a) = True by simp; omega, decide_true, Bool.true_and, show (i - a ≥ n) = True by simp; omega]
      congr 1; omega
theorem getW_lt (w a n : Nat) : getW w a n < 2 ^ n := Nat.mod_lt _ (Nat.two_pow_pos n)
theorem lt_of_testBit {x n : Nat} (h : ∀ i, n ≤ i → x.testBit i = false) : x < 2 ^ n := by
  apply Nat.lt_pow_two_of_testBit
  intro i hi
  exact h i hi
theorem putW_lt {w a n v : Nat} (hw : w < 2 ^ 64) (h : a + n ≤ 64) : putW w a n v < 2 ^ 64 := by
  apply lt_of_testBit
  intro i hi
  rw [testBit_putW, if_neg (by omega), if_neg (by omega)]
  exact Nat.testBit_lt_two_pow (Nat.lt_of_lt_of_le hw (Nat.pow_le_pow_right (by decide) hi))
theorem get_put (w a n v : Nat) (hv : v < 2 ^ n) : getW (putW w a n v) a n = v := by
  apply Nat.eq_of_testBit_eq; intro i
  rw [testBit_getW, testBit_putW]
  by_cases hi : i < n
  · rw [if_neg (by omega), if_pos (by omega)]; simp [hi]
  · simp only [hi, decide_false, Bool.false_and]
    exact (Nat.testBit_lt_two_pow (Nat.lt_of_lt_of_le hv (Nat.pow_le_pow_right (by decide) (by omega)))).symm
theorem get_put_apart (w a n v b m : Nat) (h : a + n ≤ b ∨ b + m ≤ a) : getW (putW w a n v) b m = getW w b m := by
  apply Nat.eq_of_testBit_eq; intro i
  rw [testBit_getW, testBit_getW, testBit_putW]
  by_cases hi : i < m
  · congr 1
    rcases h with h | h
    · rw [if_neg (by omega), if_neg (by omega)]
    · rw [if_pos (by omega)]
  · simp [hi]
theorem put_comm (w a n v b m u : Nat) (h : a + n ≤ b ∨ b + m ≤ a) : putW (putW w a n v) b m u = putW (putW w b m u) a n v := by
  apply Nat.eq_of_testBit_eq; intro i
  simp only [testBit_putW]
  rcases h with h | h
  · by_cases h1 : i < a
    · simp only [h1, if_true, show i < b by omega]
    · by_cases h2 : i < a + n
      · simp only [h1, h2, if_true, if_false, show i < b by omega]
      · by_cases h3 : i < b
        · simp only [h1, h2, h3, if_true, if_false]
        · by_cases h4 : i < b + m <;> simp only [h1, h2, h3, h4, if_true, if_false]
  · by_cases h1 : i < b
    · simp only [h1, if_true, show i < a by omega]
    · by_cases h2 : i < b + m
      · simp only [h1, h2, if_true, if_false, show i < a by omega]
      · by_cases h3 : i < a
        · simp only [h1, h2, h3, if_true, if_false]
        · by_cases h4 : i < a + n <;> simp only [h1, h2, h3, h4, if_true, if_false]
theorem put_get (w a n : Nat) : putW w a n (getW w a n) = w := by
  apply Nat.eq_of_testBit_eq; intro i
  rw [testBit_putW, testBit_getW]
  by_cases h1 : i < a
  · rw [if_pos h1]
  · rw [if_neg h1]
    by_cases h2 : i < a + n
    · rw [if_pos h2]
      simp only [show i - a < n by omega, decide_true, Bool.true_and]
      congr 1; omega
    · rw [if_neg h2]

/-! ### what a machine's operations make of them -/
def mask (a n : Nat) : Nat := 2 ^ a * (2 ^ n - 1)
theorem testBit_mask (a n i : Nat) : (mask a n).testBit i = (decide (a ≤ i) && decide (i < a + n)) := by
  unfold mask
  rw [Nat.testBit_two_pow_mul, Nat.testBit_two_pow_sub_one]
  by_cases h : a ≤ i
  · simp only [show (i ≥ a) = True by simp; omega, decide_true, Bool.true_and]
    congr 1
    exact propext (by omega)
  · simp [h]
theorem mask_lt {a n : Nat} (h : a + n ≤ 64) : mask a n < 2 ^ 64 := by
  apply lt_of_testBit
  intro i hi
  rw [testBit_mask]
  simp; omega
theorem and_mask (w a n : Nat) : (w &&& mask a n) / 2 ^ a = getW w a n := by
  apply Nat.eq_of_testBit_eq; intro i
  rw [Nat.testBit_div_two_pow, Nat.testBit_and, testBit_mask, testBit_getW, Nat.add_comm i a]
  by_cases hi : i < n
  · simp [hi]
  · simp [hi]
theorem testBit_not {x i : Nat} (hx : x < 2 ^ 64) (hi : i < 64) : (18446744073709551615 - x).testBit i = !x.testBit i := by
  have e1 : 18446744073709551615 - x = 2 ^ 64 - (x + 1) := by omega
  rw [e1, Nat.testBit_two_pow_sub_succ hx]
  simp [hi]
theorem put_mask {w a n v : Nat} (hw : w < 2 ^ 64) (hv : v < 2 ^ n) (h : a + n ≤ 64) : (w &&& (18446744073709551615 - mask a n)) ||| v * 2 ^ a = putW w a n v := by
  apply Nat.eq_of_testBit_eq; intro i
  rw [Nat.testBit_or, Nat.testBit_and, Nat.mul_comm v, Nat.testBit_two_pow_mul, testBit_putW]
  by_cases hi : i < 64
  · rw [testBit_not (mask_lt h) hi, testBit_mask]
    by_cases h1 : i < a
    · rw [if_pos h1]; simp [show ¬ a ≤ i by omega]
    · rw [if_neg h1]
      by_cases h2 : i < a + n
      · rw [if_pos h2]; simp [show a ≤ i by omega, h2]
      · rw [if_neg h2]
        have : v.testBit (i - a) = false := Nat.testBit_lt_two_pow (Nat.lt_of_lt_of_le hv (Nat.pow_le_pow_right (by decide) (by omega)))
        simp [h2, this]
  · have hz : w.testBit i = false := Nat.testBit_lt_two_pow (Nat.lt_of_lt_of_le hw (Nat.pow_le_pow_right (by decide) (by omega)))
    rw [if_neg (by omega), if_neg (by omega), hz]
    have : v.testBit (i - a) = false := Nat.testBit_lt_two_pow (Nat.lt_of_lt_of_le hv (Nat.pow_le_pow_right (by decide) (by omega)))
    simp [this]
theorem or_bit {w r : Nat} : w ||| 2 ^ r = putW w r 1 1 := by
  apply Nat.eq_of_testBit_eq; intro i
  rw [Nat.testBit_or, testBit_putW, Nat.testBit_two_pow]
  by_cases h1 : i < r
  · rw [if_pos h1]; simp [show ¬ r = i by omega]
  · rw [if_neg h1]
    by_cases h2 : i < r + 1
    · obtain rfl : i = r := by omega
      rw [if_pos h2]; simp
    · rw [if_neg h2]; simp [show ¬ r = i by omega]
theorem andNot_bit {w r : Nat} (hw : w < 2 ^ 64) (hr : r < 64) : w &&& (18446744073709551615 - 2 ^ r) = putW w r 1 0 := by
  have h := put_mask (w := w) (a := r) (n := 1) (v := 0) hw (by decide) (by omega)
  have e : mask r 1 = 2 ^ r := by simp [mask]
  rw [e] at h
  simpa using h

/-! ### bits of a row -/
def bitOf (l : List Nat) (i : Nat) : Bool := (l.getD (i / 64) 0).testBit (i % 64)
def setBit (l : List Nat) (i v : Nat) : List Nat := l.set (i / 64) (putW (l.getD (i / 64) 0) (i % 64) 1 v)
def Wd64 (l : List Nat) : Prop := ∀ x ∈ l, x < 2 ^ 64
theorem setBit_length (l : List Nat) (i v : Nat) : (setBit l i v).length = l.length := by simp [setBit]
theorem getD_wd {l : List Nat} (h : Wd64 l) (k : Nat) : l.getD k 0 < 2 ^ 64 := by
  by_cases hk : k < l.length
  · rw [List.getD_eq_getElem?_getD, List.getElem?_eq_getElem hk]; exact h _ (List.getElem_mem hk)
  · rw [List.getD_eq_getElem?_getD, List.getElem?_eq_none (by omega)]; decide
theorem setBit_wd {l : List Nat} (h : Wd64 l) (i v : Nat) : Wd64 (setBit l i v) := by
  intro x hx
  rcases List.mem_or_eq_of_mem_set hx with hx | hx
  · exact h x hx
  · subst hx
    exact putW_lt (getD_wd h _) (by omega)
theorem bitOf_setBit (l : List Nat) (i v j : Nat) (hi : i < 64 * l.length) : bitOf (setBit l i v) j = if j = i then v.testBit 0 else bitOf l j := by
  unfold bitOf setBit
  by_cases hq : j / 64 = i / 64
  · have e : (l.set (i / 64) (putW (l.getD (i / 64) 0) (i % 64) 1 v)).getD (j / 64) 0 = putW (l.getD (i / 64) 0) (i % 64) 1 v := by
      rw [hq, List.getD_eq_getElem?_getD, List.getElem?_set, if_pos rfl, if_pos (by omega)]; rfl
    rw [e, testBit_putW]
    by_cases hj : j = i
    · subst hj
      rw [if_neg (by omega), if_pos (by omega), if_pos rfl, Nat.sub_self]
    · rw [if_neg hj]
      by_cases h1 : j % 64 < i % 64
      · rw [if_pos h1, hq]
      · rw [if_neg h1, if_neg (by omega), hq]
  · have e : (l.set (i / 64) (putW (l.getD (i / 64) 0) (i % 64) 1 v)).getD (j / 64) 0 = l.getD (j / 64) 0 := by
      rw [List.getD_eq_getElem?_getD, List.getElem?_set, if_neg (by omega), ← List.getD_eq_getElem?_getD]
    rw [e, if_neg (by intro h; exact hq (by rw [h]))]
theorem bitOf_out {l : List Nat} {i : Nat} (h : 64 * l.length ≤ i) : bitOf l i = false := by
  unfold bitOf
  rw [List.getD_eq_getElem?_getD, List.getElem?_eq_none (by omega)]
  simp
/-- two rows of words of one length that have the same bits are one -/
theorem row_ext {a b : List Nat} (ha : Wd64 a) (hb : Wd64 b) (hl : a.length = b.length) (h : ∀ i, i < 64 * a.length → bitOf a i = bitOf b i) : a = b := by
  apply List.ext_getElem hl
  intro k h1 h2
  apply Nat.eq_of_testBit_eq
  intro i
  by_cases hi : i < 64
  · have := h (64 * k + i) (by omega)
    unfold bitOf at this
    rw [show (64 * k + i) / 64 = k by omega, show (64 * k + i) % 64 = i by omega] at this
    simpa [List.getD, h1, h2] using this
  · rw [Nat.testBit_lt_two_pow (Nat.lt_of_lt_of_le (ha _ (List.getElem_mem h1)) (Nat.pow_le_pow_right (by decide) (by omega))),
      Nat.testBit_lt_two_pow (Nat.lt_of_lt_of_le (hb _ (List.getElem_mem h2)) (Nat.pow_le_pow_right (by decide) (by omega)))]
theorem testBit_div (x i : Nat) : x.testBit i = decide (x / 2 ^ i % 2 = 1) := Nat.testBit_eq_decide_div_mod_eq
end Go.Proofs.YtnpmepklgakaiaaDoor
