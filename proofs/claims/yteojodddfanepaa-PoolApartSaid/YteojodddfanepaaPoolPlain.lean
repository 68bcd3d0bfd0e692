/- Chapter 15 (pool) as plain functions on rows of words: which numbers are free, taking, dropping, which words are others. No program. -/
import Derived.Test.YteojodddfanepaaBits
namespace Go.Proofs.Yteojodddfanepaa
set_option linter.unusedVariables false

/-- the free ones below n, rising, from 0 on -/
def frees (l : List Nat) (n : Nat) : List Nat := (List.range n).filter fun i => !bitOf l i
theorem frees_zero (l : List Nat) : frees l 0 = [] := rfl
theorem frees_succ (l : List Nat) (i : Nat) : frees l (i + 1) = if bitOf l i = true then frees l i else frees l i ++ [i] := by
  unfold frees
  rw [List.range_succ, List.filter_append]
  cases h : bitOf l i <;> simp [h]
theorem frees_lt {l : List Nat} {n i : Nat} (h : i ∈ frees l n) : i < n := by
  have := (List.mem_filter.1 h).1
  exact List.mem_range.1 this
theorem frees_bit {l : List Nat} {n i : Nat} (h : i ∈ frees l n) : bitOf l i = false := by
  have := (List.mem_filter.1 h).2
  simpa using this
theorem mem_frees {l : List Nat} {n i : Nat} : i ∈ frees l n ↔ i < n ∧ bitOf l i = false := by
  unfold frees
  rw [List.mem_filter, List.mem_range]
  simp
theorem frees_length_le (l : List Nat) (n : Nat) : (frees l n).length ≤ n := by
  unfold frees
  exact Nat.le_trans (List.length_filter_le _ _) (by simp)
theorem frees_sorted (l : List Nat) (n : Nat) : (frees l n).Pairwise (· < ·) := List.Pairwise.filter _ (List.pairwise_lt_range)

/-- some bits set -/
def setAll (l : List Nat) (is : List Nat) : List Nat := is.foldl (fun r i => setBit r i 1) l
theorem setAll_snoc (l : List Nat) (is : List Nat) (i : Nat) : setAll l (is ++ [i]) = setBit (setAll l is) i 1 := by simp [setAll]
theorem setAll_length (l : List Nat) (is : List Nat) : (setAll l is).length = l.length := by
  induction is generalizing l with
  | nil => rfl
  | cons i is ih =>
    have : setAll l (i :: is) = setAll (setBit l i 1) is := rfl
    rw [this, ih, setBit_length]
theorem setAll_wd {l : List Nat} (h : Wd64 l) (is : List Nat) : Wd64 (setAll l is) := by
  induction is generalizing l with
  | nil => exact h
  | cons i is ih => exact ih (setBit_wd h i 1)
theorem bitOf_setAll (l : List Nat) (is : List Nat) (j : Nat) (h : ∀ i ∈ is, i < 64 * l.length) : bitOf (setAll l is) j = (bitOf l j || decide (j ∈ is)) := by
  induction is generalizing l with
  | nil => simp [setAll]
  | cons i is ih =>
    have e : setAll l (i :: is) = setAll (setBit l i 1) is := rfl
    rw [e, ih (setBit l i 1) (fun x hx => by rw [setBit_length]; exact h x (by simp [hx])), bitOf_setBit l i 1 j (h i (by simp))]
    by_cases hj : j = i
    · subst hj; simp
    · rw [if_neg hj]; simp [hj]

/-- what is taken of the numbers below n, k of them; as the program numbers them (from 1 on) -/
def takes (l : List Nat) (n k : Nat) : List Nat := (frees l n).take k
def nums (l : List Nat) : List Int := l.map fun (i : Nat) => (i : Int) + 1
theorem nums_length (l : List Nat) : (nums l).length = l.length := by simp [nums]
theorem nums_snoc (l : List Nat) (i : Nat) : nums (l ++ [i]) = nums l ++ [(i : Int) + 1] := by simp [nums]
theorem takes_succ_full {l : List Nat} {i k : Nat} (h : k ≤ (takes l i k).length) : takes l (i + 1) k = takes l i k := by
  unfold takes at *
  rw [frees_succ]
  split
  · rfl
  · rw [List.take_append_of_le_length]
    simp at h; omega
theorem takes_succ_free {l : List Nat} {i k : Nat} (h : (takes l i k).length < k) (hb : bitOf l i = false) : takes l (i + 1) k = takes l i k ++ [i] := by
  unfold takes at *
  rw [frees_succ, if_neg (by rw [hb]; decide)]
  have h1 : (frees l i).length < k := by simp at h; omega
  rw [List.take_of_length_le (show (frees l i).length ≤ k by omega), List.take_of_length_le (by simp; omega)]
theorem takes_succ_taken {l : List Nat} {i k : Nat} (hb : bitOf l i = true) : takes l (i + 1) k = takes l i k := by
  unfold takes
  rw [frees_succ, if_pos hb]
theorem takes_full {l : List Nat} {j n k : Nat} (h : k ≤ (takes l j k).length) (hj : j ≤ n) : takes l n k = takes l j k := by
  obtain ⟨d, rfl⟩ : ∃ d, n = j + d := ⟨n - j, by omega⟩
  clear hj
  induction d with
  | zero => rfl
  | succ d ih =>
    have : takes l (j + d + 1) k = takes l (j + d) k := takes_succ_full (by rw [ih]; exact h)
    rw [← Nat.add_assoc, this, ih]
theorem takes_zero (l : List Nat) (k : Nat) : takes l 0 k = [] := by simp [takes, frees_zero]
theorem takes_length (l : List Nat) (n k : Nat) : (takes l n k).length = min k (frees l n).length := by simp [takes]
theorem takes_mem {l : List Nat} {n k i : Nat} (h : i ∈ takes l n k) : i ∈ frees l n := List.mem_of_mem_take h

/-- dropped, one behind the other; none: one of them had not been taken -/
def drops (l : List Nat) : List Int → Option (List Nat)
  | [] => some l
  | i :: r => if bitOf l (i - 1).toNat = true then drops (setBit l (i - 1).toNat 0) r else none
/-- how far one comes -/
def dropsTo (l : List Nat) (which : List Int) (k : Nat) : Option (List Nat) := drops l (which.take k)
theorem drops_snoc (l : List Nat) (a : List Int) (i : Int) : drops l (a ++ [i]) = (drops l a).bind fun r => if bitOf r (i - 1).toNat = true then some (setBit r (i - 1).toNat 0) else none := by
  induction a generalizing l with
  | nil => simp [drops]
  | cons x a ih =>
    simp only [List.cons_append, drops]
    split
    · exact ih _
    · rfl
theorem dropsTo_succ {l : List Nat} {which : List Int} {k : Nat} (h : k < which.length) : dropsTo l which (k + 1) = (dropsTo l which k).bind fun r => if bitOf r (which[k] - 1).toNat = true then some (setBit r (which[k] - 1).toNat 0) else none := by
  unfold dropsTo
  rw [List.take_succ_eq_append_getElem h, drops_snoc]
theorem drops_append_none {l : List Nat} {a : List Int} (b : List Int) (h : drops l a = none) : drops l (a ++ b) = none := by
  induction a generalizing l with
  | nil => cases h
  | cons x a ih =>
    simp only [List.cons_append, drops] at h ⊢
    split
    · rename_i hb; rw [if_pos hb] at h; exact ih h
    · rfl
theorem drops_none_of {l : List Nat} {which : List Int} {k : Nat} (h : dropsTo l which k = none) : drops l which = none := by
  have := drops_append_none (which.drop k) h
  rwa [List.take_append_drop] at this
theorem dropsTo_all (l : List Nat) (which : List Int) : dropsTo l which which.length = drops l which := by unfold dropsTo; rw [List.take_length]
theorem drops_length {l r : List Nat} : ∀ {which : List Int}, drops l which = some r → r.length = l.length := by
  intro which
  induction which generalizing l with
  | nil => intro h; cases h; rfl
  | cons i w ih =>
    intro h
    simp only [drops] at h
    split at h
    · rw [ih h, setBit_length]
    · cases h
theorem drops_wd {l r : List Nat} (hl : Wd64 l) : ∀ {which : List Int}, drops l which = some r → Wd64 r := by
  intro which
  induction which generalizing l with
  | nil => intro h; cases h; exact hl
  | cons i w ih =>
    intro h
    simp only [drops] at h
    split at h
    · exact ih (setBit_wd hl _ _) h
    · cases h

/-- the places of words that are others, below n -/
def turnedTo (a b : List Nat) (n : Nat) : List Nat := (List.range n).filter fun i => a.getD i 0 != b.getD i 0
def ints (l : List Nat) : List Int := l.map fun (i : Nat) => (i : Int)
theorem ints_length (l : List Nat) : (ints l).length = l.length := by simp [ints]
theorem ints_snoc (l : List Nat) (i : Nat) : ints (l ++ [i]) = ints l ++ [(i : Int)] := by simp [ints]
theorem turnedTo_zero (a b : List Nat) : turnedTo a b 0 = [] := rfl
theorem turnedTo_succ_eq {a b : List Nat} {i : Nat} (h : a.getD i 0 = b.getD i 0) : turnedTo a b (i + 1) = turnedTo a b i := by
  unfold turnedTo
  rw [List.range_succ, List.filter_append]
  simp [-List.getD_eq_getElem?_getD, h]
theorem turnedTo_succ_ne {a b : List Nat} {i : Nat} (h : a.getD i 0 ≠ b.getD i 0) : turnedTo a b (i + 1) = turnedTo a b i ++ [i] := by
  unfold turnedTo
  rw [List.range_succ, List.filter_append]
  simp [-List.getD_eq_getElem?_getD, h]
theorem turnedTo_len (a b : List Nat) (n : Nat) : (turnedTo a b n).length ≤ n := by
  unfold turnedTo
  exact Nat.le_trans (List.length_filter_le _ _) (by simp)
def turned (a b : List Nat) : List Nat := turnedTo a b (min a.length b.length)
end Go.Proofs.Yteojodddfanepaa
