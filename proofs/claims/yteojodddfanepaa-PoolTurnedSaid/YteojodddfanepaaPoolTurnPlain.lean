/- Chapter 15, plainly: a row is another one by just the words that are others. No program. -/
import Derived.Test.YteojodddfanepaaPoolPlain
namespace Go.Proofs.Yteojodddfanepaa
set_option linter.unusedVariables false

def fixTo (a b : List Nat) (is : List Nat) : List Nat := is.foldl (fun r i => r.set i (b.getD i 0)) a
theorem fixTo_snoc (a b is : List Nat) (i : Nat) : fixTo a b (is ++ [i]) = (fixTo a b is).set i (b.getD i 0) := by simp [fixTo]
theorem fixTo_length (a b is : List Nat) : (fixTo a b is).length = a.length := by
  induction is generalizing a with
  | nil => rfl
  | cons i is ih =>
    have e : fixTo a b (i :: is) = fixTo (a.set i (b.getD i 0)) b is := rfl
    rw [e, ih, List.length_set]
theorem fixTo_getD (b is : List Nat) (i : Nat) : ∀ (a : List Nat), i < a.length → (fixTo a b is).getD i 0 = if i ∈ is then b.getD i 0 else a.getD i 0 := by
  induction is with
  | nil => intro a _; simp [fixTo]
  | cons k is ih =>
    intro a hi
    have e : fixTo a b (k :: is) = fixTo (a.set k (b.getD k 0)) b is := rfl
    rw [e, ih _ (by rw [List.length_set]; exact hi)]
    by_cases h1 : i ∈ is
    · rw [if_pos h1, if_pos (by simp [h1])]
    · rw [if_neg h1]
      by_cases h2 : i = k
      · subst h2
        rw [if_pos (by simp)]
        simp [List.getD_eq_getElem?_getD, hi]
      · rw [if_neg (by simp [h1, h2])]
        simp [List.getD_eq_getElem?_getD, Ne.symm h2]
theorem mem_turned {a b : List Nat} {i : Nat} : i ∈ turned a b ↔ i < min a.length b.length ∧ a.getD i 0 ≠ b.getD i 0 := by
  unfold turned turnedTo
  rw [List.mem_filter, List.mem_range]
  simp [-List.getD_eq_getElem?_getD]
theorem turned_sorted (a b : List Nat) : (turned a b).Pairwise (· < ·) := List.Pairwise.filter _ List.pairwise_lt_range
theorem turned_comm (a b : List Nat) : turned b a = turned a b := by
  unfold turned turnedTo
  rw [Nat.min_comm]
  refine List.filter_congr fun x _ => ?_
  rw [Bool.eq_iff_iff]
  simp only [bne_iff_ne, ne_eq]
  exact ⟨fun h e => h e.symm, fun h e => h e.symm⟩
theorem turned_self (a : List Nat) : turned a a = [] := by
  unfold turned turnedTo
  rw [List.filter_eq_nil_iff]
  intro x _
  simp
theorem turned_len (a b : List Nat) : (turned a b).length ≤ min a.length b.length := turnedTo_len a b _
/-- behind all of them the rows are one, as far as both go -/
theorem fixTo_take (a b : List Nat) : (fixTo a b (turned a b)).take (min a.length b.length) = b.take (min a.length b.length) := by
  apply List.ext_getElem
  · simp [fixTo_length]
  intro i h1 h2
  have hi : i < min a.length b.length := by simp at h2; omega
  have h := fixTo_getD b (turned a b) i a (by omega)
  have e1 : (fixTo a b (turned a b)).getD i 0 = (fixTo a b (turned a b))[i]'(by rw [fixTo_length]; omega) := by
    rw [List.getD_eq_getElem?_getD, List.getElem?_eq_getElem (by rw [fixTo_length]; omega)]; rfl
  have e2 : b.getD i 0 = b[i]'(by omega) := by
    rw [List.getD_eq_getElem?_getD, List.getElem?_eq_getElem (by omega)]; rfl
  rw [List.getElem_take, List.getElem_take, ← e1, ← e2, h]
  split
  · rfl
  · rename_i hn
    exact Decidable.of_not_not fun hh => hn (mem_turned.2 ⟨hi, hh⟩)
/-- what came last -/
def lastOf (T : List Nat) (j : Nat) : Int := if j = 0 then -1 else (T.getD (j - 1) 0 : Nat)
theorem lastOf_succ (T : List Nat) (j : Nat) (h : j < T.length) : lastOf T (j + 1) = (T[j] : Nat) := by
  unfold lastOf
  rw [if_neg (by omega), Nat.add_sub_cancel, List.getD_eq_getElem?_getD, List.getElem?_eq_getElem h]
  rfl
theorem lastOf_lt {T : List Nat} (hs : T.Pairwise (· < ·)) {j : Nat} (h : j < T.length) : lastOf T j < (T[j] : Nat) := by
  unfold lastOf
  split
  · omega
  · rename_i h0
    rw [List.getD_eq_getElem?_getD, List.getElem?_eq_getElem (by omega)]
    have := List.pairwise_iff_getElem.1 hs (j - 1) j (by omega) h (by omega)
    simp only [Option.getD_some]
    omega
end Go.Proofs.Yteojodddfanepaa
