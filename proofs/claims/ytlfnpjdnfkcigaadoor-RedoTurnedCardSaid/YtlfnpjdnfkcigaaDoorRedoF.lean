/- What a slot is read as, as plain data. -/
import Derived.Test.YtlfnpjdnfkcigaaDoorRedoB
namespace Go.Proofs.YtlfnpjdnfkcigaaDoor
open Go.RowKit
set_option linter.unusedVariables false

/-- the first n entries that stand in a slot -/
def entOf (s : List Nat) (n : Nat) : List Rdo := (List.range n).map fun i => ⟨((s.getD (8 + 2 * i) 0 : Nat) : Int), s.getD (9 + 2 * i) 0⟩
theorem entOf_length (s : List Nat) (n : Nat) : (entOf s n).length = n := by simp [entOf]
theorem entOf_succ (s : List Nat) (n : Nat) : entOf s (n + 1) = entOf s n ++ [⟨((s.getD (8 + 2 * n) 0 : Nat) : Int), s.getD (9 + 2 * n) 0⟩] := by simp [entOf, List.range_succ]
/-- are the first n entries' places below the bound? -/
def entMay (s : List Nat) (n : Nat) : Prop := ∀ i, i < n → s.getD (8 + 2 * i) 0 < 1048576
theorem entOf_may {s : List Nat} {n : Nat} (h : entMay s n) : ∀ r ∈ entOf s n, mayOne r := by
  intro r hr
  obtain ⟨i, hi, rfl⟩ := List.mem_map.1 hr
  have := h i (List.mem_range.1 hi)
  unfold mayOne
  dsimp only
  omega
theorem entOf_w {s : List Nat} (hs : ∀ x ∈ s, x < 18446744073709551616) (n : Nat) : ∀ r ∈ entOf s n, r.w < 18446744073709551616 := by
  intro r hr
  obtain ⟨i, hi, rfl⟩ := List.mem_map.1 hr
  show s.getD (9 + 2 * i) 0 < _
  rw [List.getD_eq_getElem?_getD]
  cases h : s[9 + 2 * i]? with
  | none => simp
  | some x => simpa using hs x (List.mem_of_getElem? h)
/-- is there a list in a slot whose first word is c? -/
def slotHas (s : List Nat) (c : Nat) : Prop := c % 256 ≤ 64 ∧ entMay s (c % 256) ∧ rcommit (entOf s (c % 256)) = c
end Go.Proofs.YtlfnpjdnfkcigaaDoor
