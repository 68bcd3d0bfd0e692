/- A list of words that are turned, as plain data. -/
import Derived.Test.YtlfnpjdnfkcigaaDoorMem
namespace Go.Proofs.YtlfnpjdnfkcigaaDoor
open Go.RowKit
set_option linter.unusedVariables false

/-- a word that is to stand at a place -/
structure Rdo where
  a : Int
  w : Nat
  deriving DecidableEq
def I64r (n : Int) : Prop := -9223372036854775808 ≤ n ∧ n ≤ 9223372036854775807
def OkR (r : Rdo) : Prop := I64r r.a ∧ r.w < 18446744073709551616
def rcell (r : Rdo) : List Value := [.int .i64 r.a, .int .u64 (r.w : Nat)]
def rcells (l : List Rdo) : List Value := l.flatMap rcell
theorem rcells_cons (x : Rdo) (l : List Rdo) : rcells (x :: l) = .int .i64 x.a :: .int .u64 (x.w : Nat) :: rcells l := rfl
theorem rcells_append (a b : List Rdo) : rcells (a ++ b) = rcells a ++ rcells b := by simp [rcells]
theorem rcells_one (x : Rdo) : rcells [x] = rcell x := rfl
theorem rcells_length (l : List Rdo) : (rcells l).length = l.length * 2 := by
  induction l with
  | nil => rfl
  | cons x l ih => rw [rcells_cons]; simp only [List.length_cons, ih]; omega
theorem rcells_oneCell (l : List Rdo) : ∀ u ∈ rcells l, u.oneCell' = true := by
  intro u hu
  obtain ⟨x, _, hx⟩ := List.mem_flatMap.1 hu
  simp only [rcell, List.mem_cons, List.mem_nil_iff, or_false] at hx
  rcases hx with rfl | rfl <;> rfl
theorem rcells_at : ∀ (l : List Rdo) (i : Nat) (h : i < l.length), (rcells l)[i * 2]? = some (.int .i64 l[i].a) ∧ (rcells l)[i * 2 + 1]? = some (.int .u64 (l[i].w : Nat)) := by
  intro l
  induction l with
  | nil => intro i h; cases h
  | cons x l ih =>
    intro i h
    rw [rcells_cons]
    cases i with
    | zero => exact ⟨rfl, rfl⟩
    | succ i =>
      have := ih i (by simp at h; omega)
      rw [show (i + 1) * 2 = i * 2 + 1 + 1 by omega]
      exact this
/-- may an entry be laid? -/
def mayOne (r : Rdo) : Prop := 0 ≤ r.a ∧ r.a < 1048576
instance (r : Rdo) : Decidable (mayOne r) := by unfold mayOne; infer_instance
/-- why a list may not be laid -/
def mayE (l : List Rdo) : Int := if 64 < l.length then 5 else if ∀ r ∈ l, mayOne r then 0 else 2
theorem mayE_ok {l : List Rdo} : mayE l = 0 ↔ l.length ≤ 64 ∧ ∀ r ∈ l, mayOne r := by
  unfold mayE
  by_cases h1 : 64 < l.length
  · rw [if_pos h1]; constructor
    · intro h; cases h
    · intro h; omega
  · rw [if_neg h1]
    by_cases h2 : ∀ r ∈ l, mayOne r
    · rw [if_pos h2]; exact ⟨fun _ => ⟨by omega, h2⟩, fun _ => rfl⟩
    · rw [if_neg h2]; constructor
      · intro h; cases h
      · intro h; exact (h2 h.2).elim
/-- the words of a list -/
def rbody (l : List Rdo) : List Nat := l.flatMap fun r => [r.a.toNat, r.w]
theorem rbody_append (a b : List Rdo) : rbody (a ++ b) = rbody a ++ rbody b := by simp [rbody]
theorem rbody_length (l : List Rdo) : (rbody l).length = l.length * 2 := by
  induction l with
  | nil => rfl
  | cons x l ih => simp only [rbody, List.flatMap_cons, List.length_append, List.length_cons, List.length_nil] at *; omega
theorem rbody_take (l : List Rdo) (j : Nat) (h : j < l.length) : rbody (l.take (j + 1)) = rbody (l.take j) ++ [l[j].a.toNat, l[j].w] := by
  rw [List.take_succ_eq_append_getElem h, rbody_append]
  rfl
theorem rbody_lt {l : List Rdo} (h : ∀ r ∈ l, mayOne r ∧ r.w < 18446744073709551616) : ∀ x ∈ rbody l, x < 18446744073709551616 := by
  intro x hx
  obtain ⟨r, hr, hx⟩ := List.mem_flatMap.1 hx
  obtain ⟨⟨h1, h2⟩, h3⟩ := h r hr
  simp only [List.mem_cons, List.mem_nil_iff, or_false] at hx
  rcases hx with rfl | rfl
  · omega
  · exact h3
end Go.Proofs.YtlfnpjdnfkcigaaDoor
