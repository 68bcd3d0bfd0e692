/- A device as plain data: what is kept, what waits. No program. -/
import Derived.Test.YtdkcghicobakhaaBits
namespace Go.Proofs.Ytdkcghicobakhaa
set_option linter.unusedVariables false

/-- a store that waits -/
structure Pd where
  p : Nat
  w : Nat
  f : Bool
  deriving DecidableEq
def Pd.mark (x : Pd) (f : Bool) : Pd := ⟨x.p, x.w, f⟩
/-- words in which stores are done -/
def apP (K : List Nat) (L : List Pd) : List Nat := L.foldl (fun k x => k.set x.p x.w) K
theorem apP_nil (K : List Nat) : apP K [] = K := rfl
theorem apP_cons (K : List Nat) (x : Pd) (L : List Pd) : apP K (x :: L) = apP (K.set x.p x.w) L := rfl
theorem apP_append (K : List Nat) (L M : List Pd) : apP K (L ++ M) = apP (apP K L) M := List.foldl_append
theorem apP_snoc (K : List Nat) (L : List Pd) (x : Pd) : apP K (L ++ [x]) = (apP K L).set x.p x.w := by rw [apP_append]; rfl
theorem apP_length (L : List Pd) : ∀ K, (apP K L).length = K.length := by
  induction L with
  | nil => intro K; rfl
  | cons x L ih => intro K; rw [apP_cons, ih, List.length_set]
/-- those of which something is so, and the others -/
def takes (is : Nat → Pd → Bool) : Nat → List Pd → List Pd
  | _, [] => []
  | i, x :: r => if is i x then x :: takes is (i + 1) r else takes is (i + 1) r
def rests (is : Nat → Pd → Bool) : Nat → List Pd → List Pd
  | _, [] => []
  | i, x :: r => if is i x then rests is (i + 1) r else x :: rests is (i + 1) r
theorem takes_snoc (is : Nat → Pd → Bool) (x : Pd) : ∀ (L : List Pd) (i : Nat), takes is i (L ++ [x]) = takes is i L ++ if is (i + L.length) x then [x] else [] := by
  intro L
  induction L with
  | nil => intro i; simp [takes]
  | cons y L ih =>
    intro i
    simp only [List.cons_append, takes, ih, List.length_cons]
    rw [show i + 1 + L.length = i + (L.length + 1) by omega]
    split <;> simp
theorem rests_snoc (is : Nat → Pd → Bool) (x : Pd) : ∀ (L : List Pd) (i : Nat), rests is i (L ++ [x]) = rests is i L ++ if is (i + L.length) x then [] else [x] := by
  intro L
  induction L with
  | nil => intro i; simp [rests]
  | cons y L ih =>
    intro i
    simp only [List.cons_append, rests, ih, List.length_cons]
    rw [show i + 1 + L.length = i + (L.length + 1) by omega]
    split <;> simp
theorem takes_take (is : Nat → Pd → Bool) (L : List Pd) (j : Nat) (h : j < L.length) : takes is 0 (L.take (j + 1)) = takes is 0 (L.take j) ++ if is j L[j] then [L[j]] else [] := by
  rw [List.take_succ_eq_append_getElem h, takes_snoc, List.length_take, Nat.min_eq_left (by omega), Nat.zero_add]
theorem rests_take (is : Nat → Pd → Bool) (L : List Pd) (j : Nat) (h : j < L.length) : rests is 0 (L.take (j + 1)) = rests is 0 (L.take j) ++ if is j L[j] then [] else [L[j]] := by
  rw [List.take_succ_eq_append_getElem h, rests_snoc, List.length_take, Nat.min_eq_left (by omega), Nat.zero_add]
theorem rests_le (is : Nat → Pd → Bool) : ∀ (L : List Pd) (i : Nat), (rests is i L).length ≤ L.length := by
  intro L
  induction L with
  | nil => intro i; simp [rests]
  | cons y L ih =>
    intro i
    simp only [rests, List.length_cons]
    have := ih (i + 1)
    split
    · omega
    · rw [List.length_cons]; omega
theorem rests_mem (is : Nat → Pd → Bool) : ∀ (L : List Pd) (i : Nat) (x : Pd), x ∈ rests is i L → x ∈ L := by
  intro L
  induction L with
  | nil => intro i x h; simp [rests] at h
  | cons y L ih =>
    intro i x h
    simp only [rests] at h
    split at h
    · exact List.mem_cons_of_mem _ (ih _ _ h)
    · rcases List.mem_cons.1 h with h | h
      · exact h ▸ List.mem_cons_self
      · exact List.mem_cons_of_mem _ (ih _ _ h)
theorem takes_mem (is : Nat → Pd → Bool) : ∀ (L : List Pd) (i : Nat) (x : Pd), x ∈ takes is i L → x ∈ L := by
  intro L
  induction L with
  | nil => intro i x h; simp [takes] at h
  | cons y L ih =>
    intro i x h
    simp only [takes] at h
    split at h
    · rcases List.mem_cons.1 h with h | h
      · exact h ▸ List.mem_cons_self
      · exact List.mem_cons_of_mem _ (ih _ _ h)
    · exact List.mem_cons_of_mem _ (ih _ _ h)
/-- the stores of a line are flushed -/
def flushes (line : Int) (x : Pd) : Pd := x.mark (x.f || ((x.p / 8 : Nat) : Int) == line)
def isF (_ : Nat) (x : Pd) : Bool := x.f
def isK (keep : List Bool) (i : Nat) (_ : Pd) : Bool := decide (i < keep.length) && keep.getD i false
/-- numbers are in bounds -/
def OkP (n : Nat) (x : Pd) : Prop := x.p < n ∧ x.w < 18446744073709551616
end Go.Proofs.Ytdkcghicobakhaa
