/- Chapter 4 (geom) as plain numbers: regions one behind the other. No program. -/
namespace Go.Proofs.YtnpmepklgakaiaaDoor
set_option linter.unusedVariables false

/-- a geometry that may be: P slots, I inodes, B blocks -/
def MayG (P I B : Int) : Prop := 1 ≤ P ∧ P ≤ 8 ∧ 2 ≤ I ∧ I ≤ 64 ∧ 4 ≤ B ∧ B ≤ 255
instance (P I B : Int) : Decidable (MayG P I B) := by unfold MayG; infer_instance

/-- the j-th region: its kind, which one it is, how many words it has, where it begins -/
def spK (P I j : Nat) : Nat := if j = 0 then 1 else if j = 1 then 2 else if j < 2 + I then 3 else if j < 2 + I + P then 4 else 5
def spW (P I j : Nat) : Nat := if j < 2 then 0 else if j < 2 + I then j - 1 else if j < 2 + I + P then j - (2 + I) else j - (2 + I + P) + 1
def spN (P I j : Nat) : Nat := if j < 2 + I then 8 else if j < 2 + I + P then 136 else 32
def spO (P I j : Nat) : Nat := if j ≤ 2 + I then 8 * j else if j ≤ 2 + I + P then 8 * (2 + I) + 136 * (j - (2 + I)) else 8 * (2 + I) + 136 * P + 32 * (j - (2 + I + P))
theorem spO_zero (P I : Nat) : spO P I 0 = 0 := by simp [spO]
theorem spO_succ (P I j : Nat) : spO P I (j + 1) = spO P I j + spN P I j := by
  unfold spO spN
  repeat' split
  all_goals omega
theorem spO_all (P I B : Nat) : spO P I (2 + I + P + B) = 8 * (2 + I + 17 * P + 4 * B) := by
  unfold spO
  repeat' split
  all_goals omega
theorem spN_pos (P I j : Nat) : 8 ≤ spN P I j := by unfold spN; split <;> (try split) <;> omega
theorem spO_mono (P I : Nat) {j k : Nat} (h : j ≤ k) : spO P I j ≤ spO P I k := by
  induction h with
  | refl => exact Nat.le_refl _
  | step _ ih => exact Nat.le_trans ih (by rw [spO_succ]; omega)
theorem spK_le (P I j : Nat) : 1 ≤ spK P I j ∧ spK P I j ≤ 5 := by unfold spK; split <;> (try split) <;> (try split) <;> (try split) <;> omega

/-- the first region of a kind and a number below m, where it begins -/
def placeTo (P I : Nat) (kind : Nat) (which : Int) : Nat → Option Nat
  | 0 => none
  | m + 1 => match placeTo P I kind which m with
    | some a => some a
    | none => if spK P I m = kind ∧ (spW P I m : Int) = which then some (spO P I m) else none
theorem placeTo_none {P I kind : Nat} {which : Int} : ∀ {m : Nat}, (∀ j, j < m → ¬ (spK P I j = kind ∧ (spW P I j : Int) = which)) → placeTo P I kind which m = none := by
  intro m
  induction m with
  | zero => intro _; rfl
  | succ m ih =>
    intro h
    unfold placeTo
    rw [ih (fun j hj => h j (by omega))]
    simp only
    rw [if_neg (h m (by omega))]
theorem placeTo_some {P I kind : Nat} {which : Int} {j : Nat} (hj : spK P I j = kind ∧ (spW P I j : Int) = which) (hb : ∀ i, i < j → ¬ (spK P I i = kind ∧ (spW P I i : Int) = which)) : ∀ {m : Nat}, j < m → placeTo P I kind which m = some (spO P I j) := by
  intro m
  induction m with
  | zero => intro h; omega
  | succ m ih =>
    intro h
    unfold placeTo
    by_cases hm : j < m
    · rw [ih hm]
    · obtain rfl : j = m := by omega
      rw [placeTo_none hb]
      simp only
      rw [if_pos hj]
theorem place_inode (P I B : Nat) (n : Int) : placeTo P I 3 n (2 + I + P + B) = if 1 ≤ n ∧ n ≤ I then some (8 * (2 + (n.toNat - 1))) else none := by
  by_cases h : 1 ≤ n ∧ n ≤ I
  · rw [if_pos h]
    obtain ⟨k, rfl⟩ : ∃ k : Nat, n = (k : Int) := ⟨n.toNat, by omega⟩
    have e : spO P I (k + 1) = 8 * (2 + ((k : Int).toNat - 1)) := by unfold spO; rw [if_pos (by omega)]; omega
    rw [← e]
    refine placeTo_some ?_ ?_ (by omega)
    · unfold spK spW
      rw [if_neg (by omega), if_neg (by omega), if_pos (by omega), if_neg (by omega), if_pos (by omega)]
      omega
    · intro i hi
      unfold spK spW
      repeat' split
      all_goals omega
  · rw [if_neg h]
    refine placeTo_none fun j hj => ?_
    unfold spK spW
    repeat' split
    all_goals omega
theorem place_slot (P I B : Nat) (n : Int) : placeTo P I 4 n (2 + I + P + B) = if 0 ≤ n ∧ n < P then some (8 * (2 + I + 17 * n.toNat)) else none := by
  by_cases h : 0 ≤ n ∧ n < P
  · rw [if_pos h]
    obtain ⟨k, rfl⟩ : ∃ k : Nat, n = (k : Int) := ⟨n.toNat, by omega⟩
    have e : spO P I (2 + I + k) = 8 * (2 + I + 17 * (k : Int).toNat) := by
      unfold spO
      repeat' split
      all_goals omega
    rw [← e]
    refine placeTo_some ?_ ?_ (by omega)
    · unfold spK spW
      rw [if_neg (by omega), if_neg (by omega), if_neg (by omega), if_pos (by omega), if_neg (by omega), if_neg (by omega), if_pos (by omega)]
      omega
    · intro i hi
      unfold spK spW
      repeat' split
      all_goals omega
  · rw [if_neg h]
    refine placeTo_none fun j hj => ?_
    unfold spK spW
    repeat' split
    all_goals omega
theorem place_block (P I B : Nat) (n : Int) : placeTo P I 5 n (2 + I + P + B) = if 1 ≤ n ∧ n ≤ B then some (8 * (2 + I + 17 * P + 4 * (n.toNat - 1))) else none := by
  by_cases h : 1 ≤ n ∧ n ≤ B
  · rw [if_pos h]
    obtain ⟨k, rfl⟩ : ∃ k : Nat, n = (k : Int) := ⟨n.toNat, by omega⟩
    have e : spO P I (2 + I + P + (k - 1)) = 8 * (2 + I + 17 * P + 4 * ((k : Int).toNat - 1)) := by
      unfold spO
      repeat' split
      all_goals omega
    rw [← e]
    refine placeTo_some ?_ ?_ (by omega)
    · unfold spK spW
      rw [if_neg (by omega), if_neg (by omega), if_neg (by omega), if_neg (by omega), if_neg (by omega), if_neg (by omega), if_neg (by omega)]
      omega
    · intro i hi
      unfold spK spW
      repeat' split
      all_goals omega
  · rw [if_neg h]
    refine placeTo_none fun j hj => ?_
    unfold spK spW
    repeat' split
    all_goals omega
end Go.Proofs.YtnpmepklgakaiaaDoor
