/- Chapter 4, plainly: from one word to the next. -/
import Derived.Test.YtpjhjpcajdbinaaGeomRefW
namespace Go.Proofs.Ytpjhjpcajdbinaa
open Go.RowKit
set_option linter.unusedVariables false

/-- where the first word of a region stands -/
def startOf (P I k n : Int) : Int := if k = 5 then 8 * (2 + I + 17 * P + 4 * (n - 1)) else if k = 4 then 8 * (2 + I + 17 * n) else if k = 3 then 8 * (1 + n) else 8 * (k - 1)
theorem sp_find (P I a : Nat) : ∀ m, a < spO P I m → ∃ j, j < m ∧ spO P I j ≤ a ∧ a < spO P I j + spN P I j := by
  intro m
  induction m with
  | zero => intro h; rw [spO_zero] at h; omega
  | succ m ih =>
    intro h
    by_cases hm : a < spO P I m
    · obtain ⟨j, h1, h2⟩ := ih hm
      exact ⟨j, by omega, h2⟩
    · exact ⟨m, by omega, by omega, by rw [spO_succ] at h; exact h⟩
theorem sp_next (P I j : Nat) (hP : 1 ≤ P) (hI : 2 ≤ I) : spK P I j < spK P I (j + 1) ∨ (spK P I j = spK P I (j + 1) ∧ spW P I j < spW P I (j + 1)) := by
  unfold spK spW
  by_cases c0 : j = 0
  · subst c0
    exact .inl (by simp)
  by_cases c1 : j = 1
  · subst c1
    refine .inl ?_
    rw [if_neg (by omega), if_pos rfl, if_neg (by omega), if_neg (by omega), if_pos (by omega)]
    omega
  by_cases c2 : j + 1 < 2 + I
  · refine .inr ⟨?_, ?_⟩
    · rw [if_neg (by omega), if_neg (by omega), if_pos (by omega), if_neg (by omega), if_neg (by omega), if_pos (by omega)]
    · rw [if_neg (by omega), if_pos (by omega), if_neg (by omega), if_pos (by omega)]; omega
  by_cases c3 : j < 2 + I
  · refine .inl ?_
    rw [if_neg (by omega), if_neg (by omega), if_pos (by omega), if_neg (by omega), if_neg (by omega), if_neg (by omega), if_pos (by omega)]
    omega
  by_cases c4 : j + 1 < 2 + I + P
  · refine .inr ⟨?_, ?_⟩
    · rw [if_neg (by omega), if_neg (by omega), if_neg (by omega), if_pos (by omega), if_neg (by omega), if_neg (by omega), if_neg (by omega), if_pos (by omega)]
    · rw [if_neg (by omega), if_neg (by omega), if_pos (by omega), if_neg (by omega), if_neg (by omega), if_pos (by omega)]; omega
  by_cases c5 : j < 2 + I + P
  · refine .inl ?_
    rw [if_neg (by omega), if_neg (by omega), if_neg (by omega), if_pos (by omega), if_neg (by omega), if_neg (by omega), if_neg (by omega), if_neg (by omega)]
    omega
  · refine .inr ⟨?_, ?_⟩
    · rw [if_neg (by omega), if_neg (by omega), if_neg (by omega), if_neg (by omega), if_neg (by omega), if_neg (by omega), if_neg (by omega), if_neg (by omega)]
    · rw [if_neg (by omega), if_neg (by omega), if_neg (by omega), if_neg (by omega), if_neg (by omega), if_neg (by omega)]; omega
theorem sp_eight (P I j : Nat) : spO P I j % 8 = 0 := by
  unfold spO
  repeat' split
  all_goals omega
theorem sp_start (P I j : Nat) (hI : 2 ≤ I) : startOf P I (spK P I j : Nat) (spW P I j : Nat) = (spO P I j : Nat) := by
  unfold startOf
  by_cases c0 : j = 0
  · have eK : spK P I j = 1 := by unfold spK; rw [if_pos c0]
    have eO : spO P I j = 0 := by unfold spO; rw [if_pos (by omega)]; omega
    rw [eK, eO, if_neg (by decide), if_neg (by decide), if_neg (by decide)]; omega
  by_cases c1 : j = 1
  · have eK : spK P I j = 2 := by unfold spK; rw [if_neg c0, if_pos c1]
    have eO : spO P I j = 8 := by unfold spO; rw [if_pos (by omega)]; omega
    rw [eK, eO, if_neg (by decide), if_neg (by decide), if_neg (by decide)]; omega
  by_cases c2 : j < 2 + I
  · have eK : spK P I j = 3 := by unfold spK; rw [if_neg c0, if_neg c1, if_pos c2]
    have eW : spW P I j = j - 1 := by unfold spW; rw [if_neg (by omega), if_pos c2]
    have eO : spO P I j = 8 * j := by unfold spO; rw [if_pos (by omega)]
    rw [eK, eW, eO, if_neg (by decide), if_neg (by decide), if_pos (by decide)]; omega
  by_cases c3 : j < 2 + I + P
  · have eK : spK P I j = 4 := by unfold spK; rw [if_neg c0, if_neg c1, if_neg c2, if_pos c3]
    have eW : spW P I j = j - (2 + I) := by unfold spW; rw [if_neg (by omega), if_neg c2, if_pos c3]
    have eO : spO P I j = 8 * (2 + I) + 136 * (j - (2 + I)) := by
      unfold spO
      repeat' split
      all_goals omega
    rw [eK, eW, eO, if_neg (by decide), if_pos (by decide)]; omega
  · have eK : spK P I j = 5 := by unfold spK; rw [if_neg c0, if_neg c1, if_neg c2, if_neg c3]
    have eW : spW P I j = j - (2 + I + P) + 1 := by unfold spW; rw [if_neg (by omega), if_neg c2, if_neg c3]
    have eO : spO P I j = 8 * (2 + I) + 136 * P + 32 * (j - (2 + I + P)) := by
      unfold spO
      repeat' split
      all_goals omega
    rw [eK, eW, eO, if_pos (by decide)]; omega
theorem regOf_zero (P I : Int) (hP : 1 ≤ P) (hI : 2 ≤ I) : regOf P I 0 = (1, 0, 0) := by
  unfold regOf
  rw [if_neg (by omega), if_neg (by omega), if_neg (by omega), if_neg (by omega)]
  rfl
theorem regOf_last (P I B : Int) (hP : 1 ≤ P) (hI : 2 ≤ I) (hB : 4 ≤ B) : regOf P I (8 * linesOf P I B - 1) = (5, B, 31) := by
  unfold regOf linesOf
  rw [if_pos (by omega)]
  refine Prod.ext rfl (Prod.ext ?_ ?_) <;> simp only <;> omega

theorem sp_range (P I B j : Nat) (hj : j < 2 + I + P + B) : (spK P I j = 3 → 1 ≤ spW P I j ∧ spW P I j ≤ I) ∧ (spK P I j = 4 → spW P I j < P) ∧ (spK P I j = 5 → 1 ≤ spW P I j ∧ spW P I j ≤ B) ∧ (spK P I j ≤ 2 → spW P I j = 0) := by
  unfold spK spW
  by_cases c0 : j = 0
  · rw [if_pos c0, if_pos (by omega)]; omega
  by_cases c1 : j = 1
  · rw [if_neg c0, if_pos c1, if_pos (by omega)]; omega
  by_cases c2 : j < 2 + I
  · rw [if_neg c0, if_neg c1, if_pos c2, if_neg (by omega), if_pos c2]; omega
  by_cases c3 : j < 2 + I + P
  · rw [if_neg c0, if_neg c1, if_neg c2, if_pos c3, if_neg (by omega), if_neg c2, if_pos c3]; omega
  · rw [if_neg c0, if_neg c1, if_neg c2, if_neg c3, if_neg (by omega), if_neg c2, if_neg c3]; omega

/-- the word a + 1 is of the same region, the next one of it; or the first one of a later region -/
theorem regOf_step (P I B a : Nat) (hP : 1 ≤ P) (hI : 2 ≤ I) (ha : a + 1 < 8 * (2 + I + 17 * P + 4 * B)) : ∃ k n o k' n' o' : Nat, regOf P I (a : Int) = ((k : Int), (n : Int), (o : Int)) ∧ regOf P I ((a + 1 : Nat) : Int) = ((k' : Int), (n' : Int), (o' : Int)) ∧
    k ≤ 5 ∧ k' ≤ 5 ∧ n ≤ I + P + B ∧ n' ≤ I + P + B ∧ o ≤ 136 ∧
    ((k' = k ∧ n' = n ∧ o' = o + 1) ∨ ((k < k' ∨ (k = k' ∧ n < n')) ∧ o' = 0 ∧ (a + 1) % 8 = 0 ∧ startOf P I (k' : Nat) (n' : Nat) = ((a + 1 : Nat) : Int) ∧ 1 ≤ k' ∧ (k' = 3 → 1 ≤ n' ∧ n' ≤ I) ∧ (k' = 4 → n' < P) ∧ (k' = 5 → 1 ≤ n' ∧ n' ≤ B) ∧ (k' ≤ 2 → n' = 0))) := by
  obtain ⟨j, hj, h1, h2⟩ := sp_find P I a (2 + I + P + B) (by rw [spO_all]; omega)
  have e1 := reg_eq P I j a h1 h2
  have hN : spN P I j ≤ 136 := by unfold spN; split <;> (try split) <;> omega
  have hW : ∀ i, i < 2 + I + P + B → spW P I i ≤ I + P + B := fun i hi => by
    unfold spW
    repeat' split
    all_goals omega
  by_cases hlt : a + 1 < spO P I j + spN P I j
  · have e2 := reg_eq P I j (a + 1) (by omega) hlt
    exact ⟨_, _, _, _, _, _, e1, e2, (spK_le P I j).2, (spK_le P I j).2, hW j hj, hW j hj, by omega, .inl ⟨rfl, rfl, by omega⟩⟩
  · have hs := spO_succ P I j
    have ha1 : a + 1 = spO P I (j + 1) := by omega
    have hj1 : j + 1 < 2 + I + P + B := by
      rcases Nat.lt_or_ge (j + 1) (2 + I + P + B) with h | h
      · exact h
      · have := spO_mono P I h
        rw [spO_all] at this
        omega
    have e2 := reg_eq P I (j + 1) (a + 1) (by omega) (by have := spN_pos P I (j + 1); omega)
    refine ⟨_, _, _, _, _, _, e1, e2, (spK_le P I j).2, (spK_le P I (j + 1)).2, hW j hj, hW (j + 1) hj1, by omega, .inr ⟨sp_next P I j hP hI, by omega, by rw [ha1]; exact sp_eight P I _, ?_, (spK_le P I (j + 1)).1, sp_range P I B (j + 1) hj1⟩⟩
    rw [sp_start P I (j + 1) hI, ha1]
end Go.Proofs.Ytpjhjpcajdbinaa
