/- parcloseref04.What in the words of geom.What. -/
import Derived.Test.YtpjhjpcajdbinaaGeomRefC
import Derived.Test.YtpjhjpcajdbinaaGeomWhatC
namespace Go.Proofs.Ytpjhjpcajdbinaa
open Go.RowKit
set_option linter.unusedVariables false

theorem reg_eq (P I j at_ : Nat) (h1 : spO P I j ≤ at_) (h2 : at_ < spO P I j + spN P I j) : regOf P I at_ = (((spK P I j : Nat) : Int), ((spW P I j : Nat) : Int), ((at_ - spO P I j : Nat) : Int)) := by
  unfold regOf
  by_cases c0 : j = 0
  · have eK : spK P I j = 1 := by unfold spK; rw [if_pos c0]
    have eW : spW P I j = 0 := by unfold spW; rw [if_pos (by omega)]
    have eO : spO P I j = 0 := by unfold spO; rw [if_pos (by omega)]; omega
    have eN : spN P I j = 8 := by unfold spN; rw [if_pos (by omega)]
    rw [eO, eN] at h2
    rw [eK, eW, eO, if_neg (by omega), if_neg (by omega), if_neg (by omega), if_neg (by omega)]
    refine Prod.ext rfl (Prod.ext ?_ ?_) <;> simp only <;> omega
  by_cases c1 : j = 1
  · have eK : spK P I j = 2 := by unfold spK; rw [if_neg c0, if_pos c1]
    have eW : spW P I j = 0 := by unfold spW; rw [if_pos (by omega)]
    have eO : spO P I j = 8 := by unfold spO; rw [if_pos (by omega)]; omega
    have eN : spN P I j = 8 := by unfold spN; rw [if_pos (by omega)]
    rw [eO] at h1
    rw [eO, eN] at h2
    rw [eK, eW, eO, if_neg (by omega), if_neg (by omega), if_neg (by omega), if_pos (by omega)]
    refine Prod.ext rfl (Prod.ext ?_ ?_) <;> simp only <;> omega
  by_cases c2 : j < 2 + I
  · have eK : spK P I j = 3 := by unfold spK; rw [if_neg c0, if_neg c1, if_pos c2]
    have eW : spW P I j = j - 1 := by unfold spW; rw [if_neg (by omega), if_pos c2]
    have eO : spO P I j = 8 * j := by unfold spO; rw [if_pos (by omega)]
    have eN : spN P I j = 8 := by unfold spN; rw [if_pos c2]
    rw [eO] at h1
    rw [eO, eN] at h2
    rw [eK, eW, eO, if_neg (by omega), if_neg (by omega), if_pos (by omega)]
    refine Prod.ext rfl (Prod.ext ?_ ?_) <;> simp only <;> omega
  by_cases c3 : j < 2 + I + P
  · have eK : spK P I j = 4 := by unfold spK; rw [if_neg c0, if_neg c1, if_neg c2, if_pos c3]
    have eW : spW P I j = j - (2 + I) := by unfold spW; rw [if_neg (by omega), if_neg c2, if_pos c3]
    have eO : spO P I j = 8 * (2 + I) + 136 * (j - (2 + I)) := by
      unfold spO
      repeat' split
      all_goals omega
    have eN : spN P I j = 136 := by unfold spN; rw [if_neg c2, if_pos c3]
    rw [eO] at h1
    rw [eO, eN] at h2
    rw [eK, eW, eO, if_neg (by omega), if_pos (by omega)]
    refine Prod.ext rfl (Prod.ext ?_ ?_) <;> simp only <;> omega
  · have eK : spK P I j = 5 := by unfold spK; rw [if_neg c0, if_neg c1, if_neg c2, if_neg c3]
    have eW : spW P I j = j - (2 + I + P) + 1 := by unfold spW; rw [if_neg (by omega), if_neg c2, if_neg c3]
    have eO : spO P I j = 8 * (2 + I) + 136 * P + 32 * (j - (2 + I + P)) := by
      unfold spO
      repeat' split
      all_goals omega
    have eN : spN P I j = 32 := by unfold spN; rw [if_neg c2, if_neg c3]
    rw [eO] at h1
    rw [eO, eN] at h2
    rw [eK, eW, eO, if_pos (by omega)]
    refine Prod.ext rfl (Prod.ext ?_ ?_) <;> simp only <;> omega
theorem refWhat_yes (P I B at_ : Int) (h : MayG P I B) (h0 : 0 ≤ at_) (h1 : at_ < 8 * linesOf P I B) (w : World) :
    Calls Try.prog 10 #[gv P I B, .int .i64 at_] w (OutB w (regOf P I at_).1 (regOf P I at_).2.1 (regOf P I at_).2.2 true) := by
  unfold linesOf at h1
  obtain ⟨m1, m2, m3, m4, m5, m6⟩ := h
  obtain ⟨P, rfl⟩ := Int.eq_ofNat_of_zero_le (show 0 ≤ P by omega)
  obtain ⟨I, rfl⟩ := Int.eq_ofNat_of_zero_le (show 0 ≤ I by omega)
  obtain ⟨B, rfl⟩ := Int.eq_ofNat_of_zero_le (show 0 ≤ B by omega)
  obtain ⟨at_, rfl⟩ := Int.eq_ofNat_of_zero_le h0
  refine (refWhat_nat P I B (by omega) (by omega) (by omega) (by omega) at_ (by omega) w).mono ?_
  rintro e w' (⟨hh, _⟩ | ⟨j, _, hj1, hj2, hj3⟩)
  · omega
  · rw [reg_eq P I j at_ hj1 hj2]
    exact hj3
theorem refWhat_none (P I B at_ : Int) (h : MayG P I B) (ha : at_ < 0 ∨ 8 * linesOf P I B ≤ at_) (hi : I64 at_) (w : World) :
    Calls Try.prog 10 #[gv P I B, .int .i64 at_] w (OutB w 0 0 0 false) := by
  unfold linesOf at ha
  obtain ⟨m1, m2, m3, m4, m5, m6⟩ := h
  obtain ⟨P, rfl⟩ := Int.eq_ofNat_of_zero_le (show 0 ≤ P by omega)
  obtain ⟨I, rfl⟩ := Int.eq_ofNat_of_zero_le (show 0 ≤ I by omega)
  obtain ⟨B, rfl⟩ := Int.eq_ofNat_of_zero_le (show 0 ≤ B by omega)
  by_cases hn : at_ < 0
  · exact refWhat_neg P I B (by omega) (by omega) (by omega) (by omega) at_ hn w
  · obtain ⟨at_, rfl⟩ := Int.eq_ofNat_of_zero_le (show 0 ≤ at_ by omega)
    refine (refWhat_nat P I B (by omega) (by omega) (by omega) (by omega) at_ (by have := hi.2; omega) w).mono ?_
    rintro e w' (⟨_, hh⟩ | ⟨j, hj, hj1, hj2, _⟩)
    · exact hh
    · exfalso
      have h3 := spO_mono P I (show j + 1 ≤ 2 + I + P + B by omega)
      rw [spO_succ, spO_all] at h3
      omega
end Go.Proofs.Ytpjhjpcajdbinaa
