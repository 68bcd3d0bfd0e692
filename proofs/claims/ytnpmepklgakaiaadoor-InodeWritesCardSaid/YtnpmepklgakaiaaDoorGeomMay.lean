/- parcloseref04.May. -/
import Derived.Test.YtnpmepklgakaiaaDoorGeomCheck
namespace Go.Proofs.YtnpmepklgakaiaaDoor
open Go.RowKit
set_option linter.unusedVariables false

set_option maxHeartbeats 1000000 in
theorem refMay_yes (P I B : Int) (h : MayG P I B) (w : World) : Calls Tryd.prog 31 #[gv P I B] w fun e w' => e = .returned (.bool true) ∧ Below w.heap.size w w' := by
  obtain ⟨h1, h2, h3, h4, h5, h6⟩ := h
  unfold gv
  have d1 : decide (P ≥ 1) = true := by simp; omega
  have d2 : decide (P ≤ 8) = true := by simp; omega
  have d3 : decide (I ≥ 2) = true := by simp; omega
  have d4 : decide (I ≤ 64) = true := by simp; omega
  have d5 : decide (B ≥ 4) = true := by simp; omega
  have d6 : decide (B ≤ 255) = true := by simp; omega
  go_enter Tryd.func31, Tryd.ntmps31
  go_wp2
  go_ret
  exact ⟨rfl, (Below.refl _ _).alloc (Nat.le_refl _) _⟩
set_option maxHeartbeats 2000000 in
theorem refMay_no (P I B : Int) (h : ¬ MayG P I B) (w : World) : Calls Tryd.prog 31 #[gv P I B] w fun e w' => e = .returned (.bool false) ∧ Below w.heap.size w w' := by
  unfold MayG at h
  unfold gv
  by_cases c1 : P < 1
  · have d1 : decide (P ≥ 1) = false := by simp; omega
    clear h c1
    go_enter Tryd.func31, Tryd.ntmps31
    go_wp2
    go_ret
    exact ⟨rfl, (Below.refl _ _).alloc (Nat.le_refl _) _⟩
  have d1 : decide (P ≥ 1) = true := by simp; omega
  by_cases c2 : 8 < P
  · have d2 : decide (P ≤ 8) = false := by simp; omega
    clear h c1 c2
    go_enter Tryd.func31, Tryd.ntmps31
    go_wp2
    go_ret
    exact ⟨rfl, (Below.refl _ _).alloc (Nat.le_refl _) _⟩
  have d2 : decide (P ≤ 8) = true := by simp; omega
  by_cases c3 : I < 2
  · have d3 : decide (I ≥ 2) = false := by simp; omega
    clear h c1 c2 c3
    go_enter Tryd.func31, Tryd.ntmps31
    go_wp2
    go_ret
    exact ⟨rfl, (Below.refl _ _).alloc (Nat.le_refl _) _⟩
  have d3 : decide (I ≥ 2) = true := by simp; omega
  by_cases c4 : 64 < I
  · have d4 : decide (I ≤ 64) = false := by simp; omega
    clear h c1 c2 c3 c4
    go_enter Tryd.func31, Tryd.ntmps31
    go_wp2
    go_ret
    exact ⟨rfl, (Below.refl _ _).alloc (Nat.le_refl _) _⟩
  have d4 : decide (I ≤ 64) = true := by simp; omega
  by_cases c5 : B < 4
  · have d5 : decide (B ≥ 4) = false := by simp; omega
    clear h c1 c2 c3 c4 c5
    go_enter Tryd.func31, Tryd.ntmps31
    go_wp2
    go_ret
    exact ⟨rfl, (Below.refl _ _).alloc (Nat.le_refl _) _⟩
  have d5 : decide (B ≥ 4) = true := by simp; omega
  have d6 : decide (B ≤ 255) = false := by simp; omega
  clear h c1 c2 c3 c4 c5
  go_enter Tryd.func31, Tryd.ntmps31
  go_wp2
  go_ret
  exact ⟨rfl, (Below.refl _ _).alloc (Nat.le_refl _) _⟩

end Go.Proofs.YtnpmepklgakaiaaDoor
