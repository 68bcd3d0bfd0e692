/- A geometry's value; geom.Check. -/
import Derived.Test.YtnpmepklgakaiaaDoorTypes
import Derived.Test.YtnpmepklgakaiaaDoorGeomPlain
import Derived.Deep.RegionHeld3
import Derived.StillTailTactics
import Derived.Deep.QuietTactic
import Derived.BigQuiet
namespace Go.Proofs.YtnpmepklgakaiaaDoor
open Go.RowKit
set_option linter.unusedVariables false

/-- a geometry, as a value -/
def gv (P I B : Int) : Value := .agg #[.int .i64 P, .int .i64 I, .int .i64 B]
def I64 (x : Int) : Prop := -9223372036854775808 ≤ x ∧ x ≤ 9223372036854775807
theorem ret_i64 {a b : Int} (h : a = b) : Ending.returned (.int .i64 a) = .returned (.int .i64 b) := by rw [h]

set_option maxHeartbeats 1000000 in
theorem Check_yes (P I B : Int) (h : MayG P I B) (w : World) : Calls Tryd.prog 19 #[gv P I B] w fun e w' => e = .returned (.int .i64 0) ∧ Below w.heap.size w w' := by
  obtain ⟨h1, h2, h3, h4, h5, h6⟩ := h
  unfold gv
  go_enter Tryd.func19, Tryd.ntmps19
  have d1 : decide (P < 1) = false := by simp; omega
  have d2 : decide (P > 8) = false := by simp; omega
  have d3 : decide (I < 2) = false := by simp; omega
  have d4 : decide (I > 64) = false := by simp; omega
  have d5 : decide (B < 4) = false := by simp; omega
  have d6 : decide (B > 255) = false := by simp; omega
  go_wp2
  go_ret
  exact ⟨rfl, (Below.refl _ _).alloc (Nat.le_refl _) _⟩
set_option maxHeartbeats 2000000 in
theorem Check_no (P I B : Int) (h : ¬ MayG P I B) (w : World) : Calls Tryd.prog 19 #[gv P I B] w fun e w' => e = .returned (.int .i64 2) ∧ Below w.heap.size w w' := by
  unfold MayG at h
  unfold gv
  by_cases d1 : decide (P < 1) = true
  · go_enter Tryd.func19, Tryd.ntmps19
    go_wp2
    go_ret
    exact ⟨rfl, (Below.refl _ _).alloc (Nat.le_refl _) _⟩
  rw [Bool.not_eq_true] at d1
  by_cases d2 : decide (P > 8) = true
  · clear h
    go_enter Tryd.func19, Tryd.ntmps19
    go_wp2
    go_ret
    exact ⟨rfl, (Below.refl _ _).alloc (Nat.le_refl _) _⟩
  rw [Bool.not_eq_true] at d2
  by_cases d3 : decide (I < 2) = true
  · clear h
    go_enter Tryd.func19, Tryd.ntmps19
    go_wp2
    go_ret
    exact ⟨rfl, (Below.refl _ _).alloc (Nat.le_refl _) _⟩
  rw [Bool.not_eq_true] at d3
  by_cases d4 : decide (I > 64) = true
  · clear h
    go_enter Tryd.func19, Tryd.ntmps19
    go_wp2
    go_ret
    exact ⟨rfl, (Below.refl _ _).alloc (Nat.le_refl _) _⟩
  rw [Bool.not_eq_true] at d4
  by_cases d5 : decide (B < 4) = true
  · clear h
    go_enter Tryd.func19, Tryd.ntmps19
    go_wp2
    go_ret
    exact ⟨rfl, (Below.refl _ _).alloc (Nat.le_refl _) _⟩
  rw [Bool.not_eq_true] at d5
  have d6 : decide (B > 255) = true := by simp at *; omega
  clear h
  go_enter Tryd.func19, Tryd.ntmps19
  go_wp2
  go_ret
  exact ⟨rfl, (Below.refl _ _).alloc (Nat.le_refl _) _⟩
end Go.Proofs.YtnpmepklgakaiaaDoor
