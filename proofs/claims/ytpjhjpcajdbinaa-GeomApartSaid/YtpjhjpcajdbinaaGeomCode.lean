/- geom.sum, inodes, Check, place. -/
import Derived.Test.YtpjhjpcajdbinaaTypes
import Derived.Test.YtpjhjpcajdbinaaGeomPlain
import Derived.Deep.RegionHeld3
import Derived.StillTailTactics
import Derived.Deep.QuietTactic
import Derived.BigQuiet
namespace Go.Proofs.Ytpjhjpcajdbinaa
open Go.RowKit
set_option linter.unusedVariables false

/-- a geometry, as a value -/
def gv (P I B : Int) : Value := .agg #[.int .i64 P, .int .i64 I, .int .i64 B]
def I64 (x : Int) : Prop := -9223372036854775808 ≤ x ∧ x ≤ 9223372036854775807
theorem ret_i64 {a b : Int} (h : a = b) : Ending.returned (.int .i64 a) = .returned (.int .i64 b) := by rw [h]

set_option maxHeartbeats 1000000 in
theorem sum_any (v : Value) (x y : Int) (hx : I64 x) (hy : I64 y) (w : World) (h : Rd w v 2 [.int .i64 x, .int .i64 y]) :
    Calls Try.prog 25 #[v] w fun e w' => e = .returned (.int .i64 (wrap64 (x + y))) ∧ w = w' := by
  obtain ⟨A, c, rfl, h1, h2, h3⟩ := h
  obtain ⟨b, o, rfl, hc0⟩ := h3 0 _ rfl
  obtain ⟨b', o', hA, hc1⟩ := h3 1 _ rfl
  injection hA with hA
  injection hA with e1 e2
  subst e1; subst e2
  obtain ⟨hx1, hx2⟩ := hx
  obtain ⟨hy1, hy2⟩ := hy
  rw [Nat.add_zero] at hc0
  clear h3
  go_enter Try.func25, Try.ntmps25
  go_wp2
  go_loop [3, 5, 8] (fun n z i => (i = .int .i64 0 ∧ n = .int .i64 0) ∨ (i = .int .i64 1 ∧ n = .int .i64 x) ∨ (i = .int .i64 2 ∧ n = .int .i64 (wrap64 (x + y)))) (fun _ _ i => 2 - (intOf i).toNat)
  case atStart => exact .inl ⟨rfl, rfl⟩
  case round =>
    rcases hrel with ⟨rfl, rfl⟩ | ⟨rfl, rfl⟩ | ⟨rfl, rfl⟩
    · go_wp2
      go_round
      case rel => exact .inr (.inl ⟨rfl, by simp⟩)
      case measure => simp [intOf]
    · go_wp2
      go_round
      case rel => exact .inr (.inr ⟨rfl, rfl⟩)
      case measure => simp [intOf]
    · go_wp2
      go_ret
      exact ⟨rfl, rfl⟩
theorem sum_in (v : Value) (x y : Int) (hx : I64 x) (hy : I64 y) (hz : I64 (x + y)) (w : World) (h : Rd w v 2 [.int .i64 x, .int .i64 y]) :
    Calls Try.prog 25 #[v] w fun e w' => e = .returned (.int .i64 (x + y)) ∧ w = w' := by
  have := sum_any v x y hx hy w h
  rwa [IntWalk.wrap64_in (x + y) ⟨hz.1, hz.2⟩] at this
theorem pair_new (W : World) (x y : Int) : Rd (W.alloc (.cells #[.int .i64 x, .int .i64 y] 3)) (.slice (some ⟨W.heap.size, 0, none⟩) 2 2) 2 [.int .i64 x, .int .i64 y] := Rd.new W [.int .i64 x, .int .i64 y] _ (by simp) 2 (by omega)

set_option maxHeartbeats 1000000 in
theorem inodes_any (w : World) : Calls Try.prog 23 #[] w fun e w' => e = .returned (.int .i64 2) ∧ Below w.heap.size w w' := by
  go_enter Try.func23, Try.ntmps23
  go_wp2_with fail
  have h2 : ∀ W v, Rd W v 2 [.int .i64 1, .int .i64 1] → Calls Try.prog 25 #[v] W fun e w' => e = .returned (.int .i64 2) ∧ W = w' := fun W v h => sum_in v 1 1 (by unfold I64; omega) (by unfold I64; omega) (by unfold I64; omega) W h
  refine (h2 _ _ (pair_new _ 1 1)).mono ?_
  rintro e w' ⟨rfl, rfl⟩
  go_wp2
  go_ret
  exact ⟨rfl, (Below.refl _ _).alloc (Nat.le_refl _) _⟩

set_option maxHeartbeats 1000000 in
theorem Check_yes (P I B : Int) (h : MayG P I B) (w : World) : Calls Try.prog 16 #[gv P I B] w fun e w' => e = .returned (.int .i64 0) ∧ Below w.heap.size w w' := by
  obtain ⟨h1, h2, h3, h4, h5, h6⟩ := h
  unfold gv
  go_enter Try.func16, Try.ntmps16
  have d1 : decide (P < 1) = false := by simp; omega
  have d2 : decide (P > 8) = false := by simp; omega
  have d3 : decide (I < 2) = false := by simp; omega
  have d4 : decide (I > 64) = false := by simp; omega
  have d5 : decide (B < 4) = false := by simp; omega
  have d6 : decide (B > 255) = false := by simp; omega
  go_wp2
  go_ret
  exact ⟨rfl, (Below.refl _ _).alloc (Nat.le_refl _) _⟩
set_option maxHeartbeats 2000000 in
theorem Check_no (P I B : Int) (h : ¬ MayG P I B) (w : World) : Calls Try.prog 16 #[gv P I B] w fun e w' => e = .returned (.int .i64 2) ∧ Below w.heap.size w w' := by
  unfold MayG at h
  unfold gv
  by_cases d1 : decide (P < 1) = true
  · go_enter Try.func16, Try.ntmps16
    go_wp2
    go_ret
    exact ⟨rfl, (Below.refl _ _).alloc (Nat.le_refl _) _⟩
  rw [Bool.not_eq_true] at d1
  by_cases d2 : decide (P > 8) = true
  · clear h
    go_enter Try.func16, Try.ntmps16
    go_wp2
    go_ret
    exact ⟨rfl, (Below.refl _ _).alloc (Nat.le_refl _) _⟩
  rw [Bool.not_eq_true] at d2
  by_cases d3 : decide (I < 2) = true
  · clear h
    go_enter Try.func16, Try.ntmps16
    go_wp2
    go_ret
    exact ⟨rfl, (Below.refl _ _).alloc (Nat.le_refl _) _⟩
  rw [Bool.not_eq_true] at d3
  by_cases d4 : decide (I > 64) = true
  · clear h
    go_enter Try.func16, Try.ntmps16
    go_wp2
    go_ret
    exact ⟨rfl, (Below.refl _ _).alloc (Nat.le_refl _) _⟩
  rw [Bool.not_eq_true] at d4
  by_cases d5 : decide (B < 4) = true
  · clear h
    go_enter Try.func16, Try.ntmps16
    go_wp2
    go_ret
    exact ⟨rfl, (Below.refl _ _).alloc (Nat.le_refl _) _⟩
  rw [Bool.not_eq_true] at d5
  have d6 : decide (B > 255) = true := by simp at *; omega
  clear h
  go_enter Try.func16, Try.ntmps16
  go_wp2
  go_ret
  exact ⟨rfl, (Below.refl _ _).alloc (Nat.le_refl _) _⟩
end Go.Proofs.Ytpjhjpcajdbinaa
