/- parcloseref01.field, bit: what they return. -/
import Derived.Test.YtnpmepklgakaiaaDoorRows
import Derived.Test.YtnpmepklgakaiaaDoorMem
namespace Go.Proofs.YtnpmepklgakaiaaDoor
open Go.RowKit
set_option linter.unusedVariables false

def Fld (at_ width : Int) : Prop := 0 ≤ at_ ∧ at_ ≤ 63 ∧ 1 ≤ width ∧ width ≤ 64 ∧ at_ ≤ 64 - width

set_option maxHeartbeats 400000 in
theorem field_yes (a b : Int) (h : Fld a b) (w : World) :
    Calls Tryd.prog 57 #[.int .i64 a, .int .i64 b] w fun e w' => e = .returned (.bool true) ∧ w = w' := by
  obtain ⟨h1, h2, h3, h4, h5⟩ := h
  go_enter Tryd.func57, Tryd.ntmps57
  go_wp2
  go_ret
  exact ⟨rfl, rfl⟩
set_option maxHeartbeats 400000 in
theorem field_no (a b : Int) (h : ¬ Fld a b) (w : World) :
    Calls Tryd.prog 57 #[.int .i64 a, .int .i64 b] w fun e w' => e = .returned (.bool false) ∧ w = w' := by
  have hh : (a < 0) ∨ (0 ≤ a ∧ 63 < a) ∨ (0 ≤ a ∧ a ≤ 63 ∧ b < 1) ∨ (0 ≤ a ∧ a ≤ 63 ∧ 1 ≤ b ∧ 64 < b) ∨ (0 ≤ a ∧ a ≤ 63 ∧ 1 ≤ b ∧ b ≤ 64 ∧ 64 - b < a) := by
    unfold Fld at h; omega
  clear h
  rcases hh with h1 | ⟨h1, h2⟩ | ⟨h1, h2, h3⟩ | ⟨h1, h2, h3, h4⟩ | ⟨h1, h2, h3, h4, h5⟩
  all_goals
    go_enter Tryd.func57, Tryd.ntmps57
    go_wp2
    go_ret
    exact ⟨ret_bool (by first | rfl | (simp; omega)), rfl⟩

set_option maxHeartbeats 400000 in
theorem bit_any (x : Nat) (i : Int) (hx : x < 18446744073709551616) (h0 : 0 ≤ i) (hi : i < 64) (w : World) :
    Calls Tryd.prog 58 #[.int .u64 x, .int .i64 i] w fun e w' => e = .returned (.int .u64 (x / 2 ^ i.toNat % 2 : Nat)) ∧ w = w' := by
  go_enter Tryd.func58, Tryd.ntmps58
  go_wp2
  go_ret
  exact ⟨ret_int (by rw [div_pow]; rfl), rfl⟩
end Go.Proofs.YtnpmepklgakaiaaDoor
