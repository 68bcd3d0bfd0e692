/- super.Encode of whatever geometry. -/
import Derived.Test.YtfmjhmgpnlmkkaaDoorSuperAlive
namespace Go.Proofs.YtfmjhmgpnlmkkaaDoor
open Go.RowKit
set_option linter.unusedVariables false

theorem Encode_any (P I B : Int) (high : Bool) (w : World) :
    Calls Tryd.prog 7 #[.agg #[.int .i64 P, .int .i64 I, .int .i64 B], .bool high] w fun e w' => (¬ MayG P I B ∧ e = .returned (.tuple #[.slice none 0 0, .int .i64 2]) ∧ Below w.heap.size w w') ∨
      (∃ p i b : Nat, P = p ∧ I = i ∧ B = b ∧ MayG (p : Nat) (i : Nat) (b : Nat) ∧ ∃ A c, e = .returned (.tuple #[.slice A 8 c, .int .i64 0]) ∧ w'.ownsRow w.heap.size 42 1 (.slice A 8 c) 8 (u64s (sealed (superL p i b high))) ∧ Below w.heap.size w w') := by
  by_cases hmay : MayG P I B
  case neg =>
    refine (Encode_no P I B hmay high w).mono ?_
    rintro e w' ⟨h1, h2⟩
    exact .inl ⟨hmay, h1, h2⟩
  obtain ⟨p, rfl⟩ := Int.eq_ofNat_of_zero_le (show 0 ≤ P by have := hmay.1; omega)
  obtain ⟨i, rfl⟩ := Int.eq_ofNat_of_zero_le (show 0 ≤ I by have := hmay.2.2.1; omega)
  obtain ⟨b, rfl⟩ := Int.eq_ofNat_of_zero_le (show 0 ≤ B by have := hmay.2.2.2.2.1; omega)
  refine (Encode_yes p i b hmay high w).mono ?_
  rintro e w' h
  exact .inr ⟨p, i, b, rfl, rfl, rfl, hmay, h⟩

end Go.Proofs.YtfmjhmgpnlmkkaaDoor
