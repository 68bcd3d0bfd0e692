/- PoolApart: the steps, opened. -/
import Derived.Test.YteojodddfanepaaPoolApartMem
import Derived.Test.YteojodddfanepaaFramePairs
namespace Go.Proofs.Yteojodddfanepaa
open Go.ChangeShapes Go.WideShapes Go.ChangeAt Go.RowKit
set_option linter.unusedVariables false
section
variable {H : Type} {enc : TypeId × Value → H}
variable {W : World} {base : Nat} {sp : Nat → Bool} {held : Bool} {r : Reach} {b0 : Nat} {v : Value} {d : DataW H} {ps : List MemPlace}
theorem arg_psteps (hval : Value.okWide Try.prog W r b0 41 v) (hd : DataW.Trod enc Try.prog W base sp held 41 v d ps) :
    ∃ l : List (Bool × Int), (∀ s ∈ l, -9223372036854775808 ≤ s.2 ∧ s.2 ≤ 9223372036854775807) ∧ Rd W v l.length (pcells l) := by
  refine arg_pairs (fun s : Bool × Int => .bool s.1) (fun s => .int .i64 s.2) (fun s => -9223372036854775808 ≤ s.2 ∧ s.2 ≤ 9223372036854775807) Try.underlying41 Try.underlying44 (by kernel_rfl) rfl rfl (by kernel_rfl) (by kernel_rfl) ?_ hval hd
  intro n x y V0 V1 h0 h1
  obtain ⟨b, hb, _⟩ := DataW.trod_bool Try.underlying4 h0
  obtain ⟨z, hz, _, hw⟩ := DataW.trod_int Try.underlying3 h1
  injection hb with hb
  injection hz with hz
  have h5 : IntKind.min .i64 ≤ z ∧ z ≤ IntKind.max .i64 := by simpa [Lit.wf] using hw
  exact ⟨(b, z), hb, hz, h5.1, h5.2⟩
end
end Go.Proofs.Yteojodddfanepaa
