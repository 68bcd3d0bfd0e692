/- A geometry by value, opened. -/
import Derived.Test.YtnpmepklgakaiaaDoorGeomCheck
import Derived.Test.YtnpmepklgakaiaaDoorFrame
import Derived.Lib.SmallJoins
namespace Go.Proofs.YtnpmepklgakaiaaDoor
open Go.ChangeShapes Go.WideShapes Go.ChangeAt Go.RowKit Go.Joins
set_option linter.unusedVariables false
section
variable {H : Type} {enc : TypeId × Value → H}
variable {W : World} {base : Nat} {sp : Nat → Bool} {held : Bool} {r : Reach} {b0 : Nat} {v : Value} {d : DataW H} {ps : List MemPlace}
set_option maxRecDepth 100000 in
theorem arg_geom (hval : Value.okWide Tryd.prog W r b0 27 v) (hd : DataW.Trod enc Tryd.prog W base sp held 27 v d ps) :
    ∃ P I B : Int, v = gv P I B ∧ I64 P ∧ I64 I ∧ I64 B := by
  obtain ⟨v0, v1, v2, y0, y1, y2, n, rfl, _, _, h0, h1, h2⟩ := open_agg3 Tryd.underlying27 (by kernel_rfl) (by kernel_rfl) hval hd
  obtain ⟨z0, e0, _, w0⟩ := DataW.trod_int Tryd.underlying3 h0
  obtain ⟨z1, e1, _, w1⟩ := DataW.trod_int Tryd.underlying3 h1
  obtain ⟨z2, e2, _, w2⟩ := DataW.trod_int Tryd.underlying3 h2
  injection e0 with e0
  injection e1 with e1
  injection e2 with e2
  subst e0; subst e1; subst e2
  have k0 : IntKind.min .i64 ≤ z0 ∧ z0 ≤ IntKind.max .i64 := by simpa [Lit.wf] using w0
  have k1 : IntKind.min .i64 ≤ z1 ∧ z1 ≤ IntKind.max .i64 := by simpa [Lit.wf] using w1
  have k2 : IntKind.min .i64 ≤ z2 ∧ z2 ≤ IntKind.max .i64 := by simpa [Lit.wf] using w2
  exact ⟨z0, z1, z2, rfl, k0, k1, k2⟩
end
end Go.Proofs.YtnpmepklgakaiaaDoor
