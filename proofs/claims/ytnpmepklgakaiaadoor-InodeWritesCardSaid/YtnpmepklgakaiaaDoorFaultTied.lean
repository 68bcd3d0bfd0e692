/- What the row's listed variable gives a walk: the handle of the type 'error'; and a start that meets the condition. -/
import Derived.Test.YtnpmepklgakaiaaDoorFaultTold
import Derived.Test.YtnpmepklgakaiaaDoorFrame
import Derived.Test.YtnpmepklgakaiaaDoorCards
import Derived.Test.YtnpmepklgakaiaaDoorTie
import Derived.LaidMore
import Derived.LaidHandle
import Derived.Stop.Joined
import Derived.SevenTiedAt
namespace Go.Proofs.YtnpmepklgakaiaaDoor
open Go.ChangeShapes Go.WideShapes Go.ChangeAt Go.RowKit
set_option linter.unusedVariables false

def laidL : List (String × DataW Unit) := [("errors.errorType", Rows.laid_errors_errorType)]
noncomputable def start (os : Os) : World := World.doorLaid Tryd.prog 16 os
theorem start_met (os : Os) (args : Array Value) : laidMetH Tryd.prog laidL ((start os).forCall (fun _ _ => 0) ⟨#[], args, []⟩).memory :=
  laidMetH_of_parts (laidMet_nil _ _) (by kernel_rfl)
theorem hName : Tryd.prog.globalNamed "errors.errorType" = some 0 := by kernel_rfl
theorem hType : (Tryd.prog.cutTypes.find? (·.1 == "internal/reflectlite.rtype")).map (·.2) = some 104 := by kernel_rfl
theorem hRow : ((List.range Tryd.prog.types.size).filter fun t => Tryd.prog.rowNamed t [101, 114, 114, 111, 114]) = [40] := by kernel_rfl
theorem laid_of {W : World} (h : laidMetH Tryd.prog laidL W) : Laid W := by
  have h' : laidMet Tryd.prog [] W ∧ handlesMet Tryd.prog laidL W := h
  obtain ⟨name, u, ty, e1, e2, e3, e4, e5⟩ := h'.2 _ (List.mem_singleton.2 rfl)
  have en : name = [101, 114, 114, 111, 114] := (Option.some.inj e1).symm
  subst en
  obtain rfl := Option.some.inj (hType.symm.trans e2)
  have hm : ty ∈ (List.range Tryd.prog.types.size).filter fun t => Tryd.prog.rowNamed t [101, 114, 114, 111, 114] := List.mem_filter.2 ⟨List.mem_range.2 e3, e4⟩
  rw [hRow] at hm
  obtain rfl := List.mem_singleton.1 hm
  have hh : typeHandle Tryd.prog 40 = .pointer (some ⟨1, 40, none⟩) := by kernel_rfl
  rw [hh] at e5
  have := World.var?_cell hName e5 0
  unfold Laid
  simpa using this
end Go.Proofs.YtnpmepklgakaiaaDoor
