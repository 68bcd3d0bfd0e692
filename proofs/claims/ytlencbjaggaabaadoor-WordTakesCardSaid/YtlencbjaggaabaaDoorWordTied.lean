/- What the row's listed variable gives a walk: the table of math/bits lies in memory; and a start that meets the condition. -/
import Derived.Test.YtlencbjaggaabaaDoorWordTz
import Derived.Test.YtlencbjaggaabaaDoorFrame
import Derived.Test.YtlencbjaggaabaaDoorCards
import Derived.Test.YtlencbjaggaabaaDoorTie
import Derived.LaidMore
import Derived.Lib.LaidTab
import Derived.Stop.Joined
import Derived.SevenTiedAt
namespace Go.Proofs.YtlencbjaggaabaaDoor
open Go.ChangeShapes Go.WideShapes Go.ChangeAt Go.RowKit
set_option linter.unusedVariables false

def laidL : List (String × DataW Unit) := [("math/bits.deBruijn64tab", Rows.laid_math_bits_deBruijn64tab)]
noncomputable def start (os : Os) : World := World.doorLaid Tryd.prog 14 os
theorem start_met (os : Os) (args : Array Value) : laidMetH Tryd.prog laidL ((start os).forCall (fun _ _ => 0) ⟨#[], args, []⟩).memory :=
  laidMetH_of_parts3 (fuel := 8) (laidMet_of_run' 8 (by kernel_rfl) (by kernel_rfl)) (by kernel_rfl) (by kernel_rfl)
theorem tabType : (Tryd.prog.globals[0]?).map (·.type) = some 53 := by kernel_rfl
theorem tabName : Tryd.prog.globalNamed "math/bits.deBruijn64tab" = some 0 := by kernel_rfl
theorem tabData : (Rows.laid_math_bits_deBruijn64tab : DataW Unit) = Lib.tabData .u8 deB := by kernel_rfl
def Laid (w : World) : Prop := Tab w
theorem laid_of {W : World} (h : laidMetH Tryd.prog laidL W) : Laid W := by
  rw [MakeChecks.laidMetH_plain _ _ _ (by kernel_rfl)] at h
  unfold laidL at h
  rw [tabData] at h
  have ht := Lib.tabIs_of_head tabName tabType Tryd.underlying53 Tryd.underlying5 (by kernel_rfl) (by kernel_rfl) h
  intro i z hz
  have hi := (List.getElem?_eq_some_iff.1 hz).1
  rw [ht.cell tabName i hi]
  simp [List.getD, hz]
end Go.Proofs.YtlencbjaggaabaaDoor
