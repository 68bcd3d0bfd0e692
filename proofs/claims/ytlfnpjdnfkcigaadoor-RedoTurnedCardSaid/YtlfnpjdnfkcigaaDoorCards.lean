/-
  DERIVED. GIVEN WITH THE SEED: THE CARDS: each row of YtlfnpjdnfkcigaaDoorRows.lean that lists a variable, with what it lists TIED to the program's text (the seventh form; the later family's looks); each row that meets fmt, with fmt's text TOLD by the authors' own Lean function (tested against real Go, not proved from fmt's source: count such statements apart). THE CARD IS WHAT COUNTS. Prove the row's statement (the work); the ties are given (YtlfnpjdnfkcigaaDoorTie.lean); close each card by the builder's one call (the guide's Derived/Test/ToyasCard.lean, 'card_holds'). Laid BY PROGRAM, IN A SANDBOX (cutbox-door.mjs). By AI agents, Wed Nov 11 2026. No macro, syntax, notation, axiom, sorry.
-/
import Derived.Test.YtlfnpjdnfkcigaaDoorRows
import GoSem.ClaimSeven
namespace Go.Proofs.YtlfnpjdnfkcigaaDoor
namespace Rows

/-- THE TIED CARD OF 'parcloselaw16.RedoLays'. -/
def redoLaysCard : Claim7 := { stood := { row := redoLaysRow, standIns := [], harness := (true, "be3b9bbf5d1f3f10735a4e1e7c7f43555ef3c3256af04b392c9d5cf9204a5639"), looks := true }, kinds := [], alts := [], laidByText := true, laidKinds := [.handle], laidTests := true, laidLooks := .later }
def RedoLaysCardSaid : Prop := Claim7.holds Tryd.pinned (.plain (OpenSpec.ofChange redoLaysSpec)) redoLaysCard

/-- THE TIED CARD OF 'parcloselaw16.RedoReads'. -/
def redoReadsCard : Claim7 := { stood := { row := redoReadsRow, standIns := [], harness := (true, "be3b9bbf5d1f3f10735a4e1e7c7f43555ef3c3256af04b392c9d5cf9204a5639"), looks := true }, kinds := [], alts := [], laidByText := true, laidKinds := [.handle], laidTests := true, laidLooks := .later }
def RedoReadsCardSaid : Prop := Claim7.holds Tryd.pinned (.plain (OpenSpec.ofChange redoReadsSpec)) redoReadsCard

/-- THE TIED CARD OF 'parcloselaw16.RedoApplies'. -/
def redoAppliesCard : Claim7 := { stood := { row := redoAppliesRow, standIns := [], harness := (true, "be3b9bbf5d1f3f10735a4e1e7c7f43555ef3c3256af04b392c9d5cf9204a5639"), looks := true }, kinds := [], alts := [], laidByText := true, laidKinds := [.handle], laidTests := true, laidLooks := .later }
def RedoAppliesCardSaid : Prop := Claim7.holds Tryd.pinned (.plain (OpenSpec.ofChange redoAppliesSpec)) redoAppliesCard

/-- THE TIED CARD OF 'parcloselaw16.RedoBack'. -/
def redoBackCard : Claim7 := { stood := { row := redoBackRow, standIns := [], harness := (true, "be3b9bbf5d1f3f10735a4e1e7c7f43555ef3c3256af04b392c9d5cf9204a5639"), looks := true }, kinds := [], alts := [], laidByText := true, laidKinds := [.handle], laidTests := true, laidLooks := .later }
def RedoBackCardSaid : Prop := Claim7.holds Tryd.pinned (.plain (OpenSpec.ofChange redoBackSpec)) redoBackCard

/-- THE TIED CARD OF 'parcloselaw16.RedoTurned'. -/
def redoTurnedCard : Claim7 := { stood := { row := redoTurnedRow, standIns := [], harness := (true, "be3b9bbf5d1f3f10735a4e1e7c7f43555ef3c3256af04b392c9d5cf9204a5639"), looks := true }, kinds := [], alts := [], laidByText := true, laidKinds := [.handle], laidTests := true, laidLooks := .later }
def RedoTurnedCardSaid : Prop := Claim7.holds Tryd.pinned (.plain (OpenSpec.ofChange redoTurnedSpec)) redoTurnedCard

/-- THE SECOND FORM's CARD OF 'parcloselaw16.RedoLays'. -/
def redoLaysUptoCard : Claim7 := { stood := { row := redoLaysUptoRow, standIns := [], harness := (true, "be3b9bbf5d1f3f10735a4e1e7c7f43555ef3c3256af04b392c9d5cf9204a5639"), looks := true }, kinds := [], alts := [], laidByText := true, laidKinds := [.handle], laidTests := true, laidLooks := .later }
def RedoLaysUptoCardSaid : Prop := Claim7.holds Tryd.pinned (.plain (OpenSpec.upto redoLaysSpec)) redoLaysUptoCard

/-- THE SECOND FORM's CARD OF 'parcloselaw16.RedoReads'. -/
def redoReadsUptoCard : Claim7 := { stood := { row := redoReadsUptoRow, standIns := [], harness := (true, "be3b9bbf5d1f3f10735a4e1e7c7f43555ef3c3256af04b392c9d5cf9204a5639"), looks := true }, kinds := [], alts := [], laidByText := true, laidKinds := [.handle], laidTests := true, laidLooks := .later }
def RedoReadsUptoCardSaid : Prop := Claim7.holds Tryd.pinned (.plain (OpenSpec.upto redoReadsSpec)) redoReadsUptoCard

/-- THE SECOND FORM's CARD OF 'parcloselaw16.RedoApplies'. -/
def redoAppliesUptoCard : Claim7 := { stood := { row := redoAppliesUptoRow, standIns := [], harness := (true, "be3b9bbf5d1f3f10735a4e1e7c7f43555ef3c3256af04b392c9d5cf9204a5639"), looks := true }, kinds := [], alts := [], laidByText := true, laidKinds := [.handle], laidTests := true, laidLooks := .later }
def RedoAppliesUptoCardSaid : Prop := Claim7.holds Tryd.pinned (.plain (OpenSpec.upto redoAppliesSpec)) redoAppliesUptoCard

/-- THE SECOND FORM's CARD OF 'parcloselaw16.RedoBack'. -/
def redoBackUptoCard : Claim7 := { stood := { row := redoBackUptoRow, standIns := [], harness := (true, "be3b9bbf5d1f3f10735a4e1e7c7f43555ef3c3256af04b392c9d5cf9204a5639"), looks := true }, kinds := [], alts := [], laidByText := true, laidKinds := [.handle], laidTests := true, laidLooks := .later }
def RedoBackUptoCardSaid : Prop := Claim7.holds Tryd.pinned (.plain (OpenSpec.upto redoBackSpec)) redoBackUptoCard

/-- THE SECOND FORM's CARD OF 'parcloselaw16.RedoTurned'. -/
def redoTurnedUptoCard : Claim7 := { stood := { row := redoTurnedUptoRow, standIns := [], harness := (true, "be3b9bbf5d1f3f10735a4e1e7c7f43555ef3c3256af04b392c9d5cf9204a5639"), looks := true }, kinds := [], alts := [], laidByText := true, laidKinds := [.handle], laidTests := true, laidLooks := .later }
def RedoTurnedUptoCardSaid : Prop := Claim7.holds Tryd.pinned (.plain (OpenSpec.upto redoTurnedSpec)) redoTurnedUptoCard
end Rows
end Go.Proofs.YtlfnpjdnfkcigaaDoor
