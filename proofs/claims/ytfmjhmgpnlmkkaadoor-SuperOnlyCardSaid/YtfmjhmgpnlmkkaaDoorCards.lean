/-
  DERIVED. GIVEN WITH THE SEED: THE CARDS: each row of YtfmjhmgpnlmkkaaDoorRows.lean that lists a variable, with what it lists TIED to the program's text (the seventh form; the later family's looks); each row that meets fmt, with fmt's text TOLD by the authors' own Lean function (tested against real Go, not proved from fmt's source: count such statements apart). THE CARD IS WHAT COUNTS. Prove the row's statement (the work); the ties are given (YtfmjhmgpnlmkkaaDoorTie.lean); close each card by the builder's one call (the guide's Derived/Test/ToyasCard.lean, 'card_holds'). Laid BY PROGRAM, IN A SANDBOX (cutbox-door.mjs). By AI agents, Wed Nov 11 2026. No macro, syntax, notation, axiom, sorry.
-/
import Derived.Test.YtfmjhmgpnlmkkaaDoorRows
import GoSem.ClaimSeven
namespace Go.Proofs.YtfmjhmgpnlmkkaaDoor
namespace Rows

/-- THE TIED CARD OF 'parcloselaw05.SuperWrites'. -/
def superWritesCard : Claim7 := { stood := { row := superWritesRow, standIns := [], harness := (true, "2075857d3fcdd6f7e2aa5b7332eb8ce39571a893e4e6af0de832980208ecb170"), looks := true }, kinds := [], alts := [], laidByText := true, laidKinds := [.handle], laidTests := true, laidLooks := .later }
def SuperWritesCardSaid : Prop := Claim7.holds Tryd.pinned (.plain (OpenSpec.ofChange superWritesSpec)) superWritesCard

/-- THE TIED CARD OF 'parcloselaw05.SuperReads'. -/
def superReadsCard : Claim7 := { stood := { row := superReadsRow, standIns := [], harness := (true, "2075857d3fcdd6f7e2aa5b7332eb8ce39571a893e4e6af0de832980208ecb170"), looks := true }, kinds := [], alts := [], laidByText := true, laidKinds := [.handle], laidTests := true, laidLooks := .later }
def SuperReadsCardSaid : Prop := Claim7.holds Tryd.pinned (.plain (OpenSpec.ofChange superReadsSpec)) superReadsCard

/-- THE TIED CARD OF 'parcloselaw05.SuperBack'. -/
def superBackCard : Claim7 := { stood := { row := superBackRow, standIns := [], harness := (true, "2075857d3fcdd6f7e2aa5b7332eb8ce39571a893e4e6af0de832980208ecb170"), looks := true }, kinds := [], alts := [], laidByText := true, laidKinds := [.handle], laidTests := true, laidLooks := .later }
def SuperBackCardSaid : Prop := Claim7.holds Tryd.pinned (.plain (OpenSpec.ofChange superBackSpec)) superBackCard

/-- THE TIED CARD OF 'parcloselaw05.SuperOnly'. -/
def superOnlyCard : Claim7 := { stood := { row := superOnlyRow, standIns := [], harness := (true, "2075857d3fcdd6f7e2aa5b7332eb8ce39571a893e4e6af0de832980208ecb170"), looks := true }, kinds := [], alts := [], laidByText := true, laidKinds := [.handle], laidTests := true, laidLooks := .later }
def SuperOnlyCardSaid : Prop := Claim7.holds Tryd.pinned (.plain (OpenSpec.ofChange superOnlySpec)) superOnlyCard

/-- THE SECOND FORM's CARD OF 'parcloselaw05.SuperWrites'. -/
def superWritesUptoCard : Claim7 := { stood := { row := superWritesUptoRow, standIns := [], harness := (true, "2075857d3fcdd6f7e2aa5b7332eb8ce39571a893e4e6af0de832980208ecb170"), looks := true }, kinds := [], alts := [], laidByText := true, laidKinds := [.handle], laidTests := true, laidLooks := .later }
def SuperWritesUptoCardSaid : Prop := Claim7.holds Tryd.pinned (.plain (OpenSpec.upto superWritesSpec)) superWritesUptoCard

/-- THE SECOND FORM's CARD OF 'parcloselaw05.SuperReads'. -/
def superReadsUptoCard : Claim7 := { stood := { row := superReadsUptoRow, standIns := [], harness := (true, "2075857d3fcdd6f7e2aa5b7332eb8ce39571a893e4e6af0de832980208ecb170"), looks := true }, kinds := [], alts := [], laidByText := true, laidKinds := [.handle], laidTests := true, laidLooks := .later }
def SuperReadsUptoCardSaid : Prop := Claim7.holds Tryd.pinned (.plain (OpenSpec.upto superReadsSpec)) superReadsUptoCard

/-- THE SECOND FORM's CARD OF 'parcloselaw05.SuperBack'. -/
def superBackUptoCard : Claim7 := { stood := { row := superBackUptoRow, standIns := [], harness := (true, "2075857d3fcdd6f7e2aa5b7332eb8ce39571a893e4e6af0de832980208ecb170"), looks := true }, kinds := [], alts := [], laidByText := true, laidKinds := [.handle], laidTests := true, laidLooks := .later }
def SuperBackUptoCardSaid : Prop := Claim7.holds Tryd.pinned (.plain (OpenSpec.upto superBackSpec)) superBackUptoCard

/-- THE SECOND FORM's CARD OF 'parcloselaw05.SuperOnly'. -/
def superOnlyUptoCard : Claim7 := { stood := { row := superOnlyUptoRow, standIns := [], harness := (true, "2075857d3fcdd6f7e2aa5b7332eb8ce39571a893e4e6af0de832980208ecb170"), looks := true }, kinds := [], alts := [], laidByText := true, laidKinds := [.handle], laidTests := true, laidLooks := .later }
def SuperOnlyUptoCardSaid : Prop := Claim7.holds Tryd.pinned (.plain (OpenSpec.upto superOnlySpec)) superOnlyUptoCard
end Rows
end Go.Proofs.YtfmjhmgpnlmkkaaDoor
