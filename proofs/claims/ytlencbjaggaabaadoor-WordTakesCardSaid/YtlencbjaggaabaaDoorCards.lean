/-
  DERIVED. GIVEN WITH THE SEED: THE CARDS: each row of YtlencbjaggaabaaDoorRows.lean that lists a variable, with what it lists TIED to the program's text (the seventh form; the later family's looks); each row that meets fmt, with fmt's text TOLD by the authors' own Lean function (tested against real Go, not proved from fmt's source: count such statements apart). THE CARD IS WHAT COUNTS. Prove the row's statement (the work); the ties are given (YtlencbjaggaabaaDoorTie.lean); close each card by the builder's one call (the guide's Derived/Test/ToyasCard.lean, 'card_holds'). Laid BY PROGRAM, IN A SANDBOX (cutbox-door.mjs). By AI agents, Wed Nov 11 2026. No macro, syntax, notation, axiom, sorry.
-/
import Derived.Test.YtlencbjaggaabaaDoorRows
import GoSem.ClaimSeven
namespace Go.Proofs.YtlencbjaggaabaaDoor
namespace Rows

/-- THE TIED CARD OF 'parcloselaw01.WordFields'. -/
def wordFieldsCard : Claim7 := { stood := { row := wordFieldsRow, standIns := [], harness := (true, "d76a8e19a64cfea1d4c76ef249a4e0218315563dd2a5a8c7db2f029425b247c0"), looks := false }, kinds := [], alts := [], laidByText := true, laidKinds := [.data], laidTests := true, laidLooks := .later }
def WordFieldsCardSaid : Prop := Claim7.holds Tryd.pinned (.plain (OpenSpec.ofChange wordFieldsSpec)) wordFieldsCard

/-- THE TIED CARD OF 'parcloselaw01.WordApart'. -/
def wordApartCard : Claim7 := { stood := { row := wordApartRow, standIns := [], harness := (true, "d76a8e19a64cfea1d4c76ef249a4e0218315563dd2a5a8c7db2f029425b247c0"), looks := false }, kinds := [], alts := [], laidByText := true, laidKinds := [.data], laidTests := true, laidLooks := .later }
def WordApartCardSaid : Prop := Claim7.holds Tryd.pinned (.plain (OpenSpec.ofChange wordApartSpec)) wordApartCard

/-- THE TIED CARD OF 'parcloselaw01.WordTexts'. -/
def wordTextsCard : Claim7 := { stood := { row := wordTextsRow, standIns := [], harness := (true, "d76a8e19a64cfea1d4c76ef249a4e0218315563dd2a5a8c7db2f029425b247c0"), looks := false }, kinds := [], alts := [], laidByText := true, laidKinds := [.data], laidTests := true, laidLooks := .later }
def WordTextsCardSaid : Prop := Claim7.holds Tryd.pinned (.plain (OpenSpec.ofChange wordTextsSpec)) wordTextsCard

/-- THE TIED CARD OF 'parcloselaw01.WordTakes'. -/
def wordTakesCard : Claim7 := { stood := { row := wordTakesRow, standIns := [], harness := (true, "d76a8e19a64cfea1d4c76ef249a4e0218315563dd2a5a8c7db2f029425b247c0"), looks := false }, kinds := [], alts := [], laidByText := true, laidKinds := [.data], laidTests := true, laidLooks := .later }
def WordTakesCardSaid : Prop := Claim7.holds Tryd.pinned (.plain (OpenSpec.ofChange wordTakesSpec)) wordTakesCard

/-- THE TIED CARD OF 'parcloselaw01.WordRows'. -/
def wordRowsCard : Claim7 := { stood := { row := wordRowsRow, standIns := [], harness := (true, "d76a8e19a64cfea1d4c76ef249a4e0218315563dd2a5a8c7db2f029425b247c0"), looks := false }, kinds := [], alts := [], laidByText := true, laidKinds := [.data], laidTests := true, laidLooks := .later }
def WordRowsCardSaid : Prop := Claim7.holds Tryd.pinned (.plain (OpenSpec.ofChange wordRowsSpec)) wordRowsCard

/-- THE SECOND FORM's CARD OF 'parcloselaw01.WordFields'. -/
def wordFieldsUptoCard : Claim7 := { stood := { row := wordFieldsUptoRow, standIns := [], harness := (true, "d76a8e19a64cfea1d4c76ef249a4e0218315563dd2a5a8c7db2f029425b247c0"), looks := false }, kinds := [], alts := [], laidByText := true, laidKinds := [.data], laidTests := true, laidLooks := .later }
def WordFieldsUptoCardSaid : Prop := Claim7.holds Tryd.pinned (.plain (OpenSpec.upto wordFieldsSpec)) wordFieldsUptoCard

/-- THE SECOND FORM's CARD OF 'parcloselaw01.WordApart'. -/
def wordApartUptoCard : Claim7 := { stood := { row := wordApartUptoRow, standIns := [], harness := (true, "d76a8e19a64cfea1d4c76ef249a4e0218315563dd2a5a8c7db2f029425b247c0"), looks := false }, kinds := [], alts := [], laidByText := true, laidKinds := [.data], laidTests := true, laidLooks := .later }
def WordApartUptoCardSaid : Prop := Claim7.holds Tryd.pinned (.plain (OpenSpec.upto wordApartSpec)) wordApartUptoCard

/-- THE SECOND FORM's CARD OF 'parcloselaw01.WordTexts'. -/
def wordTextsUptoCard : Claim7 := { stood := { row := wordTextsUptoRow, standIns := [], harness := (true, "d76a8e19a64cfea1d4c76ef249a4e0218315563dd2a5a8c7db2f029425b247c0"), looks := false }, kinds := [], alts := [], laidByText := true, laidKinds := [.data], laidTests := true, laidLooks := .later }
def WordTextsUptoCardSaid : Prop := Claim7.holds Tryd.pinned (.plain (OpenSpec.upto wordTextsSpec)) wordTextsUptoCard

/-- THE SECOND FORM's CARD OF 'parcloselaw01.WordTakes'. -/
def wordTakesUptoCard : Claim7 := { stood := { row := wordTakesUptoRow, standIns := [], harness := (true, "d76a8e19a64cfea1d4c76ef249a4e0218315563dd2a5a8c7db2f029425b247c0"), looks := false }, kinds := [], alts := [], laidByText := true, laidKinds := [.data], laidTests := true, laidLooks := .later }
def WordTakesUptoCardSaid : Prop := Claim7.holds Tryd.pinned (.plain (OpenSpec.upto wordTakesSpec)) wordTakesUptoCard

/-- THE SECOND FORM's CARD OF 'parcloselaw01.WordRows'. -/
def wordRowsUptoCard : Claim7 := { stood := { row := wordRowsUptoRow, standIns := [], harness := (true, "d76a8e19a64cfea1d4c76ef249a4e0218315563dd2a5a8c7db2f029425b247c0"), looks := false }, kinds := [], alts := [], laidByText := true, laidKinds := [.data], laidTests := true, laidLooks := .later }
def WordRowsUptoCardSaid : Prop := Claim7.holds Tryd.pinned (.plain (OpenSpec.upto wordRowsSpec)) wordRowsUptoCard
end Rows
end Go.Proofs.YtlencbjaggaabaaDoor
