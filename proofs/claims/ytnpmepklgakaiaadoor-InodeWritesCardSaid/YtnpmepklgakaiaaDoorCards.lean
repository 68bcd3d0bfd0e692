/-
  DERIVED. GIVEN WITH THE SEED: THE CARDS: each row of YtnpmepklgakaiaaDoorRows.lean that lists a variable, with what it lists TIED to the program's text (the seventh form; the later family's looks); each row that meets fmt, with fmt's text TOLD by the authors' own Lean function (tested against real Go, not proved from fmt's source: count such statements apart). THE CARD IS WHAT COUNTS. Prove the row's statement (the work); the ties are given (YtnpmepklgakaiaaDoorTie.lean); close each card by the builder's one call (the guide's Derived/Test/ToyasCard.lean, 'card_holds'). Laid BY PROGRAM, IN A SANDBOX (cutbox-door.mjs). By AI agents, Wed Nov 11 2026. No macro, syntax, notation, axiom, sorry.
-/
import Derived.Test.YtnpmepklgakaiaaDoorRows
import GoSem.ClaimSeven
namespace Go.Proofs.YtnpmepklgakaiaaDoor
namespace Rows

/-- THE TIED CARD OF 'parcloselaw06.InodeWrites'. -/
def inodeWritesCard : Claim7 := { stood := { row := inodeWritesRow, standIns := [], harness := (true, "859cddcbce0726fdb7180b6f8b6d48e41b50e900172c9d3632a2b183068055e6"), looks := true }, kinds := [], alts := [], laidByText := true, laidKinds := [.handle], laidTests := true, laidLooks := .later }
def InodeWritesCardSaid : Prop := Claim7.holds Tryd.pinned (.plain (OpenSpec.ofChange inodeWritesSpec)) inodeWritesCard

/-- THE TIED CARD OF 'parcloselaw06.InodeReads'. -/
def inodeReadsCard : Claim7 := { stood := { row := inodeReadsRow, standIns := [], harness := (true, "859cddcbce0726fdb7180b6f8b6d48e41b50e900172c9d3632a2b183068055e6"), looks := true }, kinds := [], alts := [], laidByText := true, laidKinds := [.handle], laidTests := true, laidLooks := .later }
def InodeReadsCardSaid : Prop := Claim7.holds Tryd.pinned (.plain (OpenSpec.ofChange inodeReadsSpec)) inodeReadsCard

/-- THE TIED CARD OF 'parcloselaw06.InodeBack'. -/
def inodeBackCard : Claim7 := { stood := { row := inodeBackRow, standIns := [], harness := (true, "859cddcbce0726fdb7180b6f8b6d48e41b50e900172c9d3632a2b183068055e6"), looks := true }, kinds := [], alts := [], laidByText := true, laidKinds := [.handle], laidTests := true, laidLooks := .later }
def InodeBackCardSaid : Prop := Claim7.holds Tryd.pinned (.plain (OpenSpec.ofChange inodeBackSpec)) inodeBackCard

/-- THE TIED CARD OF 'parcloselaw06.InodeRoom'. -/
def inodeRoomCard : Claim7 := { stood := { row := inodeRoomRow, standIns := [], harness := (true, "859cddcbce0726fdb7180b6f8b6d48e41b50e900172c9d3632a2b183068055e6"), looks := true }, kinds := [], alts := [], laidByText := true, laidKinds := [.handle], laidTests := true, laidLooks := .later }
def InodeRoomCardSaid : Prop := Claim7.holds Tryd.pinned (.plain (OpenSpec.ofChange inodeRoomSpec)) inodeRoomCard

/-- THE SECOND FORM's CARD OF 'parcloselaw06.InodeWrites'. -/
def inodeWritesUptoCard : Claim7 := { stood := { row := inodeWritesUptoRow, standIns := [], harness := (true, "859cddcbce0726fdb7180b6f8b6d48e41b50e900172c9d3632a2b183068055e6"), looks := true }, kinds := [], alts := [], laidByText := true, laidKinds := [.handle], laidTests := true, laidLooks := .later }
def InodeWritesUptoCardSaid : Prop := Claim7.holds Tryd.pinned (.plain (OpenSpec.upto inodeWritesSpec)) inodeWritesUptoCard

/-- THE SECOND FORM's CARD OF 'parcloselaw06.InodeReads'. -/
def inodeReadsUptoCard : Claim7 := { stood := { row := inodeReadsUptoRow, standIns := [], harness := (true, "859cddcbce0726fdb7180b6f8b6d48e41b50e900172c9d3632a2b183068055e6"), looks := true }, kinds := [], alts := [], laidByText := true, laidKinds := [.handle], laidTests := true, laidLooks := .later }
def InodeReadsUptoCardSaid : Prop := Claim7.holds Tryd.pinned (.plain (OpenSpec.upto inodeReadsSpec)) inodeReadsUptoCard

/-- THE SECOND FORM's CARD OF 'parcloselaw06.InodeBack'. -/
def inodeBackUptoCard : Claim7 := { stood := { row := inodeBackUptoRow, standIns := [], harness := (true, "859cddcbce0726fdb7180b6f8b6d48e41b50e900172c9d3632a2b183068055e6"), looks := true }, kinds := [], alts := [], laidByText := true, laidKinds := [.handle], laidTests := true, laidLooks := .later }
def InodeBackUptoCardSaid : Prop := Claim7.holds Tryd.pinned (.plain (OpenSpec.upto inodeBackSpec)) inodeBackUptoCard

/-- THE SECOND FORM's CARD OF 'parcloselaw06.InodeRoom'. -/
def inodeRoomUptoCard : Claim7 := { stood := { row := inodeRoomUptoRow, standIns := [], harness := (true, "859cddcbce0726fdb7180b6f8b6d48e41b50e900172c9d3632a2b183068055e6"), looks := true }, kinds := [], alts := [], laidByText := true, laidKinds := [.handle], laidTests := true, laidLooks := .later }
def InodeRoomUptoCardSaid : Prop := Claim7.holds Tryd.pinned (.plain (OpenSpec.upto inodeRoomSpec)) inodeRoomUptoCard
end Rows
end Go.Proofs.YtnpmepklgakaiaaDoor
