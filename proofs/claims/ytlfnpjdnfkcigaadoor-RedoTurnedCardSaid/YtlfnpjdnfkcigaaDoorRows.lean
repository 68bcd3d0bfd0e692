/-
  NARROWER THAN 'FOR EVERY INPUT', by the rows' own cells (each row's printed sentence says how): RedoLays: laid · RedoReads: laid · RedoApplies: laid · RedoBack: laid · RedoTurned: laid.
  DERIVED. THE GIVEN ROWS OF THIS SEAT. 5 by the template 'for every input the law returns true; each argument reads behind the call as it read before'; 0 by the template 'total and deterministic' (their statements: YtlfnpjdnfkcigaaDoorTotals.lean).
  GIVEN WITH THE SEED: the statements are not yours to turn. If you find one false, say at which input.
  Laid BY PROGRAM, IN A SANDBOX (cutbox-rows.mjs): the forced cells as the released guide's own fill.sh prints them over the translation d80f01b943cd8bde… (all of the seat's roots in one cut). By AI agents, Wed Nov 11 2026. No macro, syntax, notation, axiom, sorry.
-/
import Derived.Test.YtlfnpjdnfkcigaaDoorChecked
import GoSem.Claim
import GoSem.ClaimJoined
import GoSem.ClaimMapViews
import Derived.JoinedTies
import Derived.KernelRfl
namespace Go.Proofs.YtlfnpjdnfkcigaaDoor
/- THE CELL 'sum', in the pinned program and in every row, IS THE sha256 OF THE DUMP (.gsa) THAT YtlfnpjdnfkcigaaDoorProg.lean LOADS. Nothing in Lean hashes anything: it is a label: what it is worth is what the hold of that sum in a sandbox is worth. -/
noncomputable def Tryd.pinned : Pinned := { name := "ytlfnpjdnfkcigaadoor", sum := "d80f01b943cd8bde15c981f9d55332620671ebb51ccf2ce8a9d4101f3105caf7", checked := Tryd.checked }
namespace Rows
def none {H : Type} : Left H := { results := [], args := [] }

/- WHAT THE LISTED PACKAGE-LEVEL VARIABLES READ AS WHEN THE CALL BEGINS. Each datum BY PROGRAM (the guide's laid-datum.mjs) off the statement by which the dump's own 'gosem.cut.vars' lays the variable. In a bare row this is a premise. The card (YtlfnpjdnfkcigaaDoorCards.lean) ties it to the program's text. -/
def laid_errors_errorType {H : Type} : DataW H := .iface "internal/reflectlite.rtype" (.agg [.ptr (.lit (.string [101, 114, 114, 111, 114]))])

/-- 'parcloselaw16.RedoLays': WHATEVER THE INPUT: true; the input reads as it did. -/
def redoLaysSpec : ChangeSpec := { name := "redoLays", fn := fun _ => fun
  | [d] => { results := [.lit (.bool true)], args := [d] }
  | _ => none }
def redoLaysRow : OpenClaim := { program := "ytlfnpjdnfkcigaadoor", sum := "d80f01b943cd8bde15c981f9d55332620671ebb51ccf2ce8a9d4101f3105caf7", func := "parclose/parcloselaw16.RedoLays", spec := "redoLays", inPlace := ["internal/reflectlite.TypeOf", "internal/reflectlite.ValueOf", "(internal/reflectlite.Value).Type", "(internal/reflectlite.Value).IsNil", "(internal/reflectlite.Value).Elem", "(internal/reflectlite.Value).Set"], unfollowed := true, recurses := true, named := ["errors.errorType"], apart := false, laid := [("errors.errorType", laid_errors_errorType)] }
def RedoLaysSaid : Prop := redoLaysRow.holds Tryd.pinned (OpenSpec.ofChange redoLaysSpec)

/-- ITS FALSE NEIGHBOUR: 'it returns false'. Refute it at one input. -/
def redoLaysWrong : ChangeSpec := { name := "redoLays", fn := fun _ => fun
  | [d] => { results := [.lit (.bool false)], args := [d] }
  | _ => none }
def RedoLaysWrongFalsely : Prop := redoLaysRow.holds Tryd.pinned (OpenSpec.ofChange redoLaysWrong)

/-- 'parcloselaw16.RedoReads': WHATEVER THE INPUT: true; the input reads as it did. -/
def redoReadsSpec : ChangeSpec := { name := "redoReads", fn := fun _ => fun
  | [d1, d2, d3] => { results := [.lit (.bool true)], args := [d1, d2, d3] }
  | _ => none }
def redoReadsRow : OpenClaim := { program := "ytlfnpjdnfkcigaadoor", sum := "d80f01b943cd8bde15c981f9d55332620671ebb51ccf2ce8a9d4101f3105caf7", func := "parclose/parcloselaw16.RedoReads", spec := "redoReads", inPlace := ["internal/reflectlite.TypeOf", "internal/reflectlite.ValueOf", "(internal/reflectlite.Value).Type", "(internal/reflectlite.Value).IsNil", "(internal/reflectlite.Value).Elem", "(internal/reflectlite.Value).Set"], unfollowed := true, recurses := true, named := ["errors.errorType"], apart := false, laid := [("errors.errorType", laid_errors_errorType)] }
def RedoReadsSaid : Prop := redoReadsRow.holds Tryd.pinned (OpenSpec.ofChange redoReadsSpec)

/-- ITS FALSE NEIGHBOUR: 'it returns false'. Refute it at one input. -/
def redoReadsWrong : ChangeSpec := { name := "redoReads", fn := fun _ => fun
  | [d1, d2, d3] => { results := [.lit (.bool false)], args := [d1, d2, d3] }
  | _ => none }
def RedoReadsWrongFalsely : Prop := redoReadsRow.holds Tryd.pinned (OpenSpec.ofChange redoReadsWrong)

/-- 'parcloselaw16.RedoApplies': WHATEVER THE INPUT: true; the input reads as it did. -/
def redoAppliesSpec : ChangeSpec := { name := "redoApplies", fn := fun _ => fun
  | [d1, d2] => { results := [.lit (.bool true)], args := [d1, d2] }
  | _ => none }
def redoAppliesRow : OpenClaim := { program := "ytlfnpjdnfkcigaadoor", sum := "d80f01b943cd8bde15c981f9d55332620671ebb51ccf2ce8a9d4101f3105caf7", func := "parclose/parcloselaw16.RedoApplies", spec := "redoApplies", inPlace := ["internal/reflectlite.TypeOf", "internal/reflectlite.ValueOf", "(internal/reflectlite.Value).Type", "(internal/reflectlite.Value).IsNil", "(internal/reflectlite.Value).Elem", "(internal/reflectlite.Value).Set"], unfollowed := true, recurses := true, named := ["errors.errorType"], apart := false, laid := [("errors.errorType", laid_errors_errorType)] }
def RedoAppliesSaid : Prop := redoAppliesRow.holds Tryd.pinned (OpenSpec.ofChange redoAppliesSpec)

/-- ITS FALSE NEIGHBOUR: 'it returns false'. Refute it at one input. -/
def redoAppliesWrong : ChangeSpec := { name := "redoApplies", fn := fun _ => fun
  | [d1, d2] => { results := [.lit (.bool false)], args := [d1, d2] }
  | _ => none }
def RedoAppliesWrongFalsely : Prop := redoAppliesRow.holds Tryd.pinned (OpenSpec.ofChange redoAppliesWrong)

/-- 'parcloselaw16.RedoBack': WHATEVER THE INPUT: true; the input reads as it did. -/
def redoBackSpec : ChangeSpec := { name := "redoBack", fn := fun _ => fun
  | [d1, d2, d3] => { results := [.lit (.bool true)], args := [d1, d2, d3] }
  | _ => none }
def redoBackRow : OpenClaim := { program := "ytlfnpjdnfkcigaadoor", sum := "d80f01b943cd8bde15c981f9d55332620671ebb51ccf2ce8a9d4101f3105caf7", func := "parclose/parcloselaw16.RedoBack", spec := "redoBack", inPlace := ["internal/reflectlite.TypeOf", "internal/reflectlite.ValueOf", "(internal/reflectlite.Value).Type", "(internal/reflectlite.Value).IsNil", "(internal/reflectlite.Value).Elem", "(internal/reflectlite.Value).Set"], unfollowed := true, recurses := true, named := ["errors.errorType"], apart := false, laid := [("errors.errorType", laid_errors_errorType)] }
def RedoBackSaid : Prop := redoBackRow.holds Tryd.pinned (OpenSpec.ofChange redoBackSpec)

/-- ITS FALSE NEIGHBOUR: 'it returns false'. Refute it at one input. -/
def redoBackWrong : ChangeSpec := { name := "redoBack", fn := fun _ => fun
  | [d1, d2, d3] => { results := [.lit (.bool false)], args := [d1, d2, d3] }
  | _ => none }
def RedoBackWrongFalsely : Prop := redoBackRow.holds Tryd.pinned (OpenSpec.ofChange redoBackWrong)

/-- 'parcloselaw16.RedoTurned': WHATEVER THE INPUT: true; the input reads as it did. -/
def redoTurnedSpec : ChangeSpec := { name := "redoTurned", fn := fun _ => fun
  | [d1, d2, d3] => { results := [.lit (.bool true)], args := [d1, d2, d3] }
  | _ => none }
def redoTurnedRow : OpenClaim := { program := "ytlfnpjdnfkcigaadoor", sum := "d80f01b943cd8bde15c981f9d55332620671ebb51ccf2ce8a9d4101f3105caf7", func := "parclose/parcloselaw16.RedoTurned", spec := "redoTurned", inPlace := ["internal/reflectlite.TypeOf", "internal/reflectlite.ValueOf", "(internal/reflectlite.Value).Type", "(internal/reflectlite.Value).IsNil", "(internal/reflectlite.Value).Elem", "(internal/reflectlite.Value).Set"], unfollowed := true, recurses := true, named := ["errors.errorType"], apart := false, laid := [("errors.errorType", laid_errors_errorType)] }
def RedoTurnedSaid : Prop := redoTurnedRow.holds Tryd.pinned (OpenSpec.ofChange redoTurnedSpec)

/-- ITS FALSE NEIGHBOUR: 'it returns false'. Refute it at one input. -/
def redoTurnedWrong : ChangeSpec := { name := "redoTurned", fn := fun _ => fun
  | [d1, d2, d3] => { results := [.lit (.bool false)], args := [d1, d2, d3] }
  | _ => none }
def RedoTurnedWrongFalsely : Prop := redoTurnedRow.holds Tryd.pinned (OpenSpec.ofChange redoTurnedWrong)

/- THE SECOND FORM. 'bulk': how many values and letters a reading holds, each counted each time it is reached (what is shared counts as often as it is met; a slice's spare places count too). A statement '..UptoSaid' is the law's where the arguments, and the package variables that the reading takes, are together of bulk at most 1048576: NARROWER than '..Said'. Prove '..Said' where nothing that the law and all that it calls make is longer than what came in: it says more and counts as full. Else prove '..UptoSaid'. A law counts once. -/
mutual
def uptoBulk {H : Type} : DataW H → Nat
  | .lit (.string bytes) => bytes.length + 1
  | .lit _ => 1
  | .nil => 1
  | .ptr d => uptoBulk d + 1
  | .slice elems spare => uptoBulkAll elems + uptoBulkAll spare + 1
  | .agg parts => uptoBulkAll parts + 1
  | .iface _ d => uptoBulk d + 1
  | .map entries => uptoBulkEntries entries + 1
  | .held _ => 1
def uptoBulkAll {H : Type} : List (DataW H) → Nat
  | [] => 0
  | d :: r => uptoBulk d + uptoBulkAll r
def uptoBulkEntries {H : Type} : List (Lit × DataW H) → Nat
  | [] => 0
  | x :: r => uptoBulkEntry x + uptoBulkEntries r
def uptoBulkEntry {H : Type} : Lit × DataW H → Nat
  | (.string bytes, d) => bytes.length + uptoBulk d + 1
  | (_, d) => uptoBulk d + 1
 end
def uptoSmall : (H : Type) → List (DataW H) → Bool := fun _ ds => decide (uptoBulkAll ds ≤ 1048576)
def OpenSpec.upto (s : _root_.Go.ChangeSpec) : _root_.Go.OpenSpec := { _root_.Go.OpenSpec.ofChange s with cond := some uptoSmall }

/-- 'parcloselaw16.RedoLays', WHERE WHAT IT READS IS OF BULK AT MOST 1048576: true; the input reads as it did. -/
def redoLaysUptoRow : OpenClaim := { program := "ytlfnpjdnfkcigaadoor", sum := "d80f01b943cd8bde15c981f9d55332620671ebb51ccf2ce8a9d4101f3105caf7", func := "parclose/parcloselaw16.RedoLays", spec := "redoLays", inPlace := ["internal/reflectlite.TypeOf", "internal/reflectlite.ValueOf", "(internal/reflectlite.Value).Type", "(internal/reflectlite.Value).IsNil", "(internal/reflectlite.Value).Elem", "(internal/reflectlite.Value).Set"], unfollowed := true, recurses := true, named := ["errors.errorType"], apart := false, laid := [("errors.errorType", laid_errors_errorType)], narrowed := true }
def RedoLaysUptoSaid : Prop := redoLaysUptoRow.holds Tryd.pinned (OpenSpec.upto redoLaysSpec)

/-- 'parcloselaw16.RedoReads', WHERE WHAT IT READS IS OF BULK AT MOST 1048576: true; the input reads as it did. -/
def redoReadsUptoRow : OpenClaim := { program := "ytlfnpjdnfkcigaadoor", sum := "d80f01b943cd8bde15c981f9d55332620671ebb51ccf2ce8a9d4101f3105caf7", func := "parclose/parcloselaw16.RedoReads", spec := "redoReads", inPlace := ["internal/reflectlite.TypeOf", "internal/reflectlite.ValueOf", "(internal/reflectlite.Value).Type", "(internal/reflectlite.Value).IsNil", "(internal/reflectlite.Value).Elem", "(internal/reflectlite.Value).Set"], unfollowed := true, recurses := true, named := ["errors.errorType"], apart := false, laid := [("errors.errorType", laid_errors_errorType)], narrowed := true }
def RedoReadsUptoSaid : Prop := redoReadsUptoRow.holds Tryd.pinned (OpenSpec.upto redoReadsSpec)

/-- 'parcloselaw16.RedoApplies', WHERE WHAT IT READS IS OF BULK AT MOST 1048576: true; the input reads as it did. -/
def redoAppliesUptoRow : OpenClaim := { program := "ytlfnpjdnfkcigaadoor", sum := "d80f01b943cd8bde15c981f9d55332620671ebb51ccf2ce8a9d4101f3105caf7", func := "parclose/parcloselaw16.RedoApplies", spec := "redoApplies", inPlace := ["internal/reflectlite.TypeOf", "internal/reflectlite.ValueOf", "(internal/reflectlite.Value).Type", "(internal/reflectlite.Value).IsNil", "(internal/reflectlite.Value).Elem", "(internal/reflectlite.Value).Set"], unfollowed := true, recurses := true, named := ["errors.errorType"], apart := false, laid := [("errors.errorType", laid_errors_errorType)], narrowed := true }
def RedoAppliesUptoSaid : Prop := redoAppliesUptoRow.holds Tryd.pinned (OpenSpec.upto redoAppliesSpec)

/-- 'parcloselaw16.RedoBack', WHERE WHAT IT READS IS OF BULK AT MOST 1048576: true; the input reads as it did. -/
def redoBackUptoRow : OpenClaim := { program := "ytlfnpjdnfkcigaadoor", sum := "d80f01b943cd8bde15c981f9d55332620671ebb51ccf2ce8a9d4101f3105caf7", func := "parclose/parcloselaw16.RedoBack", spec := "redoBack", inPlace := ["internal/reflectlite.TypeOf", "internal/reflectlite.ValueOf", "(internal/reflectlite.Value).Type", "(internal/reflectlite.Value).IsNil", "(internal/reflectlite.Value).Elem", "(internal/reflectlite.Value).Set"], unfollowed := true, recurses := true, named := ["errors.errorType"], apart := false, laid := [("errors.errorType", laid_errors_errorType)], narrowed := true }
def RedoBackUptoSaid : Prop := redoBackUptoRow.holds Tryd.pinned (OpenSpec.upto redoBackSpec)

/-- 'parcloselaw16.RedoTurned', WHERE WHAT IT READS IS OF BULK AT MOST 1048576: true; the input reads as it did. -/
def redoTurnedUptoRow : OpenClaim := { program := "ytlfnpjdnfkcigaadoor", sum := "d80f01b943cd8bde15c981f9d55332620671ebb51ccf2ce8a9d4101f3105caf7", func := "parclose/parcloselaw16.RedoTurned", spec := "redoTurned", inPlace := ["internal/reflectlite.TypeOf", "internal/reflectlite.ValueOf", "(internal/reflectlite.Value).Type", "(internal/reflectlite.Value).IsNil", "(internal/reflectlite.Value).Elem", "(internal/reflectlite.Value).Set"], unfollowed := true, recurses := true, named := ["errors.errorType"], apart := false, laid := [("errors.errorType", laid_errors_errorType)], narrowed := true }
def RedoTurnedUptoSaid : Prop := redoTurnedUptoRow.holds Tryd.pinned (OpenSpec.upto redoTurnedSpec)

end Rows
end Go.Proofs.YtlfnpjdnfkcigaaDoor
