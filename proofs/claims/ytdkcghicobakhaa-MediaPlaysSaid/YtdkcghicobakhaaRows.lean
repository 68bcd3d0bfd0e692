/-
  No cell of these rows narrows 'for every input' (looked for: loops, veiled, ifaces, maps, wideKeys, modest, calm, conditions, laid).
  DERIVED. THE GIVEN ROWS OF THIS SEAT. 5 by the template 'for every input the law returns true; each argument reads behind the call as it read before'; 0 by the template 'total and deterministic' (their statements: YtdkcghicobakhaaTotals.lean).
  GIVEN WITH THE SEED: the statements are not yours to turn. If you find one false, say at which input.
  Laid BY PROGRAM, IN A SANDBOX (cutbox-rows.mjs): the forced cells as the released guide's own fill.sh prints them over the translation b41a226e2a5204ac… (all of the seat's roots in one cut). By AI agents, Wed Nov 11 2026. No macro, syntax, notation, axiom, sorry.
-/
import Derived.Test.YtdkcghicobakhaaChecked
import GoSem.Claim
import GoSem.ClaimJoined
import GoSem.ClaimMapViews
import Derived.JoinedTies
import Derived.KernelRfl
namespace Go.Proofs.Ytdkcghicobakhaa
/- THE CELL 'sum', in the pinned program and in every row, IS THE sha256 OF THE DUMP (.gsa) THAT YtdkcghicobakhaaProg.lean LOADS. Nothing in Lean hashes anything: it is a label: what it is worth is what the hold of that sum in a sandbox is worth. -/
noncomputable def Try.pinned : Pinned := { name := "ytdkcghicobakhaa", sum := "b41a226e2a5204acb5286286f29ad63680e52859a7054b524bfcacb1b3dac627", checked := Try.checked }
namespace Rows
def none {H : Type} : Left H := { results := [], args := [] }

/-- 'parcloselaw03.MediaPlays': WHATEVER THE INPUT: true; the input reads as it did. -/
def mediaPlaysSpec : ChangeSpec := { name := "mediaPlays", fn := fun _ => fun
  | [d1, d2] => { results := [.lit (.bool true)], args := [d1, d2] }
  | _ => none }
def mediaPlaysRow : OpenClaim := { program := "ytdkcghicobakhaa", sum := "b41a226e2a5204acb5286286f29ad63680e52859a7054b524bfcacb1b3dac627", func := "parclose/parcloselaw03.MediaPlays", spec := "mediaPlays", unfollowed := true, recurses := true, apart := false }
def MediaPlaysSaid : Prop := mediaPlaysRow.holds Try.pinned (OpenSpec.ofChange mediaPlaysSpec)

/-- ITS FALSE NEIGHBOUR: 'it returns false'. Refute it at one input. -/
def mediaPlaysWrong : ChangeSpec := { name := "mediaPlays", fn := fun _ => fun
  | [d1, d2] => { results := [.lit (.bool false)], args := [d1, d2] }
  | _ => none }
def MediaPlaysWrongFalsely : Prop := mediaPlaysRow.holds Try.pinned (OpenSpec.ofChange mediaPlaysWrong)

/-- 'parcloselaw03.MediaOf': WHATEVER THE INPUT: true; the input reads as it did. -/
def mediaOfSpec : ChangeSpec := { name := "mediaOf", fn := fun _ => fun
  | [d1, d2, d3] => { results := [.lit (.bool true)], args := [d1, d2, d3] }
  | _ => none }
def mediaOfRow : OpenClaim := { program := "ytdkcghicobakhaa", sum := "b41a226e2a5204acb5286286f29ad63680e52859a7054b524bfcacb1b3dac627", func := "parclose/parcloselaw03.MediaOf", spec := "mediaOf", unfollowed := true, recurses := true, apart := false }
def MediaOfSaid : Prop := mediaOfRow.holds Try.pinned (OpenSpec.ofChange mediaOfSpec)

/-- ITS FALSE NEIGHBOUR: 'it returns false'. Refute it at one input. -/
def mediaOfWrong : ChangeSpec := { name := "mediaOf", fn := fun _ => fun
  | [d1, d2, d3] => { results := [.lit (.bool false)], args := [d1, d2, d3] }
  | _ => none }
def MediaOfWrongFalsely : Prop := mediaOfRow.holds Try.pinned (OpenSpec.ofChange mediaOfWrong)

/-- 'parcloselaw03.MediaCrash': WHATEVER THE INPUT: true; the input reads as it did. -/
def mediaCrashSpec : ChangeSpec := { name := "mediaCrash", fn := fun _ => fun
  | [d1, d2, d3] => { results := [.lit (.bool true)], args := [d1, d2, d3] }
  | _ => none }
def mediaCrashRow : OpenClaim := { program := "ytdkcghicobakhaa", sum := "b41a226e2a5204acb5286286f29ad63680e52859a7054b524bfcacb1b3dac627", func := "parclose/parcloselaw03.MediaCrash", spec := "mediaCrash", unfollowed := true, recurses := true, apart := false }
def MediaCrashSaid : Prop := mediaCrashRow.holds Try.pinned (OpenSpec.ofChange mediaCrashSpec)

/-- ITS FALSE NEIGHBOUR: 'it returns false'. Refute it at one input. -/
def mediaCrashWrong : ChangeSpec := { name := "mediaCrash", fn := fun _ => fun
  | [d1, d2, d3] => { results := [.lit (.bool false)], args := [d1, d2, d3] }
  | _ => none }
def MediaCrashWrongFalsely : Prop := mediaCrashRow.holds Try.pinned (OpenSpec.ofChange mediaCrashWrong)

/-- 'parcloselaw03.MediaFenced': WHATEVER THE INPUT: true; the input reads as it did. -/
def mediaFencedSpec : ChangeSpec := { name := "mediaFenced", fn := fun _ => fun
  | [d1, d2, d3, d4, d5] => { results := [.lit (.bool true)], args := [d1, d2, d3, d4, d5] }
  | _ => none }
def mediaFencedRow : OpenClaim := { program := "ytdkcghicobakhaa", sum := "b41a226e2a5204acb5286286f29ad63680e52859a7054b524bfcacb1b3dac627", func := "parclose/parcloselaw03.MediaFenced", spec := "mediaFenced", unfollowed := true, recurses := true, apart := false }
def MediaFencedSaid : Prop := mediaFencedRow.holds Try.pinned (OpenSpec.ofChange mediaFencedSpec)

/-- ITS FALSE NEIGHBOUR: 'it returns false'. Refute it at one input. -/
def mediaFencedWrong : ChangeSpec := { name := "mediaFenced", fn := fun _ => fun
  | [d1, d2, d3, d4, d5] => { results := [.lit (.bool false)], args := [d1, d2, d3, d4, d5] }
  | _ => none }
def MediaFencedWrongFalsely : Prop := mediaFencedRow.holds Try.pinned (OpenSpec.ofChange mediaFencedWrong)

/-- 'parcloselaw03.MediaNil': WHATEVER THE INPUT: true; the input reads as it did. -/
def mediaNilSpec : ChangeSpec := { name := "mediaNil", fn := fun _ => fun
  | [d1, d2, d3] => { results := [.lit (.bool true)], args := [d1, d2, d3] }
  | _ => none }
def mediaNilRow : OpenClaim := { program := "ytdkcghicobakhaa", sum := "b41a226e2a5204acb5286286f29ad63680e52859a7054b524bfcacb1b3dac627", func := "parclose/parcloselaw03.MediaNil", spec := "mediaNil", unfollowed := true, recurses := true, apart := false }
def MediaNilSaid : Prop := mediaNilRow.holds Try.pinned (OpenSpec.ofChange mediaNilSpec)

/-- ITS FALSE NEIGHBOUR: 'it returns false'. Refute it at one input. -/
def mediaNilWrong : ChangeSpec := { name := "mediaNil", fn := fun _ => fun
  | [d1, d2, d3] => { results := [.lit (.bool false)], args := [d1, d2, d3] }
  | _ => none }
def MediaNilWrongFalsely : Prop := mediaNilRow.holds Try.pinned (OpenSpec.ofChange mediaNilWrong)

/- THE SECOND FORM. 'bulk': how many values and letters a reading holds, each counted each time it is reached (what is shared counts as often as it is met; a slice's spare places count too). A statement '..UptoSaid' is the law's where the arguments, and the package variables that the reading takes, are together of bulk at most 1048576: NARROWER than '..Said'. Prove '..Said' where nothing that the law and all that it calls make is longer than what came in: it says more and counts as full. Else prove '..UptoSaid'. A law counts once. -/
mutual
def uptoBulk {H : Type} : DataW H → Nat
  | .lit (.string bytes) => bytes.length + 1
  | .lit _ => 1
  | .nil => 1
  | .ptr d => uptoBulk d + 1
  | .slice elems spare => uptoBulkAll elems + uptoBulkAll spare + 1
  | .agg parts => uptoBulkAll parts + 1
  | .iface _ d => uptoBulk d + 1
  | .map entries => uptoBulkEntries entries + 1
  | .held _ => 1
def uptoBulkAll {H : Type} : List (DataW H) → Nat
  | [] => 0
  | d :: r => uptoBulk d + uptoBulkAll r
def uptoBulkEntries {H : Type} : List (Lit × DataW H) → Nat
  | [] => 0
  | x :: r => uptoBulkEntry x + uptoBulkEntries r
def uptoBulkEntry {H : Type} : Lit × DataW H → Nat
  | (.string bytes, d) => bytes.length + uptoBulk d + 1
  | (_, d) => uptoBulk d + 1
 end
def uptoSmall : (H : Type) → List (DataW H) → Bool := fun _ ds => decide (uptoBulkAll ds ≤ 1048576)
def OpenSpec.upto (s : _root_.Go.ChangeSpec) : _root_.Go.OpenSpec := { _root_.Go.OpenSpec.ofChange s with cond := some uptoSmall }

/-- 'parcloselaw03.MediaPlays', WHERE WHAT IT READS IS OF BULK AT MOST 1048576: true; the input reads as it did. -/
def mediaPlaysUptoRow : OpenClaim := { program := "ytdkcghicobakhaa", sum := "b41a226e2a5204acb5286286f29ad63680e52859a7054b524bfcacb1b3dac627", func := "parclose/parcloselaw03.MediaPlays", spec := "mediaPlays", unfollowed := true, recurses := true, apart := false, narrowed := true }
def MediaPlaysUptoSaid : Prop := mediaPlaysUptoRow.holds Try.pinned (OpenSpec.upto mediaPlaysSpec)

/-- 'parcloselaw03.MediaOf', WHERE WHAT IT READS IS OF BULK AT MOST 1048576: true; the input reads as it did. -/
def mediaOfUptoRow : OpenClaim := { program := "ytdkcghicobakhaa", sum := "b41a226e2a5204acb5286286f29ad63680e52859a7054b524bfcacb1b3dac627", func := "parclose/parcloselaw03.MediaOf", spec := "mediaOf", unfollowed := true, recurses := true, apart := false, narrowed := true }
def MediaOfUptoSaid : Prop := mediaOfUptoRow.holds Try.pinned (OpenSpec.upto mediaOfSpec)

/-- 'parcloselaw03.MediaCrash', WHERE WHAT IT READS IS OF BULK AT MOST 1048576: true; the input reads as it did. -/
def mediaCrashUptoRow : OpenClaim := { program := "ytdkcghicobakhaa", sum := "b41a226e2a5204acb5286286f29ad63680e52859a7054b524bfcacb1b3dac627", func := "parclose/parcloselaw03.MediaCrash", spec := "mediaCrash", unfollowed := true, recurses := true, apart := false, narrowed := true }
def MediaCrashUptoSaid : Prop := mediaCrashUptoRow.holds Try.pinned (OpenSpec.upto mediaCrashSpec)

/-- 'parcloselaw03.MediaFenced', WHERE WHAT IT READS IS OF BULK AT MOST 1048576: true; the input reads as it did. -/
def mediaFencedUptoRow : OpenClaim := { program := "ytdkcghicobakhaa", sum := "b41a226e2a5204acb5286286f29ad63680e52859a7054b524bfcacb1b3dac627", func := "parclose/parcloselaw03.MediaFenced", spec := "mediaFenced", unfollowed := true, recurses := true, apart := false, narrowed := true }
def MediaFencedUptoSaid : Prop := mediaFencedUptoRow.holds Try.pinned (OpenSpec.upto mediaFencedSpec)

/-- 'parcloselaw03.MediaNil', WHERE WHAT IT READS IS OF BULK AT MOST 1048576: true; the input reads as it did. -/
def mediaNilUptoRow : OpenClaim := { program := "ytdkcghicobakhaa", sum := "b41a226e2a5204acb5286286f29ad63680e52859a7054b524bfcacb1b3dac627", func := "parclose/parcloselaw03.MediaNil", spec := "mediaNil", unfollowed := true, recurses := true, apart := false, narrowed := true }
def MediaNilUptoSaid : Prop := mediaNilUptoRow.holds Try.pinned (OpenSpec.upto mediaNilSpec)

end Rows
end Go.Proofs.Ytdkcghicobakhaa
