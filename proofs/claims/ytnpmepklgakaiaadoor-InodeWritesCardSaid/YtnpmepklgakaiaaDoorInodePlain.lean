/- Chapter 6: which words of a record may be, as plain data. -/
import Derived.Test.YtnpmepklgakaiaaDoorGeomPlain
import Derived.Test.YtnpmepklgakaiaaDoorBits
namespace Go.Proofs.YtnpmepklgakaiaaDoor
set_option linter.unusedVariables false

/-- is a word's number from a to b? -/
def wIn (w : Nat) (a b : Int) : Bool := decide (w ≤ 4611686018427387904) && (decide (a ≤ (w : Int)) && decide ((w : Int) ≤ b))
/-- may word 0 be? -/
def firstOK (w k : Nat) : Bool :=
  if k = 0 then decide (w % 4294967296 / 256 = 0) else if k = 2 then decide (w % 4294967296 / 256 ≤ 1) else if k = 1 ∨ k = 3 then decide (w % 4294967296 / 256 ≤ 8) else false
/-- may a word be the heads of a directory? -/
def headsOK (w B : Nat) : Bool := decide (getW w 0 8 ≤ B ∧ getW w 8 8 ≤ B ∧ getW w 16 8 ≤ B ∧ getW w 24 8 ≤ B) && decide (w / 4294967296 = 0)
/-- may a word be, at a place, of a record of a kind? -/
def wordOK (p k w : Nat) (I B : Nat) : Bool :=
  if p = 0 then firstOK w k
  else if k = 0 then decide (w = 0)
  else if p = 1 then (if k = 1 then wIn w 0 8192 else if k = 3 then wIn w 1 64 else wIn w 0 4096)
  else if p = 2 then wIn w 1 B
  else if p = 3 then (if k = 2 then headsOK w B else if k = 3 then wIn w 1 B else wIn w 0 B)
  else if p = 4 then (if k = 2 then wIn w 1 I else decide (w = 0))
  else wIn w 0 1099511627776
/-- the first word that may not be; -1: there is none -/
def wrongAt (t : List Nat) (k I B : Nat) : Int :=
  if wordOK 0 k (t.getD 0 0) I B = false then 0 else if wordOK 1 k (t.getD 1 0) I B = false then 1 else if wordOK 2 k (t.getD 2 0) I B = false then 2 else if wordOK 3 k (t.getD 3 0) I B = false then 3
  else if wordOK 4 k (t.getD 4 0) I B = false then 4 else if wordOK 5 k (t.getD 5 0) I B = false then 5 else if wordOK 6 k (t.getD 6 0) I B = false then 6 else -1
end Go.Proofs.YtnpmepklgakaiaaDoor
