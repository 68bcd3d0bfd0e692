/- geom.What: what it gives. -/
import Derived.Test.YtpjhjpcajdbinaaGeomWhat2
import Derived.Test.YtpjhjpcajdbinaaGeomWhat3
namespace Go.Proofs.Ytpjhjpcajdbinaa
open Go.RowKit
set_option linter.unusedVariables false

/-- the region of a word that there is: kind, number, place in it -/
def regOf (P I at_ : Int) : Int × Int × Int :=
  if 2 + I + 17 * P ≤ at_ / 8 then (5, (at_ - 8 * (2 + I + 17 * P)) / 32 + 1, (at_ - 8 * (2 + I + 17 * P)) % 32)
  else if 2 + I ≤ at_ / 8 then (4, (at_ - 8 * (2 + I)) / 136, (at_ - 8 * (2 + I)) % 136)
  else if 2 ≤ at_ / 8 then (3, (at_ - 16) / 8 + 1, (at_ - 16) % 8)
  else if 8 ≤ at_ then (2, (at_ - 8) / 8, at_ % 8) else (1, at_ / 8, at_ % 8)
theorem What_yes (P I B at_ : Int) (h : MayG P I B) (h0 : 0 ≤ at_) (h1 : at_ < 8 * linesOf P I B) (w : World) :
    Calls Try.prog 7 #[gv P I B, .int .i64 at_] w (OutR w (regOf P I at_).1 (regOf P I at_).2.1 (regOf P I at_).2.2 0) := by
  unfold regOf
  by_cases c1 : 2 + I + 17 * P ≤ at_ / 8
  · rw [if_pos c1]; exact What_block P I B at_ h h0 h1 c1 w
  rw [if_neg c1]
  by_cases c2 : 2 + I ≤ at_ / 8
  · rw [if_pos c2]; exact What_slot P I B at_ h h0 h1 (by omega) c2 w
  rw [if_neg c2]
  by_cases c3 : 2 ≤ at_ / 8
  · rw [if_pos c3]; exact What_inode P I B at_ h h0 h1 (by omega) c3 w
  rw [if_neg c3]
  by_cases c4 : 8 ≤ at_
  · rw [if_pos c4]; exact What_maps P I B at_ h h0 h1 c4 (by omega) w
  · rw [if_neg c4]; exact What_super P I B at_ h h0 h1 (by omega) w
end Go.Proofs.Ytpjhjpcajdbinaa
