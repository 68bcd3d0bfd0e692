/- The greatest of two, kept whole in a walk ('attribute [local go_sem ↓] run_most2'). -/
import Derived.WalkKit
import Derived.WalkLawsBesides
namespace Go.Proofs.Ytpjhjpcajdbinaa
def most2 (x y : Int) : Int := if y > x then y else x
theorem run_most2 {P : Program} {w : World} (ts : Array TypeId) (t : TypeId) (k k' : IntKind) (x y : Int) : (Builtin.max_ ts t #[.int k x, .int k' y]).run P w = .ok (.int k (most2 x y)) w := run_max_int2 w ts t k k' x y
theorem most2_eq (x y : Int) : most2 x y = max x y := by unfold most2; split <;> omega
end Go.Proofs.Ytpjhjpcajdbinaa
