/- The program's table at the element types that are met. -/
import Derived.Test.YteojodddfanepaaRows
import Derived.Test.YteojodddfanepaaMem
namespace Go.Proofs.Yteojodddfanepaa
theorem info64 : (Try.prog.info? 38).map (fun i => (i.zero, i.size, i.bytes)) = some (some (.int .u64 0), 1, 8) := by kernel_rfl
end Go.Proofs.Yteojodddfanepaa
