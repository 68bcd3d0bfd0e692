/- The program's table at the element types that are met. -/
import Derived.Test.YtnpmepklgakaiaaDoorRows
import Derived.Test.YtnpmepklgakaiaaDoorMem
namespace Go.Proofs.YtnpmepklgakaiaaDoor
theorem info64 : (Tryd.prog.info? 44).map (fun i => (i.zero, i.size, i.bytes)) = some (some (.int .u64 0), 1, 8) := by kernel_rfl
theorem info8 : (Tryd.prog.info? 5).map (fun i => (i.zero, i.size, i.bytes)) = some (some (.int .u8 0), 1, 1) := by kernel_rfl
end Go.Proofs.YtnpmepklgakaiaaDoor
