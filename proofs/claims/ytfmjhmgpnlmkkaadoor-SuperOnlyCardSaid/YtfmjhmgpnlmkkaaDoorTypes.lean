/- The program's table at the element types that are met. -/
import Derived.Test.YtfmjhmgpnlmkkaaDoorRows
import Derived.Test.YtfmjhmgpnlmkkaaDoorMem
namespace Go.Proofs.YtfmjhmgpnlmkkaaDoor
theorem info64 : (Tryd.prog.info? 42).map (fun i => (i.zero, i.size, i.bytes)) = some (some (.int .u64 0), 1, 8) := by kernel_rfl
theorem info8 : (Tryd.prog.info? 5).map (fun i => (i.zero, i.size, i.bytes)) = some (some (.int .u8 0), 1, 1) := by kernel_rfl
end Go.Proofs.YtfmjhmgpnlmkkaaDoor
