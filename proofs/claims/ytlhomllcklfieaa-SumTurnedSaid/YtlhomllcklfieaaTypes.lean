/- The program's table at the element types that are met. -/
import Derived.Test.YtlhomllcklfieaaRows
import Derived.Test.YtlhomllcklfieaaMem
namespace Go.Proofs.Ytlhomllcklfieaa
theorem info64 : (Try.prog.info? 36).map (fun i => (i.zero, i.size, i.bytes)) = some (some (.int .u64 0), 1, 8) := by kernel_rfl
theorem info8 : (Try.prog.info? 5).map (fun i => (i.zero, i.size, i.bytes)) = some (some (.int .u8 0), 1, 1) := by kernel_rfl
end Go.Proofs.Ytlhomllcklfieaa
