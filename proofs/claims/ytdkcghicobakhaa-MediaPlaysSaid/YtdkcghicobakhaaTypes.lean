/- The program's table at the element types that are met. -/
import Derived.Test.YtdkcghicobakhaaRows
import Derived.Test.YtdkcghicobakhaaMem
namespace Go.Proofs.Ytdkcghicobakhaa
theorem info64 : (Try.prog.info? 32).map (fun i => (i.zero, i.size, i.bytes)) = some (some (.int .u64 0), 1, 8) := by kernel_rfl
end Go.Proofs.Ytdkcghicobakhaa
