/- The program's table at the element types that are met. -/
import Derived.Test.YtpjhjpcajdbinaaRows
import Derived.Test.YtpjhjpcajdbinaaMem
namespace Go.Proofs.Ytpjhjpcajdbinaa
end Go.Proofs.Ytpjhjpcajdbinaa
