/- Contracts: the data of reports. -/
import Derived.Test.YtpabfkodlgglcaaPoC
namespace Go.Proofs.Ytpabfkodlgglcaa
open Go.RowKit

end Go.Proofs.Ytpabfkodlgglcaa
