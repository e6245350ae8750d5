/- append of a whole slice that reads, in a statement of one order. -/
import Derived.Test.YtpabfkodlgglcaaSeq
import Derived.Test.YtpabfkodlgglcaaSl
namespace Go.Proofs.Ytpabfkodlgglcaa
open Go Go.RowKit
end Go.Proofs.Ytpabfkodlgglcaa
