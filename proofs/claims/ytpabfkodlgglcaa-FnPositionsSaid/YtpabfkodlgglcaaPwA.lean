/- Contracts: lists of places. -/
import Derived.Test.YtpabfkodlgglcaaPwMath
import Derived.Test.YtpabfkodlgglcaaPoB
import Derived.Test.YtpabfkodlgglcaaFloat
namespace Go.Proofs.Ytpabfkodlgglcaa
open Go.RowKit

theorem infoPlace : (Try.prog.info? 25).map (fun i => (i.zero, i.size, i.bytes)) = some (some (.agg #[.int .i64 0, .int .i64 0]), 2, 16) := by kernel_rfl

end Go.Proofs.Ytpabfkodlgglcaa
