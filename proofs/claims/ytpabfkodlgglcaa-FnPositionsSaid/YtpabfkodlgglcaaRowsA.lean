/- Closed facts on this seat's program. -/
import Derived.Test.YtpabfkodlgglcaaRows
import Derived.Test.YtpabfkodlgglcaaBase
namespace Go.Proofs.Ytpabfkodlgglcaa
open Go.RowKit Go.WideShapes Go.ChangeShapes Go.ChangeAt Go.Joins Go.Deep
theorem Try.own : ownKnob Try.prog.godebug = none := by kernel_rfl
theorem Try.laidOut : laidOutB Try.prog = true := by kernel_rfl
end Go.Proofs.Ytpabfkodlgglcaa
