/- Closed facts on this seat's program. -/
import Derived.Test.YtbeojfhakmbacaaRows
import Derived.Test.YtbeojfhakmbacaaBase
namespace Go.Proofs.Ytbeojfhakmbacaa
open Go.RowKit Go.WideShapes Go.ChangeShapes Go.ChangeAt Go.Joins Go.Deep
theorem Try.own : ownKnob Try.prog.godebug = none := by kernel_rfl
theorem Try.laidOut : laidOutB Try.prog = true := by kernel_rfl
end Go.Proofs.Ytbeojfhakmbacaa
