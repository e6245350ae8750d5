/- Arguments that are slices of points or of numbers: what they read as. -/
import Derived.Test.YtpabfkodlgglcaaSl
namespace Go.Proofs.Ytpabfkodlgglcaa
open Go.RowKit Go.WideShapes Go.ChangeShapes Go.ChangeAt Go.Joins Go.Deep

section
variable {H : Type} {enc : TypeId × Value → H} {P : Program} {w : World} {base : Nat} {spare : Nat → Bool} {held : Bool}
end
end Go.Proofs.Ytpabfkodlgglcaa
