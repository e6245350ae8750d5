/- Reports: what the laws ask, plain. -/
import Derived.Test.YtpabfkodlgglcaaPwMath
namespace Go.Proofs.Ytpabfkodlgglcaa
open Go.RowKit
theorem rof_of {x y a b : Int} {o : Bool} (h : vP x y = true) (ha : x % szOf o = a) (hb : y % szOf o = b) : rofO x y o = o ∧ rofA x y o = a ∧ rofB x y o = b :=
  ⟨by unfold rofO; rw [h]; rfl, by unfold rofA; rw [if_pos h, ha], by unfold rofB; rw [if_pos h, hb]⟩
end Go.Proofs.Ytpabfkodlgglcaa
