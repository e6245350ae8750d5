/- Places in a box: plain. -/
import Derived.Test.YtpabfkodlgglcaaPoMath
import Derived.Test.YtpabfkodlgglcaaSl
namespace Go.Proofs.Ytpabfkodlgglcaa
open Go.RowKit

/-- A row of places. -/
def pwR (xs : List Int) (y : Int) : List Pt := xs.map fun x => (x, y)
theorem pwR_snoc (xs : List Int) (x y : Int) : pwR (xs ++ [x]) y = pwR xs y ++ [(x, y)] := by simp [pwR]
theorem pwR_len (xs : List Int) (y : Int) : (pwR xs y).length = xs.length := by simp [pwR]
def pwF (xs ys : List Int) : List Pt := ys.flatMap fun y => pwR xs y
theorem pwF_snoc (xs ys : List Int) (y : Int) : pwF xs (ys ++ [y]) = pwF xs ys ++ pwR xs y := by simp [pwF]
theorem pwF_len (xs ys : List Int) : (pwF xs ys).length = ys.length * xs.length := by
  induction ys with
  | nil => simp [pwF]
  | cons y ys ih =>
    have e : pwF xs (y :: ys) = pwR xs y ++ pwF xs ys := by simp [pwF]
    rw [e, List.length_append, ih, pwR_len, List.length_cons, Nat.add_mul]
    omega
end Go.Proofs.Ytpabfkodlgglcaa
