/- Plain arithmetic of velocities: no program in sight. -/
import Derived.Test.YtpcabjjmphcpeaaWi
namespace Go.Proofs.Ytpcabjjmphcpeaa
def vV (x y : Int) : Bool := wi x (-200) 200 && wi y (-200) 200
theorem vV_iff {x y : Int} : vV x y = true ↔ (-200 ≤ x ∧ x ≤ 200) ∧ (-200 ≤ y ∧ y ≤ 200) := by simp [vV, wi_iff]
def sq (x y : Int) : Int := x * x + y * y
theorem mul_bd {x y c : Int} (h0 : -c ≤ x) (h1 : x ≤ c) (h2 : -c ≤ y) (h3 : y ≤ c) : -(c * c) ≤ x * y ∧ x * y ≤ c * c := by
  have a := Int.mul_nonneg (show 0 ≤ c - x by omega) (show 0 ≤ c + y by omega)
  have b := Int.mul_nonneg (show 0 ≤ c + x by omega) (show 0 ≤ c - y by omega)
  have d := Int.mul_nonneg (show 0 ≤ c - x by omega) (show 0 ≤ c - y by omega)
  have e := Int.mul_nonneg (show 0 ≤ c + x by omega) (show 0 ≤ c + y by omega)
  rw [Int.sub_mul, Int.mul_add, Int.mul_add] at a
  rw [Int.add_mul, Int.mul_sub, Int.mul_sub] at b
  rw [Int.sub_mul, Int.mul_sub, Int.mul_sub] at d
  rw [Int.add_mul, Int.mul_add, Int.mul_add] at e
  omega
theorem self_nonneg (x : Int) : 0 ≤ x * x := by
  rcases Int.le_total 0 x with h | h
  · exact Int.mul_nonneg h h
  · have := Int.mul_nonneg (show 0 ≤ -x by omega) (show 0 ≤ -x by omega)
    rwa [Int.neg_mul_neg] at this
theorem self_pos {x : Int} (h : x ≠ 0) : 0 < x * x := by
  rcases Int.lt_or_gt_of_ne h with h | h
  · have := Int.mul_pos (show 0 < -x by omega) (show 0 < -x by omega)
    rwa [Int.neg_mul_neg] at this
  · exact Int.mul_pos h h
theorem sq_bd {x y : Int} (h : vV x y = true) : (0 ≤ x * x ∧ x * x ≤ 40000) ∧ (0 ≤ y * y ∧ y * y ≤ 40000) := by
  obtain ⟨⟨a, b⟩, c, d⟩ := vV_iff.1 h
  have e := mul_bd a b a b
  have f := mul_bd c d c d
  exact ⟨⟨self_nonneg x, by omega⟩, self_nonneg y, by omega⟩
theorem sq_zero {x y : Int} : sq x y = 0 ↔ x = 0 ∧ y = 0 := by
  constructor
  · intro h
    unfold sq at h
    have a := self_nonneg x
    have b := self_nonneg y
    refine ⟨Classical.byContradiction fun e => ?_, Classical.byContradiction fun e => ?_⟩
    · have := self_pos e; omega
    · have := self_pos e; omega
  · rintro ⟨rfl, rfl⟩; rfl
def faster (a b c d : Int) : Int := if (vV a b && vV c d) = true then (if sq a b > sq c d then 1 else if sq a b < sq c d then 2 else 0) else 0
def stand (x y : Int) : Bool := decide (x = 0) && decide (y = 0)
def turnK (a b c d : Int) : Bool := vV a b && vV c d && !stand a b && !stand c d
def turnV (a b c d : Int) : Int := if turnK a b c d = true then (if a * d - b * c < 0 then 1 else if a * d - b * c > 0 then 2 else if a * c + b * d < 0 then 3 else 0) else 0
def addK (a b c d : Int) : Bool := vV a b && vV c d && vV (a + c) (b + d)
def addX (a b c d : Int) : Int := if addK a b c d = true then a + c else 0
def addY (a b c d : Int) : Int := if addK a b c d = true then b + d else 0
/-- The whole speed, by counting. -/
def wsF (q : Int) : Nat → Int → Int
  | 0, n => n
  | f + 1, n => if (n + 1) * (n + 1) ≤ q then wsF q f (n + 1) else n
def ws (x y : Int) : Int := if vV x y = true then wsF (sq x y) 300 0 else 0
end Go.Proofs.Ytpcabjjmphcpeaa
