/- Velocities the other way round: plain. -/
import Derived.Test.YtpcabjjmphcpeaaWsMath
namespace Go.Proofs.Ytpcabjjmphcpeaa
theorem turnK_swap (a b c d : Int) : turnK c d a b = turnK a b c d := by
  unfold turnK
  cases vV a b <;> cases vV c d <;> cases stand a b <;> cases stand c d <;> rfl
/-- Both ways round: the sides are opposite. -/
def TurnTie (t u : Int) : Prop := (t = 1 ∧ u = 2) ∨ (t = 2 ∧ u = 1) ∨ (t = 3 ∧ u = 3) ∨ (t = 0 ∧ u = 0)
theorem turn_tie (a b c d : Int) : TurnTie (turnV a b c d) (turnV c d a b) := by
  have e1 : c * b - d * a = -(a * d - b * c) := by rw [Int.mul_comm c b, Int.mul_comm d a]; omega
  have e2 : c * a + d * b = a * c + b * d := by rw [Int.mul_comm c a, Int.mul_comm d b]
  unfold turnV TurnTie
  rw [turnK_swap a b c d, e1, e2]
  by_cases hk : turnK a b c d = true
  · rw [if_pos hk, if_pos hk]
    generalize a * d - b * c = p
    generalize a * c + b * d = q
    by_cases h1 : p < 0
    · rw [if_pos h1, if_neg (show ¬ -p < 0 by omega), if_pos (show -p > 0 by omega)]; simp
    · by_cases h2 : p > 0
      · rw [if_neg h1, if_pos h2, if_pos (show -p < 0 by omega)]; simp
      · rw [if_neg h1, if_neg h2, if_neg (show ¬ -p < 0 by omega), if_neg (show ¬ -p > 0 by omega)]
        by_cases h3 : q < 0
        · rw [if_pos h3]; simp
        · rw [if_neg h3]; simp
  · rw [if_neg hk, if_neg hk]; simp
theorem tie_facts {t u : Int} (h : TurnTie t u) : (((t == 1) != (u == 2)) = false ∧ ((t == 2) != (u == 1)) = false ∧ ((t == 3) != (u == 3)) = false) ∧ (0 ≤ t ∧ t ≤ 3) ∧ 0 ≤ u ∧ u ≤ 3 := by
  rcases h with ⟨rfl, rfl⟩ | ⟨rfl, rfl⟩ | ⟨rfl, rfl⟩ | ⟨rfl, rfl⟩ <;> decide
theorem vV_swap (a b c d : Int) : (vV c d && vV a b) = (vV a b && vV c d) := Bool.and_comm _ _
theorem faster_tie (a b c d : Int) : ((faster a b c d + faster c d a b) % 3 = 0) ∧ (0 ≤ faster a b c d ∧ faster a b c d ≤ 2) ∧ 0 ≤ faster c d a b ∧ faster c d a b ≤ 2 := by
  unfold faster
  rw [vV_swap a b c d]
  by_cases hk : (vV a b && vV c d) = true
  · rw [if_pos hk, if_pos hk]
    generalize sq a b = p
    generalize sq c d = q
    by_cases h1 : p > q
    · rw [if_pos h1, if_neg (show ¬ q > p by omega), if_pos (show q < p by omega)]; decide
    · by_cases h2 : p < q
      · rw [if_neg h1, if_pos h2, if_pos (show q > p by omega)]; decide
      · rw [if_neg h1, if_neg h2, if_neg (show ¬ q > p by omega), if_neg (show ¬ q < p by omega)]; decide
  · rw [if_neg hk, if_neg hk]; decide
theorem add_swap (a b c d : Int) : addK c d a b = addK a b c d ∧ addX c d a b = addX a b c d ∧ addY c d a b = addY a b c d := by
  have hk : addK c d a b = addK a b c d := by
    unfold addK
    rw [vV_swap, Int.add_comm c a, Int.add_comm d b]
  unfold addX addY
  rw [hk, Int.add_comm c a, Int.add_comm d b]
  exact ⟨rfl, rfl, rfl⟩
end Go.Proofs.Ytpcabjjmphcpeaa
