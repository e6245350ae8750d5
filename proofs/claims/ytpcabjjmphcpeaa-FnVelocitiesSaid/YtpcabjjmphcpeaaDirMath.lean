/- Directions: plain arithmetic. -/
import Derived.Test.YtpcabjjmphcpeaaWsMath
namespace Go.Proofs.Ytpcabjjmphcpeaa
theorem ab_bd {x : Int} (h0 : -200 ≤ x) (h1 : x ≤ 200) : 0 ≤ ab x ∧ ab x ≤ 200 := by unfold ab; split <;> omega
theorem ab_zero {x : Int} : ab x = 0 ↔ x = 0 := by unfold ab; split <;> omega
/-- The four corners. -/
def corner (x y : Int) : Int := if x > 0 then (if y > 0 then 1 else 3) else if y < 0 then 5 else 7
theorem dir_facts {x y P Q : Int} (h : vV x y = true) (hs : stand x y = false) (hP : min (ab x) (ab y) = P) (hQ : max (ab x) (ab y) = Q) :
    0 ≤ P ∧ P ≤ Q ∧ 0 < Q ∧ Q ≤ 200 ∧ dirK x y = true ∧
    ((P + Q) * (P + Q) > 2 * Q * Q → nr (ab y) (ab x) = false ∧ nr (ab x) (ab y) = false) ∧
    (¬ (P + Q) * (P + Q) > 2 * Q * Q → ab y > ab x → nr (ab y) (ab x) = true) ∧
    (¬ (P + Q) * (P + Q) > 2 * Q * Q → ¬ ab y > ab x → nr (ab y) (ab x) = false ∧ nr (ab x) (ab y) = true) := by
  obtain ⟨⟨a0, a1⟩, b0, b1⟩ := vV_iff.1 h
  obtain ⟨A0, A1⟩ := ab_bd a0 a1
  obtain ⟨B0, B1⟩ := ab_bd b0 b1
  have hz : ¬ (ab x = 0 ∧ ab y = 0) := by
    intro e; simp [stand, ab_zero.1 e.1, ab_zero.1 e.2] at hs
  have hk : dirK x y = true := by simp [dirK, h, hs]
  generalize ab x = p at *
  generalize ab y = q at *
  refine ⟨by omega, by omega, by omega, by omega, hk, ?_⟩
  rcases Int.lt_or_le p q with hc | hc
  · have e1 : P = p := by omega
    have e2 : Q = q := by omega
    subst e1; subst e2
    have n1 := (near_iff A0 B0 (Int.le_of_lt hc) (by omega)).1
    have n2 := near_no P Q A0 (Int.le_of_lt hc) (by omega) B1
    refine ⟨fun hd => ⟨?_, n1⟩, fun hd _ => ?_, fun _ he => by omega⟩
    · simp only [nr, decide_eq_false_iff_not]; rw [Int.add_comm Q P]; omega
    · simp only [nr, decide_eq_true_eq]; rw [Int.add_comm Q P]; omega
  · have e1 : P = q := by omega
    have e2 : Q = p := by omega
    subst e1; subst e2
    have n1 := near_iff B0 A0 hc (by omega)
    have n2 := near_no P Q B0 hc (by omega) A1
    refine ⟨fun hd => ⟨n1.1, ?_⟩, fun _ he => by omega, fun hd _ => ⟨n1.1, ?_⟩⟩
    · simp only [nr, decide_eq_false_iff_not]; rw [Int.add_comm Q P]; omega
    · simp only [nr, decide_eq_true_eq]; rw [Int.add_comm Q P]; omega
theorem dir_at {x y : Int} (h : dirK x y = true) : dir x y = dirN x y := by unfold dir; rw [if_pos h]
theorem nr_zero {y : Int} (h : y ≠ 0) : nr (ab y) (ab 0) = true := by
  have h1 : ab y ≠ 0 := fun e => h (ab_zero.1 e)
  have h2 := self_pos h1
  have h3 : ab 0 = 0 := by decide
  simp only [nr, decide_eq_true_eq, h3, Int.add_zero, Int.mul_assoc]
  omega
end Go.Proofs.Ytpcabjjmphcpeaa
