/- Ranges and absolute values. -/
namespace Go.Proofs.Ytnocgcfepkdjeaa
/-- n lies in a..b. -/
def wi (n a b : Int) : Bool := decide (a ≤ n) && decide (n ≤ b)
theorem wi_iff {n a b : Int} : wi n a b = true ↔ a ≤ n ∧ n ≤ b := by simp [wi]
theorem wi_no {n a b : Int} : wi n a b = false ↔ ¬ (a ≤ n ∧ n ≤ b) := by rw [← wi_iff]; simp
def ab (n : Int) : Int := if n < 0 then -n else n
theorem ab_spec (n : Int) : (0 ≤ n → ab n = n) ∧ (n < 0 → ab n = -n) ∧ 0 ≤ ab n := by unfold ab; split <;> omega
end Go.Proofs.Ytnocgcfepkdjeaa
