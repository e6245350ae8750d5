/- Plain arithmetic of places and reports: no program in sight. -/
namespace Go.Proofs.Ytpabfkodlgglcaa

/-- n lies in a..b. -/
def wi (n a b : Int) : Bool := decide (a ≤ n) && decide (n ≤ b)
theorem wi_iff {n a b : Int} : wi n a b = true ↔ a ≤ n ∧ n ≤ b := by simp [wi]
theorem wi_no {n a b : Int} : wi n a b = false ↔ ¬ (a ≤ n ∧ n ≤ b) := by rw [← wi_iff]; simp
def vP (x y : Int) : Bool := wi x 0 9899 && wi y 0 9899
def szOf (o : Bool) : Int := if o then 99 else 100
def vR (o : Bool) (a b : Int) : Bool := wi a 0 (szOf o - 1) && wi b 0 (szOf o - 1)
theorem vP_iff {x y : Int} : vP x y = true ↔ (0 ≤ x ∧ x ≤ 9899) ∧ (0 ≤ y ∧ y ≤ 9899) := by simp [vP, wi_iff]
theorem szOf_two (o : Bool) : szOf o = 99 ∨ szOf o = 100 := by cases o <;> simp [szOf]
theorem vR_iff {o : Bool} {a b : Int} : vR o a b = true ↔ (0 ≤ a ∧ a < szOf o) ∧ (0 ≤ b ∧ b < szOf o) := by
  simp [vR, wi_iff]; omega

/-- The coordinate with two remainders. -/
def bo (e o : Int) : Int := (100 * o - 99 * e) % 9900
theorem bo_spec {e o : Int} (h0 : 0 ≤ e) (h1 : e < 100) (h2 : 0 ≤ o) (h3 : o < 99) : 0 ≤ bo e o ∧ bo e o ≤ 9899 ∧ bo e o % 100 = e ∧ bo e o % 99 = o := by
  unfold bo; omega
theorem crt {n m : Int} (h0 : 0 ≤ n) (h1 : n ≤ 9899) (h2 : 0 ≤ m) (h3 : m ≤ 9899) (ha : n % 100 = m % 100) (hb : n % 99 = m % 99) : n = m := by omega
theorem bo_of {n : Int} (h0 : 0 ≤ n) (h1 : n ≤ 9899) : bo (n % 100) (n % 99) = n := by
  obtain ⟨a, b, c, d⟩ := bo_spec (e := n % 100) (o := n % 99) (by omega) (by omega) (by omega) (by omega)
  exact crt a b h0 h1 c d

/-- The smallest difference of a coordinate with a remainder from n. -/
def lst (r s n : Int) : Int :=
  let d := (n - r) % s
  if n < r then r - n else if n + (s - d) ≤ 9899 ∧ s - d < d then s - d else d
/-- The coordinate at which it is met. -/
def lstAt (r s n : Int) : Int :=
  let d := (n - r) % s
  if n < r then r else if n + (s - d) ≤ 9899 ∧ s - d < d then n + (s - d) else n - d
def ab (n : Int) : Int := if n < 0 then -n else n
theorem ab_spec (n : Int) : (0 ≤ n → ab n = n) ∧ (n < 0 → ab n = -n) ∧ 0 ≤ ab n := by unfold ab; split <;> omega

/-- The smallest coordinate that is near by d. -/
def fst (r s n d : Int) : Int := if n - d ≤ r then r else (n - d) + (r - (n - d)) % s
end Go.Proofs.Ytpabfkodlgglcaa
