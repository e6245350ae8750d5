/- The whole speed: plain arithmetic. -/
import Derived.Test.YtpcabjjmphcpeaaSpMath
namespace Go.Proofs.Ytpcabjjmphcpeaa
theorem root_bd {m q : Int} (h0 : 0 ≤ m) (h1 : m * m ≤ q) (h2 : q ≤ 80000) : m ≤ 282 := by
  refine Classical.byContradiction fun e => ?_
  have := Int.mul_le_mul (show 283 ≤ m by omega) (show 283 ≤ m by omega) (by omega) h0
  omega
theorem sqs_le {a b : Int} (h0 : 0 ≤ a) (h : a ≤ b) : a * a ≤ b * b := Int.mul_le_mul h h h0 (by omega)
theorem wsF_at {q m : Int} (h1 : m * m ≤ q) (h2 : ¬ (m + 1) * (m + 1) ≤ q) : ∀ (f : Nat) (n : Int), 0 ≤ n → n ≤ m → m ≤ n + f → wsF q f n = m
  | 0, n, _, hb, hc => by have : n = m := by omega
                          exact this
  | f + 1, n, ha, hb, hc => by
    unfold wsF
    by_cases e : n = m
    · subst e; rw [if_neg h2]
    · rw [if_pos (Int.le_trans (sqs_le (by omega) (by omega)) h1)]
      exact wsF_at h1 h2 f (n + 1) (by omega) (by omega) (by omega)
theorem ws_at {x y m : Int} (h : vV x y = true) (h0 : 0 ≤ m) (h1 : m * m ≤ sq x y) (h2 : ¬ (m + 1) * (m + 1) ≤ sq x y) : ws x y = m := by
  have h3 := sq_bd h
  have h4 := root_bd h0 h1 (by unfold sq; omega)
  unfold ws
  rw [if_pos h]
  exact wsF_at h1 h2 300 0 (by omega) h0 (by omega)
theorem sq_le {x y : Int} (h : vV x y = true) : 0 ≤ sq x y ∧ sq x y ≤ 80000 := by
  have h3 := sq_bd h
  unfold sq; omega
/-- What 'near an axis' says. -/
theorem near_no : ∀ l m : Int, 0 ≤ l → l ≤ m → 0 < m → m ≤ 200 → ¬ (l + m) * (l + m) = 2 * m * m := by
  intro l m h0 h1 h2 h3 e
  have key : ∀ a < 201, ∀ b < 201, 0 < b → ¬ (a + b) * (a + b) = 2 * b * b := by decide +kernel
  refine key l.toNat (by omega) m.toNat (by omega) (by omega) ?_
  have e1 : (l.toNat : Int) = l := by omega
  have e2 : (m.toNat : Int) = m := by omega
  have : (((l.toNat + m.toNat) * (l.toNat + m.toNat) : Nat) : Int) = ((2 * m.toNat * m.toNat : Nat) : Int) := by
    simp only [Int.natCast_mul, Int.natCast_add, e1, e2]; exact e
  exact Int.ofNat_inj.1 this
def nr (a b : Int) : Bool := decide ((a + b) * (a + b) < 2 * a * a)
/-- The direction of a velocity that is not 0. -/
def dirN (x y : Int) : Int :=
  if nr (ab y) (ab x) = true then (if y > 0 then 0 else 4)
  else if nr (ab x) (ab y) = true then (if x > 0 then 2 else 6)
  else if x > 0 then (if y > 0 then 1 else 3) else if y < 0 then 5 else 7
def dirK (x y : Int) : Bool := vV x y && !stand x y
def dir (x y : Int) : Int := if dirK x y = true then dirN x y else 0
/-- Neither side is short: the sum's square against the longer side's. -/
theorem near_iff {a b : Int} (h0 : 0 ≤ a) (h1 : 0 ≤ b) (h2 : a ≤ b) (h3 : 0 < b) : nr a b = false ∧ (a = b → nr b a = false) := by
  have h5 := self_pos (show b ≠ 0 by omega)
  have h6 := sqs_le h0 h2
  have h7 := Int.mul_nonneg h0 h1
  constructor
  · simp only [nr, decide_eq_false_iff_not, Int.add_mul, Int.mul_add, Int.mul_assoc]
    have h8 : a * a ≤ a * b := Int.mul_le_mul (Int.le_refl _) h2 h0 h0
    have h9 := Int.mul_comm a b
    omega
  · rintro rfl
    simp only [nr, decide_eq_false_iff_not, Int.add_mul, Int.mul_add, Int.mul_assoc]
    omega
end Go.Proofs.Ytpcabjjmphcpeaa
