/- Velocities: plain. -/
import Derived.Test.YtpcabjjmphcpeaaEncMath
import Derived.Test.YtpcabjjmphcpeaaDirMath
import Derived.Test.YtpcabjjmphcpeaaPvMath
namespace Go.Proofs.Ytpcabjjmphcpeaa
theorem us_sg {x : Int} (h0 : -200 ≤ x) (h1 : x ≤ 200) : us (sg x) = x := by unfold us sg; split <;> split <;> omega
/-- A velocity comes back out of what is sent. -/
theorem dec_enc {x y : Int} (h : vV x y = true) : decK (enc x y) = true ∧ decX (enc x y) = x ∧ decY (enc x y) = y := by
  obtain ⟨⟨a0, a1⟩, b0, b1⟩ := vV_iff.1 h
  obtain ⟨p0, p1⟩ := sg_bd (x := x) (by omega) (by omega)
  obtain ⟨q0, q1⟩ := sg_bd (x := y) (by omega) (by omega)
  have e : enc x y = (2048 * sg x + sg y) * 4 := by unfold enc; rw [if_pos h]
  have ux : uX (enc x y) = x := by
    unfold uX
    rw [e, show (2048 * sg x + sg y) * 4 / 8192 = sg x from by omega]
    exact us_sg a0 a1
  have uy : uY (enc x y) = y := by
    unfold uY
    rw [e, show (2048 * sg x + sg y) * 4 / 4 % 2048 = sg y from by omega]
    exact us_sg b0 b1
  have k : decK (enc x y) = true := by
    unfold decK
    rw [ux, uy, h, wi_iff.2 (show 0 ≤ enc x y ∧ enc x y ≤ 16777215 from by rw [e]; omega)]
    simp
  exact ⟨k, by unfold decX; rw [if_pos k, ux], by unfold decY; rw [if_pos k, uy]⟩
theorem ab_neg (x : Int) : ab (-x) = ab x := by unfold ab; split <;> split <;> omega
theorem self_nn (a : Int) : 0 ≤ a * a := by
  rcases Int.le_total 0 a with h | h
  · exact Int.mul_nonneg h h
  · have h2 := Int.mul_nonneg (show 0 ≤ -a by omega) (show 0 ≤ -a by omega)
    rw [Int.neg_mul_neg] at h2
    exact h2
theorem nr_self0 (a : Int) : nr 0 a = false := by
  simp only [nr, decide_eq_false_iff_not]
  have h := self_nn a
  simp only [Int.zero_add, Int.mul_zero, Int.zero_mul]
  omega
theorem dirN_bd (x y : Int) : 0 ≤ dirN x y ∧ dirN x y ≤ 7 := by unfold dirN; repeat' split <;> omega
theorem dirN_neg {x y : Int} (h : stand x y = false) : dirN (-x) (-y) = (dirN x y + 4) % 8 := by
  have hz : ¬ (x = 0 ∧ y = 0) := fun e => by simp [stand, e.1, e.2] at h
  unfold dirN
  rw [ab_neg, ab_neg]
  rcases h1 : nr (ab y) (ab x) with _ | _
  · rcases h2 : nr (ab x) (ab y) with _ | _
    · have hx : x ≠ 0 := by
        rintro rfl
        have hy : y ≠ 0 := fun e => hz ⟨rfl, e⟩
        rw [nr_zero hy] at h1
        cases h1
      have hy : y ≠ 0 := by
        rintro rfl
        rw [nr_zero hx] at h2
        cases h2
      simp only [Bool.false_eq_true, if_false]
      repeat' split
      all_goals omega
    · have hx : x ≠ 0 := by
        rintro rfl
        rw [show ab 0 = 0 from rfl, nr_self0] at h2
        cases h2
      simp only [Bool.false_eq_true, if_false, if_true]
      repeat' split
      all_goals omega
  · have hy : y ≠ 0 := by
      rintro rfl
      rw [show ab 0 = 0 from rfl, nr_self0] at h1
      cases h1
    simp only [if_true]
    repeat' split
    all_goals omega
theorem stand_neg (x y : Int) : stand (-x) (-y) = stand x y := by
  unfold stand
  rw [show decide (-x = 0) = decide (x = 0) from decide_eq_decide.2 (by omega), show decide (-y = 0) = decide (y = 0) from decide_eq_decide.2 (by omega)]
theorem vV_neg {x y : Int} (h : vV x y = true) : vV (-x) (-y) = true := vV_iff.2 (by have := vV_iff.1 h; omega)
/-- The opposite velocity has the opposite direction. -/
theorem dir_neg {x y : Int} (h : vV x y = true) : dirK (-x) (-y) = dirK x y ∧ (dirK x y = true → dir (-x) (-y) = (dir x y + 4) % 8 ∧ 0 ≤ dir x y ∧ dir x y ≤ 7) := by
  have hk : dirK (-x) (-y) = dirK x y := by unfold dirK; rw [stand_neg, h, vV_neg h]
  refine ⟨hk, fun k => ?_⟩
  rw [dir_at k, dir_at (hk.trans k)]
  refine ⟨dirN_neg ?_, dirN_bd x y⟩
  have := (Bool.and_eq_true_iff.1 k).2
  simpa using this
theorem wsF_spec {q : Int} : ∀ (f : Nat) (n : Int), 0 ≤ n → n * n ≤ q → q < (n + f + 1) * (n + f + 1) → 0 ≤ wsF q f n ∧ wsF q f n * wsF q f n ≤ q ∧ ¬ (wsF q f n + 1) * (wsF q f n + 1) ≤ q
  | 0, n, h0, h1, h2 => by
    simp only [wsF]
    refine ⟨h0, h1, ?_⟩
    have e : n + ((0 : Nat) : Int) + 1 = n + 1 := by omega
    rw [e] at h2
    omega
  | f + 1, n, h0, h1, h2 => by
    simp only [wsF]
    by_cases h : (n + 1) * (n + 1) ≤ q
    · rw [if_pos h]
      refine wsF_spec f (n + 1) (by omega) h ?_
      have e : n + ((f + 1 : Nat) : Int) + 1 = n + 1 + f + 1 := by omega
      rw [e] at h2
      exact h2
    · rw [if_neg h]; exact ⟨h0, h1, h⟩
/-- The whole speed is the whole root. -/
theorem ws_spec {x y : Int} (h : vV x y = true) : (0 ≤ ws x y ∧ ws x y ≤ 282) ∧ ws x y * ws x y ≤ sq x y ∧ ¬ (ws x y + 1) * (ws x y + 1) ≤ sq x y := by
  obtain ⟨q0, q1⟩ := sq_le h
  have hs := wsF_spec (q := sq x y) 300 0 (by omega) (by omega) (by omega)
  have e : ws x y = wsF (sq x y) 300 0 := by unfold ws; rw [if_pos h]
  rw [← e] at hs
  exact ⟨⟨hs.1, root_bd hs.1 hs.2.1 q1⟩, hs.2.1, hs.2.2⟩
theorem vtS_at {x y : Int} (h : vV x y = true) : vtS x y = vtext x y ∧ (vtext x y).size ≤ 10 := ⟨by unfold vtS; rw [if_pos h], vtext_short h⟩
theorem vtS_no {x y : Int} (h : vV x y = false) : vtS x y = ⟨#[]⟩ := by unfold vtS; rw [h]; rfl
end Go.Proofs.Ytpcabjjmphcpeaa
