/- Contracts: codes of heights. -/
import Derived.Test.YthgnnldokdddfaaHeC
import Derived.Test.YthgnnldokdddfaaHgMath
import Derived.Test.YthgnnldokdddfaaRegion
namespace Go.Proofs.Ythgnnldokdddfaa
open Go.RowKit

def gyV (n : Int) : Int := if wi n 0 2047 = true then gr n else 0
def fyV (n : Int) : Int := if wi n 0 2047 = true then fg n else 0

theorem least1_c (a b : Int) (w : World) : Calls Try.prog 65 #[.int .i64 a, .int .i64 b] w fun e w' => e = .returned (.int .i64 (min a b)) ∧ w = w' := by
  go_enter Try.func65, Try.ntmps65
  go_wp2
  all_goals (go_returns; exact ⟨ret_eq (by refine int_eq ?_; omega), rfl⟩)

theorem grayOf_c (n : Int) (b0 : 0 ≤ n) (b1 : n ≤ 4095) (w : World) : Calls Try.prog 57 #[.int .i64 n] w fun e w' => e = .returned (.int .i64 (gr n)) ∧ w = w' := by
  have hx : bits .xor .i64 n (n / 2) = gr n := i64_xor b0 (by omega) (by omega) (by omega)
  all_goals
    go_enter Try.func57, Try.ntmps57
    go_wp2
    all_goals (go_returns; exact ⟨ret_eq (by simp [*]), rfl⟩)

theorem l6Gray_c (n : Int) (b0 : 0 ≤ n) (b1 : n ≤ 4095) (w : World) : Calls Try.prog 58 #[.int .i64 n] w fun e w' => e = .returned (.int .i64 (gr n)) ∧ w = w' := by
  have hx : bits .xor .i64 n (n / 2) = gr n := i64_xor b0 (by omega) (by omega) (by omega)
  all_goals
    go_enter Try.func58, Try.ntmps58
    go_wp2
    all_goals (go_returns; exact ⟨ret_eq (by simp [*]), rfl⟩)

theorem encode_c (h : Int) (f : Bool) (b0 : -300000 ≤ h) (b1 : h ≤ 300000) (w : World) : Calls Try.prog 22 #[.int .i64 h, .bool f] w (Gives w (.tuple #[.int .i64 (encV h f), .bool (encK h f)])) := by
  cases f
  · by_cases g0 : -1200 ≤ h ∧ h ≤ 126700
    · obtain ⟨k0, k1⟩ := g0
      by_cases g1 : (h + 1200) % 100 = 0
      · have HK := hide (show encK h false = true from by simp [encK]; omega)
        have HV := hide (show encV h false = gr ((h + 1200) / 100) from by unfold encV; rw [HK.out]; rfl)
        have q1 : (h + 1200).tmod 100 = (h + 1200) % 100 := Int.tmod_eq_emod_of_nonneg (by omega)
        have q2 : (h + 1200).tdiv 100 = (h + 1200) / 100 := Int.tdiv_eq_ediv_of_nonneg (by omega)
        have hw : wi h (-1200) 126700 = true := wi_iff.2 ⟨k0, k1⟩
        go_enter Try.func22, Try.ntmps22
        go_wp2_with (first | (go_at_call 57; refine (grayOf_c _ (by omega) (by omega) _).mono ?_; rintro e w1 ⟨rfl, rfl⟩) | (go_at_call 47; refine (within_c _ _ _ _).mono ?_; rintro e w1 ⟨rfl, rfl⟩))
        go_returns
        exact ⟨ret_eq (by rw [HV.out, HK.out]; simp), by go_grown⟩
      have HK := hide (show encK h false = false from by simp [encK]; omega)
      have HV := hide (show encV h false = 0 from by unfold encV; rw [HK.out]; rfl)
      have q1 : (h + 1200).tmod 100 = (h + 1200) % 100 := Int.tmod_eq_emod_of_nonneg (by omega)
      have q2 : (h + 1200).tdiv 100 = (h + 1200) / 100 := Int.tdiv_eq_ediv_of_nonneg (by omega)
      have hw : wi h (-1200) 126700 = true := wi_iff.2 ⟨k0, k1⟩
      go_enter Try.func22, Try.ntmps22
      go_wp2_with (first | (go_at_call 57; refine (grayOf_c _ (by omega) (by omega) _).mono ?_; rintro e w1 ⟨rfl, rfl⟩) | (go_at_call 47; refine (within_c _ _ _ _).mono ?_; rintro e w1 ⟨rfl, rfl⟩))
      go_returns
      exact ⟨ret_eq (by rw [HV.out, HK.out]; simp), by go_grown⟩
    have HK := hide (show encK h false = false from by simp [encK]; omega)
    have HV := hide (show encV h false = 0 from by unfold encV; rw [HK.out]; rfl)
    have hw : wi h (-1200) 126700 = false := Bool.eq_false_iff.2 (fun e => g0 (wi_iff.1 e))
    go_enter Try.func22, Try.ntmps22
    go_wp2_with (first | (go_at_call 57; refine (grayOf_c _ (by omega) (by omega) _).mono ?_; rintro e w1 ⟨rfl, rfl⟩) | (go_at_call 47; refine (within_c _ _ _ _).mono ?_; rintro e w1 ⟨rfl, rfl⟩))
    go_returns
    exact ⟨ret_eq (by rw [HV.out, HK.out]; simp), by go_grown⟩
  by_cases g0 : -1000 ≤ h ∧ h ≤ 50175
  · obtain ⟨k0, k1⟩ := g0
    by_cases g1 : (h + 1000) % 25 = 0
    · have HK := hide (show encK h true = true from by simp [encK]; omega)
      have HV := hide (show encV h true = 2048 + (h + 1000) / 25 from by unfold encV; rw [HK.out]; rfl)
      have q1 : (h + 1000).tmod 25 = (h + 1000) % 25 := Int.tmod_eq_emod_of_nonneg (by omega)
      have q2 : (h + 1000).tdiv 25 = (h + 1000) / 25 := Int.tdiv_eq_ediv_of_nonneg (by omega)
      have hw : wi h (-1000) 50175 = true := wi_iff.2 ⟨k0, k1⟩
      go_enter Try.func22, Try.ntmps22
      go_wp2_with (first | (go_at_call 57; refine (grayOf_c _ (by omega) (by omega) _).mono ?_; rintro e w1 ⟨rfl, rfl⟩) | (go_at_call 47; refine (within_c _ _ _ _).mono ?_; rintro e w1 ⟨rfl, rfl⟩))
      go_returns
      exact ⟨ret_eq (by rw [HV.out, HK.out]; simp), by go_grown⟩
    have HK := hide (show encK h true = false from by simp [encK]; omega)
    have HV := hide (show encV h true = 0 from by unfold encV; rw [HK.out]; rfl)
    have q1 : (h + 1000).tmod 25 = (h + 1000) % 25 := Int.tmod_eq_emod_of_nonneg (by omega)
    have q2 : (h + 1000).tdiv 25 = (h + 1000) / 25 := Int.tdiv_eq_ediv_of_nonneg (by omega)
    have hw : wi h (-1000) 50175 = true := wi_iff.2 ⟨k0, k1⟩
    go_enter Try.func22, Try.ntmps22
    go_wp2_with (first | (go_at_call 57; refine (grayOf_c _ (by omega) (by omega) _).mono ?_; rintro e w1 ⟨rfl, rfl⟩) | (go_at_call 47; refine (within_c _ _ _ _).mono ?_; rintro e w1 ⟨rfl, rfl⟩))
    go_returns
    exact ⟨ret_eq (by rw [HV.out, HK.out]; simp), by go_grown⟩
  have HK := hide (show encK h true = false from by simp [encK]; omega)
  have HV := hide (show encV h true = 0 from by unfold encV; rw [HK.out]; rfl)
  have hw : wi h (-1000) 50175 = false := Bool.eq_false_iff.2 (fun e => g0 (wi_iff.1 e))
  go_enter Try.func22, Try.ntmps22
  go_wp2_with (first | (go_at_call 57; refine (grayOf_c _ (by omega) (by omega) _).mono ?_; rintro e w1 ⟨rfl, rfl⟩) | (go_at_call 47; refine (within_c _ _ _ _).mono ?_; rintro e w1 ⟨rfl, rfl⟩))
  go_returns
  exact ⟨ret_eq (by rw [HV.out, HK.out]; simp), by go_grown⟩

theorem sEncode_c (h : Int) (f : Bool) (b0 : -300000 ≤ h) (b1 : h ≤ 300000) (w : World) : Calls Try.prog 23 #[.int .i64 h, .bool f] w (Gives w (.tuple #[.int .i64 (encV h f), .bool (encK h f)])) := by
  cases f
  · by_cases g0 : -1200 ≤ h ∧ h ≤ 126700
    · obtain ⟨k0, k1⟩ := g0
      by_cases g1 : (h + 1200) % 100 = 0
      · have HK := hide (show encK h false = true from by simp [encK]; omega)
        have HV := hide (show encV h false = gr ((h + 1200) / 100) from by unfold encV; rw [HK.out]; rfl)
        have q1 : (h + 1200).tmod 100 = (h + 1200) % 100 := Int.tmod_eq_emod_of_nonneg (by omega)
        have q2 : (h + 1200).tdiv 100 = (h + 1200) / 100 := Int.tdiv_eq_ediv_of_nonneg (by omega)
        go_enter Try.func23, Try.ntmps23
        go_wp2_with (first | (go_at_call 58; refine (l6Gray_c _ (by omega) (by omega) _).mono ?_; rintro e w1 ⟨rfl, rfl⟩))
        go_returns
        exact ⟨ret_eq (by rw [HV.out, HK.out]; simp), by go_grown⟩
      have HK := hide (show encK h false = false from by simp [encK]; omega)
      have HV := hide (show encV h false = 0 from by unfold encV; rw [HK.out]; rfl)
      have q1 : (h + 1200).tmod 100 = (h + 1200) % 100 := Int.tmod_eq_emod_of_nonneg (by omega)
      have q2 : (h + 1200).tdiv 100 = (h + 1200) / 100 := Int.tdiv_eq_ediv_of_nonneg (by omega)
      go_enter Try.func23, Try.ntmps23
      go_wp2_with (first | (go_at_call 58; refine (l6Gray_c _ (by omega) (by omega) _).mono ?_; rintro e w1 ⟨rfl, rfl⟩))
      go_returns
      exact ⟨ret_eq (by rw [HV.out, HK.out]; simp), by go_grown⟩
    by_cases g1 : h < -1200
    · have HK := hide (show encK h false = false from by simp [encK]; omega)
      have HV := hide (show encV h false = 0 from by unfold encV; rw [HK.out]; rfl)
      go_enter Try.func23, Try.ntmps23
      go_wp2_with (first | (go_at_call 58; refine (l6Gray_c _ (by omega) (by omega) _).mono ?_; rintro e w1 ⟨rfl, rfl⟩))
      go_returns
      exact ⟨ret_eq (by rw [HV.out, HK.out]; simp), by go_grown⟩
    by_cases g2 : (h + 1200) % 100 = 0
    · have HK := hide (show encK h false = false from by simp [encK]; omega)
      have HV := hide (show encV h false = 0 from by unfold encV; rw [HK.out]; rfl)
      have q1 : (h + 1200).tmod 100 = (h + 1200) % 100 := Int.tmod_eq_emod_of_nonneg (by omega)
      have q2 : (h + 1200).tdiv 100 = (h + 1200) / 100 := Int.tdiv_eq_ediv_of_nonneg (by omega)
      go_enter Try.func23, Try.ntmps23
      go_wp2_with (first | (go_at_call 58; refine (l6Gray_c _ (by omega) (by omega) _).mono ?_; rintro e w1 ⟨rfl, rfl⟩))
      go_returns
      exact ⟨ret_eq (by rw [HV.out, HK.out]; simp), by go_grown⟩
    have HK := hide (show encK h false = false from by simp [encK]; omega)
    have HV := hide (show encV h false = 0 from by unfold encV; rw [HK.out]; rfl)
    have q1 : (h + 1200).tmod 100 = (h + 1200) % 100 := Int.tmod_eq_emod_of_nonneg (by omega)
    have q2 : (h + 1200).tdiv 100 = (h + 1200) / 100 := Int.tdiv_eq_ediv_of_nonneg (by omega)
    go_enter Try.func23, Try.ntmps23
    go_wp2_with (first | (go_at_call 58; refine (l6Gray_c _ (by omega) (by omega) _).mono ?_; rintro e w1 ⟨rfl, rfl⟩))
    go_returns
    exact ⟨ret_eq (by rw [HV.out, HK.out]; simp), by go_grown⟩
  by_cases g0 : -1000 ≤ h ∧ h ≤ 50175
  · obtain ⟨k0, k1⟩ := g0
    by_cases g1 : (h + 1000) % 25 = 0
    · have HK := hide (show encK h true = true from by simp [encK]; omega)
      have HV := hide (show encV h true = 2048 + (h + 1000) / 25 from by unfold encV; rw [HK.out]; rfl)
      have q1 : (h + 1000).tmod 25 = (h + 1000) % 25 := Int.tmod_eq_emod_of_nonneg (by omega)
      have q2 : (h + 1000).tdiv 25 = (h + 1000) / 25 := Int.tdiv_eq_ediv_of_nonneg (by omega)
      go_enter Try.func23, Try.ntmps23
      go_wp2_with (first | (go_at_call 58; refine (l6Gray_c _ (by omega) (by omega) _).mono ?_; rintro e w1 ⟨rfl, rfl⟩))
      go_returns
      exact ⟨ret_eq (by rw [HV.out, HK.out]; simp), by go_grown⟩
    have HK := hide (show encK h true = false from by simp [encK]; omega)
    have HV := hide (show encV h true = 0 from by unfold encV; rw [HK.out]; rfl)
    have q1 : (h + 1000).tmod 25 = (h + 1000) % 25 := Int.tmod_eq_emod_of_nonneg (by omega)
    have q2 : (h + 1000).tdiv 25 = (h + 1000) / 25 := Int.tdiv_eq_ediv_of_nonneg (by omega)
    go_enter Try.func23, Try.ntmps23
    go_wp2_with (first | (go_at_call 58; refine (l6Gray_c _ (by omega) (by omega) _).mono ?_; rintro e w1 ⟨rfl, rfl⟩))
    go_returns
    exact ⟨ret_eq (by rw [HV.out, HK.out]; simp), by go_grown⟩
  by_cases g1 : h < -1000
  · have HK := hide (show encK h true = false from by simp [encK]; omega)
    have HV := hide (show encV h true = 0 from by unfold encV; rw [HK.out]; rfl)
    go_enter Try.func23, Try.ntmps23
    go_wp2_with (first | (go_at_call 58; refine (l6Gray_c _ (by omega) (by omega) _).mono ?_; rintro e w1 ⟨rfl, rfl⟩))
    go_returns
    exact ⟨ret_eq (by rw [HV.out, HK.out]; simp), by go_grown⟩
  by_cases g2 : (h + 1000) % 25 = 0
  · have HK := hide (show encK h true = false from by simp [encK]; omega)
    have HV := hide (show encV h true = 0 from by unfold encV; rw [HK.out]; rfl)
    have q1 : (h + 1000).tmod 25 = (h + 1000) % 25 := Int.tmod_eq_emod_of_nonneg (by omega)
    have q2 : (h + 1000).tdiv 25 = (h + 1000) / 25 := Int.tdiv_eq_ediv_of_nonneg (by omega)
    go_enter Try.func23, Try.ntmps23
    go_wp2_with (first | (go_at_call 58; refine (l6Gray_c _ (by omega) (by omega) _).mono ?_; rintro e w1 ⟨rfl, rfl⟩))
    go_returns
    exact ⟨ret_eq (by rw [HV.out, HK.out]; simp), by go_grown⟩
  have HK := hide (show encK h true = false from by simp [encK]; omega)
  have HV := hide (show encV h true = 0 from by unfold encV; rw [HK.out]; rfl)
  have q1 : (h + 1000).tmod 25 = (h + 1000) % 25 := Int.tmod_eq_emod_of_nonneg (by omega)
  have q2 : (h + 1000).tdiv 25 = (h + 1000) / 25 := Int.tdiv_eq_ediv_of_nonneg (by omega)
  go_enter Try.func23, Try.ntmps23
  go_wp2_with (first | (go_at_call 58; refine (l6Gray_c _ (by omega) (by omega) _).mono ?_; rintro e w1 ⟨rfl, rfl⟩))
  go_returns
  exact ⟨ret_eq (by rw [HV.out, HK.out]; simp), by go_grown⟩

theorem near_c (h : Int) (f : Bool) (b0 : -300000 ≤ h) (b1 : h ≤ 300000) (w : World) : Calls Try.prog 25 #[.int .i64 h, .bool f] w (Gives w (.tuple #[.int .i64 (nearV h f), .bool (isH h)])) := by
  rcases k9 : isH h with _ | _
  · have HN := hide (show nearV h f = 0 from by unfold nearV; rw [if_neg (by simp [k9])])
    go_enter Try.func25, Try.ntmps25
    go_wp2_with (first | (go_at_call 43; refine (isHeight_c _ _).mono ?_; rintro e w1 ⟨rfl, rfl⟩))
    go_returns
    exact ⟨ret_eq (by rw [HN.out]; simp), by go_grown⟩
  have hk9 := k9
  obtain ⟨j0, j1⟩ := wi_iff.1 hk9
  clear hk9
  cases f
  · by_cases gl : h < -1200
    · have HN := hide (show nearV h false = -1200 from by rw [near_f k9]; split <;> omega)
      go_enter Try.func25, Try.ntmps25
      go_wp2_with (first | (go_at_call 43; refine (isHeight_c _ _).mono ?_; rintro e w1 ⟨rfl, rfl⟩))
      all_goals (first | (exfalso; omega) | (go_returns; exact ⟨ret_eq (by rw [HN.out]; first | (simp; done) | (simp; omega)), by go_grown⟩))
    by_cases gh : h > 126700
    · have HN := hide (show nearV h false = 126700 from by rw [near_f k9]; split <;> omega)
      go_enter Try.func25, Try.ntmps25
      go_wp2_with (first | (go_at_call 43; refine (isHeight_c _ _).mono ?_; rintro e w1 ⟨rfl, rfl⟩))
      all_goals (first | (exfalso; omega) | (go_returns; exact ⟨ret_eq (by rw [HN.out]; first | (simp; done) | (simp; omega)), by go_grown⟩))
    have q2 : (h + 1200).tdiv 100 = (h + 1200) / 100 := Int.tdiv_eq_ediv_of_nonneg (by omega)
    by_cases g : 2 * (h - (-1200 + (h + 1200) / 100 * 100)) > 100
    · have HN := hide (show nearV h false = -1200 + (h + 1200) / 100 * 100 + 100 from by rw [near_f k9]; split <;> omega)
      go_enter Try.func25, Try.ntmps25
      go_wp2_with (first | (go_at_call 43; refine (isHeight_c _ _).mono ?_; rintro e w1 ⟨rfl, rfl⟩))
      all_goals (first | (exfalso; omega) | (go_returns; exact ⟨ret_eq (by rw [HN.out]; first | (simp; done) | (simp; omega)), by go_grown⟩))
    have HN := hide (show nearV h false = -1200 + (h + 1200) / 100 * 100 from by rw [near_f k9]; split <;> omega)
    go_enter Try.func25, Try.ntmps25
    go_wp2_with (first | (go_at_call 43; refine (isHeight_c _ _).mono ?_; rintro e w1 ⟨rfl, rfl⟩))
    all_goals (first | (exfalso; omega) | (go_returns; exact ⟨ret_eq (by rw [HN.out]; first | (simp; done) | (simp; omega)), by go_grown⟩))
  by_cases gl : h < -1000
  · have HN := hide (show nearV h true = -1000 from by rw [near_t k9]; split <;> omega)
    go_enter Try.func25, Try.ntmps25
    go_wp2_with (first | (go_at_call 43; refine (isHeight_c _ _).mono ?_; rintro e w1 ⟨rfl, rfl⟩))
    all_goals (first | (exfalso; omega) | (go_returns; exact ⟨ret_eq (by rw [HN.out]; first | (simp; done) | (simp; omega)), by go_grown⟩))
  by_cases gh : h > 50175
  · have HN := hide (show nearV h true = 50175 from by rw [near_t k9]; split <;> omega)
    go_enter Try.func25, Try.ntmps25
    go_wp2_with (first | (go_at_call 43; refine (isHeight_c _ _).mono ?_; rintro e w1 ⟨rfl, rfl⟩))
    all_goals (first | (exfalso; omega) | (go_returns; exact ⟨ret_eq (by rw [HN.out]; first | (simp; done) | (simp; omega)), by go_grown⟩))
  have q2 : (h + 1000).tdiv 25 = (h + 1000) / 25 := Int.tdiv_eq_ediv_of_nonneg (by omega)
  by_cases g : 2 * (h - (-1000 + (h + 1000) / 25 * 25)) > 25
  · have HN := hide (show nearV h true = -1000 + (h + 1000) / 25 * 25 + 25 from by rw [near_t k9]; split <;> omega)
    go_enter Try.func25, Try.ntmps25
    go_wp2_with (first | (go_at_call 43; refine (isHeight_c _ _).mono ?_; rintro e w1 ⟨rfl, rfl⟩))
    all_goals (first | (exfalso; omega) | (go_returns; exact ⟨ret_eq (by rw [HN.out]; first | (simp; done) | (simp; omega)), by go_grown⟩))
  have HN := hide (show nearV h true = -1000 + (h + 1000) / 25 * 25 from by rw [near_t k9]; split <;> omega)
  go_enter Try.func25, Try.ntmps25
  go_wp2_with (first | (go_at_call 43; refine (isHeight_c _ _).mono ?_; rintro e w1 ⟨rfl, rfl⟩))
  all_goals (first | (exfalso; omega) | (go_returns; exact ⟨ret_eq (by rw [HN.out]; first | (simp; done) | (simp; omega)), by go_grown⟩))

theorem sNear_c (h : Int) (f : Bool) (b0 : -300000 ≤ h) (b1 : h ≤ 300000) (w : World) : Calls Try.prog 36 #[.int .i64 h, .bool f] w (Gives w (.tuple #[.int .i64 (nearV h f), .bool (isH h)])) := by
  rcases k9 : isH h with _ | _
  · have HN := hide (show nearV h f = 0 from by unfold nearV; rw [if_neg (by simp [k9])])
    go_enter Try.func36, Try.ntmps36
    go_wp2_with (first | (go_at_call 41; refine (l6Height_c _ _).mono ?_; rintro e w1 ⟨rfl, rfl⟩) | (go_at_call 65; refine (least1_c _ _ _).mono ?_; rintro e w1 ⟨rfl, rfl⟩))
    go_returns
    exact ⟨ret_eq (by rw [HN.out]; simp), by go_grown⟩
  have hk9 := k9
  obtain ⟨j0, j1⟩ := wi_iff.1 hk9
  clear hk9
  cases f
  · by_cases g : h < -1200
    · have HN := hide (show nearV h false = -1200 from by rw [near_f k9, if_pos g])
      go_enter Try.func36, Try.ntmps36
      go_wp2_with (first | (go_at_call 41; refine (l6Height_c _ _).mono ?_; rintro e w1 ⟨rfl, rfl⟩) | (go_at_call 65; refine (least1_c _ _ _).mono ?_; rintro e w1 ⟨rfl, rfl⟩))
      go_returns
      exact ⟨ret_eq (by rw [HN.out]; simp), by go_grown⟩
    have HN := hide (show nearV h false = -1200 + 100 * min ((h + 1200 + 49) / 100) 1279 from by rw [near_f k9, if_neg g])
    have q2 : (h + 1200 + 49).tdiv 100 = (h + 1200 + 49) / 100 := Int.tdiv_eq_ediv_of_nonneg (by omega)
    go_enter Try.func36, Try.ntmps36
    go_wp2_with (first | (go_at_call 41; refine (l6Height_c _ _).mono ?_; rintro e w1 ⟨rfl, rfl⟩) | (go_at_call 65; refine (least1_c _ _ _).mono ?_; rintro e w1 ⟨rfl, rfl⟩))
    go_returns
    exact ⟨ret_eq (by rw [HN.out]; simp), by go_grown⟩
  by_cases g : h < -1000
  · have HN := hide (show nearV h true = -1000 from by rw [near_t k9, if_pos g])
    go_enter Try.func36, Try.ntmps36
    go_wp2_with (first | (go_at_call 41; refine (l6Height_c _ _).mono ?_; rintro e w1 ⟨rfl, rfl⟩) | (go_at_call 65; refine (least1_c _ _ _).mono ?_; rintro e w1 ⟨rfl, rfl⟩))
    go_returns
    exact ⟨ret_eq (by rw [HN.out]; simp), by go_grown⟩
  have HN := hide (show nearV h true = -1000 + 25 * min ((h + 1000 + 12) / 25) 2047 from by rw [near_t k9, if_neg g])
  have q2 : (h + 1000 + 12).tdiv 25 = (h + 1000 + 12) / 25 := Int.tdiv_eq_ediv_of_nonneg (by omega)
  go_enter Try.func36, Try.ntmps36
  go_wp2_with (first | (go_at_call 41; refine (l6Height_c _ _).mono ?_; rintro e w1 ⟨rfl, rfl⟩) | (go_at_call 65; refine (least1_c _ _ _).mono ?_; rintro e w1 ⟨rfl, rfl⟩))
  go_returns
  exact ⟨ret_eq (by rw [HN.out]; simp), by go_grown⟩

theorem gy_c (n : Int) (w : World) : Calls Try.prog 29 #[.int .i64 n] w (Gives w (.tuple #[.int .i64 (gyV n), .bool (wi n 0 2047)])) := by
  rcases h1 : wi n 0 2047 with _ | _
  · go_enter Try.func29, Try.ntmps29
    go_wp2_with (first | (go_at_call 47; refine (within_c _ _ _ _).mono ?_; rintro e w1 ⟨rfl, rfl⟩) | (go_at_call 57; refine (grayOf_c _ k0 (by omega) _).mono ?_; rintro e w1 ⟨rfl, rfl⟩))
    go_returns
    exact ⟨ret_eq (by simp [gyV, h1]), by go_grown⟩
  obtain ⟨k0, k1⟩ := wi_iff.1 h1
  go_enter Try.func29, Try.ntmps29
  go_wp2_with (first | (go_at_call 47; refine (within_c _ _ _ _).mono ?_; rintro e w1 ⟨rfl, rfl⟩) | (go_at_call 57; refine (grayOf_c _ k0 (by omega) _).mono ?_; rintro e w1 ⟨rfl, rfl⟩))
  go_returns
  exact ⟨ret_eq (by simp [gyV, h1]), by go_grown⟩

theorem sgy_c (n : Int) (w : World) : Calls Try.prog 30 #[.int .i64 n] w (Gives w (.tuple #[.int .i64 (gyV n), .bool (wi n 0 2047)])) := by
  rcases h1 : wi n 0 2047 with _ | _
  · go_enter Try.func30, Try.ntmps30
    go_wp2_with (first | (go_at_call 62; refine (l1In_c _ _ _ _).mono ?_; rintro e w1 ⟨rfl, rfl⟩) | (go_at_call 58; refine (l6Gray_c _ k0 (by omega) _).mono ?_; rintro e w1 ⟨rfl, rfl⟩))
    go_returns
    exact ⟨ret_eq (by simp [gyV, h1]), by go_grown⟩
  obtain ⟨k0, k1⟩ := wi_iff.1 h1
  go_enter Try.func30, Try.ntmps30
  go_wp2_with (first | (go_at_call 62; refine (l1In_c _ _ _ _).mono ?_; rintro e w1 ⟨rfl, rfl⟩) | (go_at_call 58; refine (l6Gray_c _ k0 (by omega) _).mono ?_; rintro e w1 ⟨rfl, rfl⟩))
  go_returns
  exact ⟨ret_eq (by simp [gyV, h1]), by go_grown⟩

theorem fy_c (n : Int) (w : World) : Calls Try.prog 31 #[.int .i64 n] w (Gives w (.tuple #[.int .i64 (fyV n), .bool (wi n 0 2047)])) := by
  rcases h1 : wi n 0 2047 with _ | _
  · go_enter Try.func31, Try.ntmps31
    go_wp2_with (first | (go_at_call 47; refine (within_c _ _ _ _).mono ?_; rintro e w1 ⟨rfl, rfl⟩) | (go_at_call 59; refine (fromGray_c _ k0 k1 _).mono ?_; rintro e w1 ⟨rfl, rfl⟩))
    go_returns
    exact ⟨ret_eq (by simp [fyV, h1]), by go_grown⟩
  obtain ⟨k0, k1⟩ := wi_iff.1 h1
  go_enter Try.func31, Try.ntmps31
  go_wp2_with (first | (go_at_call 47; refine (within_c _ _ _ _).mono ?_; rintro e w1 ⟨rfl, rfl⟩) | (go_at_call 59; refine (fromGray_c _ k0 k1 _).mono ?_; rintro e w1 ⟨rfl, rfl⟩))
  go_returns
  exact ⟨ret_eq (by simp [fyV, h1]), by go_grown⟩

theorem sDecode_c (c : Int) (w : World) : Calls Try.prog 27 #[.int .i64 c] w fun e w' => e = .returned (.tuple #[.int .i64 (decV c), .bool (wi c 2048 4095), .bool (decOk c)]) ∧ w = w' := by
  go_enter Try.func27, Try.ntmps27
  go_wp2_with (first | (go_at_call 49; refine (l6Decode_c _ _).mono ?_; rintro e w1 ⟨rfl, rfl⟩))
  all_goals (go_returns; exact ⟨ret_eq (by simp), rfl⟩)
end Go.Proofs.Ythgnnldokdddfaa
