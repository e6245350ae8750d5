/- Contracts of the small functions under velocities. -/
import Derived.Test.YtpcabjjmphcpeaaBase
import Derived.Test.YtpcabjjmphcpeaaSpMath
import Derived.Test.YtpcabjjmphcpeaaProg
namespace Go.Proofs.Ytpcabjjmphcpeaa
open Go.RowKit

theorem within_c (n a b : Int) (w : World) : Calls Try.prog 45 #[.int .i64 n, .int .i64 a, .int .i64 b] w fun e w' => e = .returned (.bool (wi n a b)) ∧ w = w' := by
  go_enter Try.func45, Try.ntmps45
  go_wp2
  all_goals (go_returns; exact ⟨ret_eq (by first | (simp [wi, *]; done) | (simp [wi, *]; omega)), rfl⟩)

theorem l1In_c (n a b : Int) (w : World) : Calls Try.prog 55 #[.int .i64 n, .int .i64 a, .int .i64 b] w fun e w' => e = .returned (.bool (wi n a b)) ∧ w = w' := by
  go_enter Try.func55, Try.ntmps55
  go_wp2
  all_goals (go_returns; exact ⟨ret_eq (by first | (simp [wi, *]; done) | (simp [wi, *]; omega)), rfl⟩)

theorem most_c (a b : Int) (w : World) : Calls Try.prog 70 #[.int .i64 a, .int .i64 b] w fun e w' => e = .returned (.int .i64 (max a b)) ∧ w = w' := by
  go_enter Try.func70, Try.ntmps70
  go_wp2
  all_goals (go_returns; exact ⟨ret_eq (by refine int_eq ?_; omega), rfl⟩)

theorem abs_c (n : Int) (h0 : -1000000000000 ≤ n) (h1 : n ≤ 1000000000000) (w : World) : Calls Try.prog 54 #[.int .i64 n] w fun e w' => e = .returned (.int .i64 (ab n)) ∧ w = w' := by
  go_enter Try.func54, Try.ntmps54
  go_wp2
  all_goals (go_returns; exact ⟨ret_eq (by refine int_eq ?_; unfold ab; split <;> omega), rfl⟩)

theorem l8Size_c (n : Int) (h0 : -1000000000000 ≤ n) (h1 : n ≤ 1000000000000) (w : World) : Calls Try.prog 52 #[.int .i64 n] w fun e w' => e = .returned (.int .i64 (ab n)) ∧ w = w' := by
  go_enter Try.func52, Try.ntmps52
  go_wp2_with (first | (go_at_call 70; refine (most_c _ _ _).mono ?_; rintro e w1 ⟨rfl, rfl⟩))
  all_goals (go_returns; exact ⟨ret_eq (by refine int_eq ?_; unfold ab; split <;> omega), rfl⟩)
end Go.Proofs.Ytpcabjjmphcpeaa
