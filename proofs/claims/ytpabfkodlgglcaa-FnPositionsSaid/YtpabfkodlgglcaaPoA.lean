/- Contracts of the small functions under places and reports. -/
import Derived.Test.YtpabfkodlgglcaaBase
import Derived.Test.YtpabfkodlgglcaaPoMath
import Derived.Test.YtpabfkodlgglcaaProg
namespace Go.Proofs.Ytpabfkodlgglcaa
open Go.RowKit

theorem within_c (n a b : Int) (w : World) : Calls Try.prog 52 #[.int .i64 n, .int .i64 a, .int .i64 b] w fun e w' => e = .returned (.bool (wi n a b)) ∧ w = w' := by
  go_enter Try.func52, Try.ntmps52
  go_wp2
  all_goals (go_returns; exact ⟨ret_eq (by first | (simp [wi, *]; done) | (simp [wi, *]; omega)), rfl⟩)

theorem l1In_c (n a b : Int) (w : World) : Calls Try.prog 63 #[.int .i64 n, .int .i64 a, .int .i64 b] w fun e w' => e = .returned (.bool (wi n a b)) ∧ w = w' := by
  go_enter Try.func63, Try.ntmps63
  go_wp2
  all_goals (go_returns; exact ⟨ret_eq (by first | (simp [wi, *]; done) | (simp [wi, *]; omega)), rfl⟩)

theorem inPlace_c (n : Int) (w : World) : Calls Try.prog 50 #[.int .i64 n] w fun e w' => e = .returned (.bool (wi n 0 9899)) ∧ w = w' := by
  go_enter Try.func50, Try.ntmps50
  go_wp2_with (first | (go_at_call 52; refine (within_c _ _ _ _).mono ?_; rintro e w1 ⟨rfl, rfl⟩))
  all_goals (go_returns; exact ⟨ret_eq (by rfl), rfl⟩)

theorem size_c (o : Bool) (a b : Int) (w : World) : Calls Try.prog 53 #[.agg #[.bool o, .int .i64 a, .int .i64 b]] w (Gives w (.int .i64 (szOf o))) := by
  cases o
  all_goals
    go_enter Try.func53, Try.ntmps53
    go_wp2
    all_goals (go_returns; exact ⟨ret_eq (by rfl), by go_grown⟩)

theorem l7Size_c (o : Bool) (w : World) : Calls Try.prog 64 #[.bool o] w fun e w' => e = .returned (.int .i64 (szOf o)) ∧ w = w' := by
  cases o
  all_goals
    go_enter Try.func64, Try.ntmps64
    go_wp2
    all_goals (go_returns; exact ⟨ret_eq (by rfl), rfl⟩)

theorem most_c (a b : Int) (w : World) : Calls Try.prog 72 #[.int .i64 a, .int .i64 b] w fun e w' => e = .returned (.int .i64 (max a b)) ∧ w = w' := by
  go_enter Try.func72, Try.ntmps72
  go_wp2
  all_goals (go_returns; exact ⟨ret_eq (by refine int_eq ?_; omega), rfl⟩)

theorem abs_c (n : Int) (h0 : -1000000000000 ≤ n) (h1 : n ≤ 1000000000000) (w : World) : Calls Try.prog 77 #[.int .i64 n] w fun e w' => e = .returned (.int .i64 (ab n)) ∧ w = w' := by
  go_enter Try.func77, Try.ntmps77
  go_wp2
  all_goals (go_returns; exact ⟨ret_eq (by refine int_eq ?_; unfold ab; split <;> omega), rfl⟩)

end Go.Proofs.Ytpabfkodlgglcaa
