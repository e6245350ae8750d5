/- Contracts of the tests and squares of velocities. -/
import Derived.Test.YtpcabjjmphcpeaaSpA
import Derived.Test.YtpcabjjmphcpeaaRegion
namespace Go.Proofs.Ytpcabjjmphcpeaa
open Go.RowKit

theorem validVel_c (x y : Int) (w : World) : Calls Try.prog 17 #[.agg #[.int .i64 x, .int .i64 y]] w (Gives w (.bool (vV x y))) := by
  cases h : wi x (-200) 200
  all_goals
    go_enter Try.func17, Try.ntmps17
    go_wp2_with (first | (go_at_call 45; refine (within_c _ _ _ _).mono ?_; rintro e w1 ⟨rfl, rfl⟩))
    all_goals (go_returns; exact ⟨ret_eq (by simp [vV, h]), by go_grown⟩)

theorem l8Good_c (x y : Int) (w : World) : Calls Try.prog 44 #[.agg #[.int .i64 x, .int .i64 y]] w (Gives w (.bool (vV x y))) := by
  cases h : wi x (-200) 200
  all_goals
    go_enter Try.func44, Try.ntmps44
    go_wp2_with (first | (go_at_call 55; refine (l1In_c _ _ _ _).mono ?_; rintro e w1 ⟨rfl, rfl⟩))
    all_goals (go_returns; exact ⟨ret_eq (by simp [vV, h]), by go_grown⟩)

theorem sValidVel_c (x y : Int) (w : World) : Calls Try.prog 15 #[.agg #[.int .i64 x, .int .i64 y]] w (Gives w (.bool (vV x y))) := by
  go_enter Try.func15, Try.ntmps15
  go_wp2_with (first | (go_at_call 44; refine (l8Good_c _ _ _).mono ?_; rintro e w1 ⟨rfl, hb⟩; have hT : Below w.heap.size w w1 := keep0 (by first | assumption | go_grown) hb; (try clear hS); have hS := hT; clear hT; have hB := hS; have hzw := hB.size; clear hb))
  all_goals (go_returns; exact ⟨ret_eq (by rfl), by go_grown⟩)

theorem toVel_c (x y : Int) (w : World) : Calls Try.prog 16 #[.agg #[.int .i64 x, .int .i64 y]] w (Gives w (.agg #[.int .i64 x, .int .i64 y])) := by
  go_enter Try.func16, Try.ntmps16
  go_wp2
  all_goals (go_returns; exact ⟨ret_eq (by rfl), by go_grown⟩)

theorem eqVel_c (x y : Int) (w : World) : Calls Try.prog 22 #[.agg #[.int .i64 x, .int .i64 y], .agg #[.int .i64 x, .int .i64 y]] w (Gives w (.bool true)) := by
  go_enter Try.func22, Try.ntmps22
  go_wp2
  all_goals (go_returns; exact ⟨ret_eq (by rfl), by go_grown⟩)

theorem square_c (x y : Int) (h : vV x y = true) (w : World) : Calls Try.prog 47 #[.agg #[.int .i64 x, .int .i64 y]] w (Gives w (.int .i64 (sq x y))) := by
  obtain ⟨⟨a0, a1⟩, b0, b1⟩ := sq_bd h
  have H := hide h
  clear h
  unfold sq
  go_enter Try.func47, Try.ntmps47
  go_wp2
  go_returns
  exact ⟨ret_eq rfl, by go_grown⟩

theorem l8Square_c (x y : Int) (h : vV x y = true) (w : World) : Calls Try.prog 46 #[.agg #[.int .i64 x, .int .i64 y]] w (Gives w (.int .i64 (sq x y))) := by
  obtain ⟨⟨a0, a1⟩, b0, b1⟩ := sq_bd h
  have H := hide h
  clear h
  unfold sq
  go_enter Try.func46, Try.ntmps46
  go_wp2
  go_returns
  exact ⟨ret_eq rfl, by go_grown⟩

theorem stands_c (x y : Int) (w : World) : Calls Try.prog 48 #[.agg #[.int .i64 x, .int .i64 y]] w (Gives w (.bool (stand x y))) := by
  by_cases h : x = 0 <;> by_cases h2 : y = 0
  all_goals
    go_enter Try.func48, Try.ntmps48
    go_wp2
    all_goals (go_returns; exact ⟨ret_eq (by simp [stand, h, h2]), by go_grown⟩)

theorem fnIsValidVelocity (x y : Int) (w : World) : Calls Try.prog 3 #[.agg #[.int .i64 x, .int .i64 y]] w (Gives w (.bool true)) := by
  go_enter Try.func3, Try.ntmps3
  go_wp2_with (first | (go_at_call 16; refine (toVel_c _ _ _).mono ?_; rintro e w1 ⟨rfl, hb⟩; have hT : w1.cell? ⟨w.heap.size, 0, none⟩ = some (.int .i64 x) ∧ w1.cell? ⟨w.heap.size, 1, none⟩ = some (.int .i64 y) ∧ Below w.heap.size w w1 := keep2 (by first | assumption | (exact hS) | (refine ⟨?_, ?_, ?_⟩ <;> (first | (simp [go_sem]; done) | (simp [go_sem, *]; done) | (go_grown; done)))) hb; (try clear hS); have hS := hT; clear hT; have hB := hS.2.2; have hzw := hB.size; have hz1 : w.heap.size < w1.heap.size := World.block_lt_of_cell? w1 _ (hS.1); clear hb) | (go_at_call 15; refine (sValidVel_c _ _ _).mono ?_; rintro e w1 ⟨rfl, hb⟩; have hT : w1.cell? ⟨w.heap.size, 0, none⟩ = some (.int .i64 x) ∧ w1.cell? ⟨w.heap.size, 1, none⟩ = some (.int .i64 y) ∧ Below w.heap.size w w1 := keep2 (by first | assumption | (exact hS) | (refine ⟨?_, ?_, ?_⟩ <;> (first | (simp [go_sem]; done) | (simp [go_sem, *]; done) | (go_grown; done)))) hb; (try clear hS); have hS := hT; clear hT; have hB := hS.2.2; have hzw := hB.size; have hz1 : w.heap.size < w1.heap.size := World.block_lt_of_cell? w1 _ (hS.1); clear hb) | (go_at_call 17; refine (validVel_c _ _ _).mono ?_; rintro e w1 ⟨rfl, hb⟩; have hT : w1.cell? ⟨w.heap.size, 0, none⟩ = some (.int .i64 x) ∧ w1.cell? ⟨w.heap.size, 1, none⟩ = some (.int .i64 y) ∧ Below w.heap.size w w1 := keep2 (by first | assumption | (exact hS) | (refine ⟨?_, ?_, ?_⟩ <;> (first | (simp [go_sem]; done) | (simp [go_sem, *]; done) | (go_grown; done)))) hb; (try clear hS); have hS := hT; clear hT; have hB := hS.2.2; have hzw := hB.size; have hz1 : w.heap.size < w1.heap.size := World.block_lt_of_cell? w1 _ (hS.1); clear hb))
  all_goals (go_returns; exact ⟨ret_eq (by rfl), by go_grown⟩)
end Go.Proofs.Ytpcabjjmphcpeaa
