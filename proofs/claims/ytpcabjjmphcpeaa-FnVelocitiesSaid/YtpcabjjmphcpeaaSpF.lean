/- Contracts: the whole speed. -/
import Derived.Test.YtpcabjjmphcpeaaSpB
import Derived.Test.YtpcabjjmphcpeaaWsMath
namespace Go.Proofs.Ytpcabjjmphcpeaa
open Go.RowKit

theorem whole_c (x y : Int) (w : World) : Calls Try.prog 19 #[.agg #[.int .i64 x, .int .i64 y]] w (Gives w (.tuple #[.int .i64 (ws x y), .bool (vV x y)])) := by
  rcases h1 : vV x y with _ | _
  · go_enter Try.func19, Try.ntmps19
    go_wp2_with (first | (go_at_call 17; refine (validVel_c _ _ _).mono ?_; rintro e w1 ⟨rfl, hb⟩; have hT : w1.cell? ⟨w.heap.size, 0, none⟩ = some (.int .i64 x) ∧ w1.cell? ⟨w.heap.size, 1, none⟩ = some (.int .i64 y) ∧ Below w.heap.size w w1 := keep2 (by first | assumption | (exact hS) | (refine ⟨?_, ?_, ?_⟩ <;> (first | (simp [go_sem]; done) | (simp [go_sem, *]; done) | (go_grown; done)))) hb; (try clear hS); have hS := hT; clear hT; have hB := hS.2.2; have hzw := hB.size; have hz1 : w.heap.size < w1.heap.size := World.block_lt_of_cell? w1 _ (hS.1); clear hb))
    go_returns
    exact ⟨ret_eq (by simp [ws, h1]), by go_grown⟩
  obtain ⟨q0, q1⟩ := sq_le h1
  go_enter Try.func19, Try.ntmps19
  go_wp2_with (first | (go_at_call 17; refine (validVel_c _ _ _).mono ?_; rintro e w1 ⟨rfl, hb⟩; have hT : w1.cell? ⟨w.heap.size, 0, none⟩ = some (.int .i64 x) ∧ w1.cell? ⟨w.heap.size, 1, none⟩ = some (.int .i64 y) ∧ Below w.heap.size w w1 := keep2 (by first | assumption | (exact hS) | (refine ⟨?_, ?_, ?_⟩ <;> (first | (simp [go_sem]; done) | (simp [go_sem, *]; done) | (go_grown; done)))) hb; (try clear hS); have hS := hT; clear hT; have hB := hS.2.2; have hzw := hB.size; have hz1 : w.heap.size < w1.heap.size := World.block_lt_of_cell? w1 _ (hS.1); clear hb))
  go_loopw [4] (fun iv wr => ∃ m : Int, iv = .int .i64 m ∧ 0 ≤ m ∧ m ≤ 282 ∧ Hid (m * m ≤ sq x y) ∧ wr.cell? ⟨w.heap.size, 0, none⟩ = some (.int .i64 x) ∧ wr.cell? ⟨w.heap.size, 1, none⟩ = some (.int .i64 y) ∧ Below w.heap.size w wr) (fun iv _ => (300 - intOf iv).toNat)
  case atStart => exact ⟨0, rfl, by omega, by omega, hide (by omega), hS⟩
  case round =>
    obtain ⟨m, rfl, m0, m1, m2, c0, c1, hB⟩ := hrel
    have m3 := self_nonneg (m + 1)
    have m4 := sqs_le (show 0 ≤ m + 1 by omega) (show m + 1 ≤ 283 by omega)
    have m5 : IntKind.i64.wrap ((m + 1) * (m + 1)) = (m + 1) * (m + 1) := IntWalk.i64_in _ (by omega)
    by_cases ht : (m + 1) * (m + 1) ≤ sq x y
    · have m6 := root_bd (show 0 ≤ m + 1 by omega) ht q1
      have m7 := hide ht
      go_wp2_with (first | (go_at_call 47; refine (square_c _ _ h1 _).mono ?_; rintro e w1 ⟨rfl, hb⟩; have hT : w1.cell? ⟨w.heap.size, 0, none⟩ = some (.int .i64 x) ∧ w1.cell? ⟨w.heap.size, 1, none⟩ = some (.int .i64 y) ∧ Below w.heap.size w w1 := keep2 (by first | assumption | (exact hS) | (refine ⟨?_, ?_, ?_⟩ <;> (first | (simp [go_sem]; done) | (simp [go_sem, *]; done) | (go_grown; done)))) hb; (try clear hS); have hS := hT; clear hT; have hB := hS.2.2; have hzw := hB.size; have hz1 : w.heap.size < w1.heap.size := World.block_lt_of_cell? w1 _ (hS.1); clear hb))
      go_roundw
      case rel => exact ⟨m + 1, by go_num, by omega, by omega, m7, hS⟩
      case measure => simp [intOf]; omega
    · have m7 := hide (ws_at h1 m0 m2.out ht)
      go_wp2_with (first | (go_at_call 47; refine (square_c _ _ h1 _).mono ?_; rintro e w1 ⟨rfl, hb⟩; have hT : w1.cell? ⟨w.heap.size, 0, none⟩ = some (.int .i64 x) ∧ w1.cell? ⟨w.heap.size, 1, none⟩ = some (.int .i64 y) ∧ Below w.heap.size w w1 := keep2 (by first | assumption | (exact hS) | (refine ⟨?_, ?_, ?_⟩ <;> (first | (simp [go_sem]; done) | (simp [go_sem, *]; done) | (go_grown; done)))) hb; (try clear hS); have hS := hT; clear hT; have hB := hS.2.2; have hzw := hB.size; have hz1 : w.heap.size < w1.heap.size := World.block_lt_of_cell? w1 _ (hS.1); clear hb))
      go_returns
      exact ⟨ret_eq (by rw [m7.out]; simp), by go_grown⟩

theorem sWhole_c (x y : Int) (w : World) : Calls Try.prog 18 #[.agg #[.int .i64 x, .int .i64 y]] w (Gives w (.tuple #[.int .i64 (ws x y), .bool (vV x y)])) := by
  rcases h1 : vV x y with _ | _
  · go_enter Try.func18, Try.ntmps18
    go_wp2_with (first | (go_at_call 44; refine (l8Good_c _ _ _).mono ?_; rintro e w1 ⟨rfl, hb⟩; have hT : w1.cell? ⟨w.heap.size, 0, none⟩ = some (.int .i64 x) ∧ w1.cell? ⟨w.heap.size, 1, none⟩ = some (.int .i64 y) ∧ Below w.heap.size w w1 := keep2 (by first | assumption | (exact hS) | (refine ⟨?_, ?_, ?_⟩ <;> (first | (simp [go_sem]; done) | (simp [go_sem, *]; done) | (go_grown; done)))) hb; (try clear hS); have hS := hT; clear hT; have hB := hS.2.2; have hzw := hB.size; have hz1 : w.heap.size < w1.heap.size := World.block_lt_of_cell? w1 _ (hS.1); clear hb))
    go_returns
    exact ⟨ret_eq (by simp [ws, h1]), by go_grown⟩
  obtain ⟨q0, q1⟩ := sq_le h1
  go_enter Try.func18, Try.ntmps18
  go_wp2_with (first | (go_at_call 44; refine (l8Good_c _ _ _).mono ?_; rintro e w1 ⟨rfl, hb⟩; have hT : w1.cell? ⟨w.heap.size, 0, none⟩ = some (.int .i64 x) ∧ w1.cell? ⟨w.heap.size, 1, none⟩ = some (.int .i64 y) ∧ Below w.heap.size w w1 := keep2 (by first | assumption | (exact hS) | (refine ⟨?_, ?_, ?_⟩ <;> (first | (simp [go_sem]; done) | (simp [go_sem, *]; done) | (go_grown; done)))) hb; (try clear hS); have hS := hT; clear hT; have hB := hS.2.2; have hzw := hB.size; have hz1 : w.heap.size < w1.heap.size := World.block_lt_of_cell? w1 _ (hS.1); clear hb))
  go_loopw [4] (fun iv wr => ∃ m : Int, iv = .int .i64 m ∧ 0 ≤ m ∧ m ≤ 282 ∧ Hid (m * m ≤ sq x y) ∧ wr.cell? ⟨w.heap.size, 0, none⟩ = some (.int .i64 x) ∧ wr.cell? ⟨w.heap.size, 1, none⟩ = some (.int .i64 y) ∧ Below w.heap.size w wr) (fun iv _ => (300 - intOf iv).toNat)
  case atStart => exact ⟨0, rfl, by omega, by omega, hide (by omega), hS⟩
  case round =>
    obtain ⟨m, rfl, m0, m1, m2, c0, c1, hB⟩ := hrel
    have m3 := self_nonneg (m + 1)
    have m4 := sqs_le (show 0 ≤ m + 1 by omega) (show m + 1 ≤ 283 by omega)
    have m5 : IntKind.i64.wrap ((m + 1) * (m + 1)) = (m + 1) * (m + 1) := IntWalk.i64_in _ (by omega)
    by_cases ht : (m + 1) * (m + 1) ≤ sq x y
    · have m6 := root_bd (show 0 ≤ m + 1 by omega) ht q1
      have m7 := hide ht
      go_wp2_with (first | (go_at_call 46; refine (l8Square_c _ _ h1 _).mono ?_; rintro e w1 ⟨rfl, hb⟩; have hT : w1.cell? ⟨w.heap.size, 0, none⟩ = some (.int .i64 x) ∧ w1.cell? ⟨w.heap.size, 1, none⟩ = some (.int .i64 y) ∧ Below w.heap.size w w1 := keep2 (by first | assumption | (exact hS) | (refine ⟨?_, ?_, ?_⟩ <;> (first | (simp [go_sem]; done) | (simp [go_sem, *]; done) | (go_grown; done)))) hb; (try clear hS); have hS := hT; clear hT; have hB := hS.2.2; have hzw := hB.size; have hz1 : w.heap.size < w1.heap.size := World.block_lt_of_cell? w1 _ (hS.1); clear hb))
      go_roundw
      case rel => exact ⟨m + 1, by go_num, by omega, by omega, m7, hS⟩
      case measure => simp [intOf]; omega
    · have m7 := hide (ws_at h1 m0 m2.out ht)
      go_wp2_with (first | (go_at_call 46; refine (l8Square_c _ _ h1 _).mono ?_; rintro e w1 ⟨rfl, hb⟩; have hT : w1.cell? ⟨w.heap.size, 0, none⟩ = some (.int .i64 x) ∧ w1.cell? ⟨w.heap.size, 1, none⟩ = some (.int .i64 y) ∧ Below w.heap.size w w1 := keep2 (by first | assumption | (exact hS) | (refine ⟨?_, ?_, ?_⟩ <;> (first | (simp [go_sem]; done) | (simp [go_sem, *]; done) | (go_grown; done)))) hb; (try clear hS); have hS := hT; clear hT; have hB := hS.2.2; have hzw := hB.size; have hz1 : w.heap.size < w1.heap.size := World.block_lt_of_cell? w1 _ (hS.1); clear hb))
      go_returns
      exact ⟨ret_eq (by rw [m7.out]; simp), by go_grown⟩

theorem fnWholeSpeed (x y : Int) (w : World) : Calls Try.prog 4 #[.agg #[.int .i64 x, .int .i64 y]] w (Gives w (.bool true)) := by
  go_enter Try.func4, Try.ntmps4
  go_wp2_with (first | (go_at_call 16; refine (toVel_c _ _ _).mono ?_; rintro e w1 ⟨rfl, hb⟩; have hT : w1.cell? ⟨w.heap.size, 0, none⟩ = some (.int .i64 x) ∧ w1.cell? ⟨w.heap.size, 1, none⟩ = some (.int .i64 y) ∧ Below w.heap.size w w1 := keep2 (by first | assumption | (exact hS) | (refine ⟨?_, ?_, ?_⟩ <;> (first | (simp [go_sem]; done) | (simp [go_sem, *]; done) | (go_grown; done)))) hb; (try clear hS); have hS := hT; clear hT; have hB := hS.2.2; have hzw := hB.size; have hz1 : w.heap.size < w1.heap.size := World.block_lt_of_cell? w1 _ (hS.1); clear hb) | (go_at_call 18; refine (sWhole_c _ _ _).mono ?_; rintro e w1 ⟨rfl, hb⟩; have hT : w1.cell? ⟨w.heap.size, 0, none⟩ = some (.int .i64 x) ∧ w1.cell? ⟨w.heap.size, 1, none⟩ = some (.int .i64 y) ∧ Below w.heap.size w w1 := keep2 (by first | assumption | (exact hS) | (refine ⟨?_, ?_, ?_⟩ <;> (first | (simp [go_sem]; done) | (simp [go_sem, *]; done) | (go_grown; done)))) hb; (try clear hS); have hS := hT; clear hT; have hB := hS.2.2; have hzw := hB.size; have hz1 : w.heap.size < w1.heap.size := World.block_lt_of_cell? w1 _ (hS.1); clear hb) | (go_at_call 19; refine (whole_c _ _ _).mono ?_; rintro e w1 ⟨rfl, hb⟩; have hT : w1.cell? ⟨w.heap.size, 0, none⟩ = some (.int .i64 x) ∧ w1.cell? ⟨w.heap.size, 1, none⟩ = some (.int .i64 y) ∧ Below w.heap.size w w1 := keep2 (by first | assumption | (exact hS) | (refine ⟨?_, ?_, ?_⟩ <;> (first | (simp [go_sem]; done) | (simp [go_sem, *]; done) | (go_grown; done)))) hb; (try clear hS); have hS := hT; clear hT; have hB := hS.2.2; have hzw := hB.size; have hz1 : w.heap.size < w1.heap.size := World.block_lt_of_cell? w1 _ (hS.1); clear hb))
  all_goals (go_returns; exact ⟨ret_eq (by rfl), by go_grown⟩)
end Go.Proofs.Ytpcabjjmphcpeaa
