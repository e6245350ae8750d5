/- Contracts: reports out of their data. -/
import Derived.Test.YtbeojfhakmbacaaReA
namespace Go.Proofs.Ytbeojfhakmbacaa
open Go.RowKit

theorem unpack_c (d : Int) (w : World) : Calls Try.prog 93 #[.int .i64 d] w (Gives w (.tuple #[.agg #[.bool (upO d), .int .i64 (upA d), .int .i64 (upB d)], .bool (upK d)])) := by
  rcases h1 : wi d 0 32767 with _ | _
  focus
    go_enter Try.func93, Try.ntmps93
    go_wp2_with (first | (go_at_call 63; refine (within_c _ _ _ _).mono ?_; rintro e w1 ⟨rfl, rfl⟩))
    refine bodyPost_ret (v := .tuple #[.agg #[.bool false, .int .i64 0, .int .i64 0], .bool false]) (by simp [results, Try.results93, go_sem, *]) rfl ⟨ret_eq (by simp [upO, upA, upB, upK, h1]), by go_grown⟩
  obtain ⟨hd0, hd1⟩ := wi_iff.1 h1
  have e1 : d.tmod 16384 = d % 16384 := Int.tmod_eq_emod_of_nonneg hd0
  rcases h2 : vR (decide (16384 ≤ d)) (d % 16384 / 128) (d % 128) with _ | _
  focus
    go_enter Try.func93, Try.ntmps93
    go_wp2_with (first | (go_at_call 63; refine (within_c _ _ _ _).mono ?_; rintro e w1 ⟨rfl, rfl⟩) | (go_at_call 101; refine (validRep_c _ _ _ _).mono ?_; rintro e w1 ⟨rfl, hb⟩; have hT : w1.cell? ⟨w.heap.size, 0, none⟩ = some (.bool false) ∧ w1.cell? ⟨w.heap.size, 1, none⟩ = some (.int .i64 0) ∧ w1.cell? ⟨w.heap.size, 2, none⟩ = some (.int .i64 0) ∧ w1.cell? ⟨w.heap.size + 1, 0, none⟩ = some (.bool (decide (16384 ≤ d))) ∧ w1.cell? ⟨w.heap.size + 1, 1, none⟩ = some (.int .i64 (d % 16384 / 128)) ∧ w1.cell? ⟨w.heap.size + 1, 2, none⟩ = some (.int .i64 (d % 128)) ∧ (w.heap.size < w1.heap.size ∧ ∀ i, w1.frozen? ⟨w.heap.size, i, none⟩ = false) ∧ Below w.heap.size w w1 := keep6_1 (by first | assumption | (exact hS) | (refine ⟨?_, ?_, ?_, ?_, ?_, ?_, ?_, ?_⟩ <;> (first | (simp [go_sem]; done) | (simp [go_sem, *]; done) | (go_grown; done)))) hb; (try clear hS); have hS := hT; clear hT; have hB := hS.2.2.2.2.2.2.2; have hzw := hB.size; have hz1 : w.heap.size < w1.heap.size := World.block_lt_of_cell? w1 _ (hS.1); have hz2 : w.heap.size + 1 < w1.heap.size := World.block_lt_of_cell? w1 _ (hS.2.2.2.1); clear hb))
    refine bodyPost_ret (v := .tuple #[.agg #[.bool false, .int .i64 0, .int .i64 0], .bool false]) (by simp [results, Try.results93, go_sem, *]) rfl ⟨ret_eq (by simp [upO, upA, upB, upK, h1, h2]), by go_grown⟩
  go_enter Try.func93, Try.ntmps93
  go_wp2_with (first | (go_at_call 63; refine (within_c _ _ _ _).mono ?_; rintro e w1 ⟨rfl, rfl⟩) | (go_at_call 101; refine (validRep_c _ _ _ _).mono ?_; rintro e w1 ⟨rfl, hb⟩; have hT : w1.cell? ⟨w.heap.size, 0, none⟩ = some (.bool false) ∧ w1.cell? ⟨w.heap.size, 1, none⟩ = some (.int .i64 0) ∧ w1.cell? ⟨w.heap.size, 2, none⟩ = some (.int .i64 0) ∧ w1.cell? ⟨w.heap.size + 1, 0, none⟩ = some (.bool (decide (16384 ≤ d))) ∧ w1.cell? ⟨w.heap.size + 1, 1, none⟩ = some (.int .i64 (d % 16384 / 128)) ∧ w1.cell? ⟨w.heap.size + 1, 2, none⟩ = some (.int .i64 (d % 128)) ∧ (w.heap.size < w1.heap.size ∧ ∀ i, w1.frozen? ⟨w.heap.size, i, none⟩ = false) ∧ Below w.heap.size w w1 := keep6_1 (by first | assumption | (exact hS) | (refine ⟨?_, ?_, ?_, ?_, ?_, ?_, ?_, ?_⟩ <;> (first | (simp [go_sem]; done) | (simp [go_sem, *]; done) | (go_grown; done)))) hb; (try clear hS); have hS := hT; clear hT; have hB := hS.2.2.2.2.2.2.2; have hzw := hB.size; have hz1 : w.heap.size < w1.heap.size := World.block_lt_of_cell? w1 _ (hS.1); have hz2 : w.heap.size + 1 < w1.heap.size := World.block_lt_of_cell? w1 _ (hS.2.2.2.1); clear hb))
  refine bodyPost_ret (v := .tuple #[.agg #[.bool (decide (16384 ≤ d)), .int .i64 (d % 16384 / 128), .int .i64 (d % 128)], .bool true]) (by simp [results, Try.results93, go_sem, *]) rfl ⟨ret_eq (by simp [upO, upA, upB, upK, h1, h2]), by go_grown⟩

theorem l7Unpack_c (d : Int) (w : World) : Calls Try.prog 100 #[.int .i64 d] w (Gives w (.tuple #[.agg #[.bool (upO d), .int .i64 (upA d), .int .i64 (upB d)], .bool (upK d)])) := by
  rcases h1 : wi d 0 32767 with _ | _
  focus
    go_enter Try.func100, Try.ntmps100
    go_wp2_with (first | (go_at_call 98; refine (l1In_c _ _ _ _).mono ?_; rintro e w1 ⟨rfl, rfl⟩))
    refine bodyPost_ret (v := .tuple #[.agg #[.bool false, .int .i64 0, .int .i64 0], .bool false]) (by simp [results, Try.results100, go_sem, *]) rfl ⟨ret_eq (by simp [upO, upA, upB, upK, h1]), by go_grown⟩
  obtain ⟨hd0, hd1⟩ := wi_iff.1 h1
  have e1 : d.tmod 16384 = d % 16384 := Int.tmod_eq_emod_of_nonneg hd0
  rcases h2 : vR (decide (16384 ≤ d)) (d % 16384 / 128) (d % 128) with _ | _
  focus
    go_enter Try.func100, Try.ntmps100
    go_wp2_with (first | (go_at_call 98; refine (l1In_c _ _ _ _).mono ?_; rintro e w1 ⟨rfl, rfl⟩) | (go_at_call 120; refine (l7Report_c _ _ _ _).mono ?_; rintro e w1 ⟨rfl, hb⟩; have hT : w1.cell? ⟨w.heap.size, 0, none⟩ = some (.bool false) ∧ w1.cell? ⟨w.heap.size, 1, none⟩ = some (.int .i64 0) ∧ w1.cell? ⟨w.heap.size, 2, none⟩ = some (.int .i64 0) ∧ w1.cell? ⟨w.heap.size + 1, 0, none⟩ = some (.bool (decide (16384 ≤ d))) ∧ w1.cell? ⟨w.heap.size + 1, 1, none⟩ = some (.int .i64 (d % 16384 / 128)) ∧ w1.cell? ⟨w.heap.size + 1, 2, none⟩ = some (.int .i64 (d % 128)) ∧ (w.heap.size < w1.heap.size ∧ ∀ i, w1.frozen? ⟨w.heap.size, i, none⟩ = false) ∧ Below w.heap.size w w1 := keep6_1 (by first | assumption | (exact hS) | (refine ⟨?_, ?_, ?_, ?_, ?_, ?_, ?_, ?_⟩ <;> (first | (simp [go_sem]; done) | (simp [go_sem, *]; done) | (go_grown; done)))) hb; (try clear hS); have hS := hT; clear hT; have hB := hS.2.2.2.2.2.2.2; have hzw := hB.size; have hz1 : w.heap.size < w1.heap.size := World.block_lt_of_cell? w1 _ (hS.1); have hz2 : w.heap.size + 1 < w1.heap.size := World.block_lt_of_cell? w1 _ (hS.2.2.2.1); clear hb))
    refine bodyPost_ret (v := .tuple #[.agg #[.bool false, .int .i64 0, .int .i64 0], .bool false]) (by simp [results, Try.results100, go_sem, *]) rfl ⟨ret_eq (by simp [upO, upA, upB, upK, h1, h2]), by go_grown⟩
  go_enter Try.func100, Try.ntmps100
  go_wp2_with (first | (go_at_call 98; refine (l1In_c _ _ _ _).mono ?_; rintro e w1 ⟨rfl, rfl⟩) | (go_at_call 120; refine (l7Report_c _ _ _ _).mono ?_; rintro e w1 ⟨rfl, hb⟩; have hT : w1.cell? ⟨w.heap.size, 0, none⟩ = some (.bool false) ∧ w1.cell? ⟨w.heap.size, 1, none⟩ = some (.int .i64 0) ∧ w1.cell? ⟨w.heap.size, 2, none⟩ = some (.int .i64 0) ∧ w1.cell? ⟨w.heap.size + 1, 0, none⟩ = some (.bool (decide (16384 ≤ d))) ∧ w1.cell? ⟨w.heap.size + 1, 1, none⟩ = some (.int .i64 (d % 16384 / 128)) ∧ w1.cell? ⟨w.heap.size + 1, 2, none⟩ = some (.int .i64 (d % 128)) ∧ (w.heap.size < w1.heap.size ∧ ∀ i, w1.frozen? ⟨w.heap.size, i, none⟩ = false) ∧ Below w.heap.size w w1 := keep6_1 (by first | assumption | (exact hS) | (refine ⟨?_, ?_, ?_, ?_, ?_, ?_, ?_, ?_⟩ <;> (first | (simp [go_sem]; done) | (simp [go_sem, *]; done) | (go_grown; done)))) hb; (try clear hS); have hS := hT; clear hT; have hB := hS.2.2.2.2.2.2.2; have hzw := hB.size; have hz1 : w.heap.size < w1.heap.size := World.block_lt_of_cell? w1 _ (hS.1); have hz2 : w.heap.size + 1 < w1.heap.size := World.block_lt_of_cell? w1 _ (hS.2.2.2.1); clear hb))
  refine bodyPost_ret (v := .tuple #[.agg #[.bool (decide (16384 ≤ d)), .int .i64 (d % 16384 / 128), .int .i64 (d % 128)], .bool true]) (by simp [results, Try.results100, go_sem, *]) rfl ⟨ret_eq (by simp [upO, upA, upB, upK, h1, h2]), by go_grown⟩

end Go.Proofs.Ytbeojfhakmbacaa
