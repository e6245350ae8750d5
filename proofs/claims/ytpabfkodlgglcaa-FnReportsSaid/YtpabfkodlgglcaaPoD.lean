/- Contracts: the data of reports. -/
import Derived.Test.YtpabfkodlgglcaaPoC
namespace Go.Proofs.Ytpabfkodlgglcaa
open Go.RowKit

theorem l7Pack_c (o : Bool) (a b : Int) (ha0 : 0 ≤ a) (ha1 : a < 100) (hb0 : 0 ≤ b) (hb1 : b < 100) (w : World) : Calls Try.prog 69 #[.agg #[.bool o, .int .i64 a, .int .i64 b]] w (Gives w (.int .i64 (pkU o a b))) := by
  cases o
  all_goals
    go_enter Try.func69, Try.ntmps69
    go_wp2
    all_goals (go_returns; exact ⟨ret_eq (by simp [pkU]), by go_grown⟩)

theorem sPack_c (o : Bool) (a b : Int) (w : World) : Calls Try.prog 33 #[.agg #[.bool o, .int .i64 a, .int .i64 b]] w (Gives w (.tuple #[.int .i64 (pkV o a b), .bool (vR o a b)])) := by
  rcases hv : vR o a b with _ | _
  rotate_left
  obtain ⟨⟨ha0, ha1⟩, hb0, hb1⟩ := vR_bd hv
  rotate_left
  focus
    go_enter Try.func33, Try.ntmps33
    go_wp2_with (first | (go_at_call 51; refine (l7Report_c _ _ _ _).mono ?_; rintro e w1 ⟨rfl, hb⟩; have hT : w1.cell? ⟨w.heap.size, 0, none⟩ = some (.bool o) ∧ w1.cell? ⟨w.heap.size, 1, none⟩ = some (.int .i64 a) ∧ w1.cell? ⟨w.heap.size, 2, none⟩ = some (.int .i64 b) ∧ Below w.heap.size w w1 := keep3 (by first | assumption | (exact hS) | (refine ⟨?_, ?_, ?_, ?_⟩ <;> (first | (simp [go_sem]; done) | (simp [go_sem, *]; done) | (go_grown; done)))) hb; (try clear hS); have hS := hT; clear hT; have hB := hS.2.2.2; have hzw := hB.size; have hz1 : w.heap.size < w1.heap.size := World.block_lt_of_cell? w1 _ (hS.1); clear hb) | (go_at_call 69; refine (l7Pack_c _ _ _ (by omega) (by omega) (by omega) (by omega) _).mono ?_; rintro e w1 ⟨rfl, hb⟩; have hT : w1.cell? ⟨w.heap.size, 0, none⟩ = some (.bool o) ∧ w1.cell? ⟨w.heap.size, 1, none⟩ = some (.int .i64 a) ∧ w1.cell? ⟨w.heap.size, 2, none⟩ = some (.int .i64 b) ∧ Below w.heap.size w w1 := keep3 (by first | assumption | (exact hS) | (refine ⟨?_, ?_, ?_, ?_⟩ <;> (first | (simp [go_sem]; done) | (simp [go_sem, *]; done) | (go_grown; done)))) hb; (try clear hS); have hS := hT; clear hT; have hB := hS.2.2.2; have hzw := hB.size; have hz1 : w.heap.size < w1.heap.size := World.block_lt_of_cell? w1 _ (hS.1); clear hb))
    go_returns
    exact ⟨ret_eq (by simp [pkV, hv]), by go_grown⟩
  go_enter Try.func33, Try.ntmps33
  go_wp2_with (first | (go_at_call 51; refine (l7Report_c _ _ _ _).mono ?_; rintro e w1 ⟨rfl, hb⟩; have hT : w1.cell? ⟨w.heap.size, 0, none⟩ = some (.bool o) ∧ w1.cell? ⟨w.heap.size, 1, none⟩ = some (.int .i64 a) ∧ w1.cell? ⟨w.heap.size, 2, none⟩ = some (.int .i64 b) ∧ Below w.heap.size w w1 := keep3 (by first | assumption | (exact hS) | (refine ⟨?_, ?_, ?_, ?_⟩ <;> (first | (simp [go_sem]; done) | (simp [go_sem, *]; done) | (go_grown; done)))) hb; (try clear hS); have hS := hT; clear hT; have hB := hS.2.2.2; have hzw := hB.size; have hz1 : w.heap.size < w1.heap.size := World.block_lt_of_cell? w1 _ (hS.1); clear hb) | (go_at_call 69; refine (l7Pack_c _ _ _ (by omega) (by omega) (by omega) (by omega) _).mono ?_; rintro e w1 ⟨rfl, hb⟩; have hT : w1.cell? ⟨w.heap.size, 0, none⟩ = some (.bool o) ∧ w1.cell? ⟨w.heap.size, 1, none⟩ = some (.int .i64 a) ∧ w1.cell? ⟨w.heap.size, 2, none⟩ = some (.int .i64 b) ∧ Below w.heap.size w w1 := keep3 (by first | assumption | (exact hS) | (refine ⟨?_, ?_, ?_, ?_⟩ <;> (first | (simp [go_sem]; done) | (simp [go_sem, *]; done) | (go_grown; done)))) hb; (try clear hS); have hS := hT; clear hT; have hB := hS.2.2.2; have hzw := hB.size; have hz1 : w.heap.size < w1.heap.size := World.block_lt_of_cell? w1 _ (hS.1); clear hb))
  all_goals (go_returns; exact ⟨ret_eq (by simp only [pkV, hv]; simp [pkU, *]), by go_grown⟩)

theorem pack_c (o : Bool) (a b : Int) (w : World) : Calls Try.prog 34 #[.agg #[.bool o, .int .i64 a, .int .i64 b]] w (Gives w (.tuple #[.int .i64 (pkV o a b), .bool (vR o a b)])) := by
  rcases hv : vR o a b with _ | _
  rotate_left
  obtain ⟨⟨ha0, ha1⟩, hb0, hb1⟩ := vR_bd hv
  rotate_left
  focus
    go_enter Try.func34, Try.ntmps34
    go_wp2_with (first | (go_at_call 19; refine (validRep_c _ _ _ _).mono ?_; rintro e w1 ⟨rfl, hb⟩; have hT : w1.cell? ⟨w.heap.size, 0, none⟩ = some (.bool o) ∧ w1.cell? ⟨w.heap.size, 1, none⟩ = some (.int .i64 a) ∧ w1.cell? ⟨w.heap.size, 2, none⟩ = some (.int .i64 b) ∧ Below w.heap.size w w1 := keep3 (by first | assumption | (exact hS) | (refine ⟨?_, ?_, ?_, ?_⟩ <;> (first | (simp [go_sem]; done) | (simp [go_sem, *]; done) | (go_grown; done)))) hb; (try clear hS); have hS := hT; clear hT; have hB := hS.2.2.2; have hzw := hB.size; have hz1 : w.heap.size < w1.heap.size := World.block_lt_of_cell? w1 _ (hS.1); clear hb))
    go_returns
    exact ⟨ret_eq (by simp [pkV, hv]), by go_grown⟩
  go_enter Try.func34, Try.ntmps34
  go_wp2_with (first | (go_at_call 19; refine (validRep_c _ _ _ _).mono ?_; rintro e w1 ⟨rfl, hb⟩; have hT : w1.cell? ⟨w.heap.size, 0, none⟩ = some (.bool o) ∧ w1.cell? ⟨w.heap.size, 1, none⟩ = some (.int .i64 a) ∧ w1.cell? ⟨w.heap.size, 2, none⟩ = some (.int .i64 b) ∧ Below w.heap.size w w1 := keep3 (by first | assumption | (exact hS) | (refine ⟨?_, ?_, ?_, ?_⟩ <;> (first | (simp [go_sem]; done) | (simp [go_sem, *]; done) | (go_grown; done)))) hb; (try clear hS); have hS := hT; clear hT; have hB := hS.2.2.2; have hzw := hB.size; have hz1 : w.heap.size < w1.heap.size := World.block_lt_of_cell? w1 _ (hS.1); clear hb))
  all_goals (go_returns; exact ⟨ret_eq (by simp only [pkV, hv]; simp [pkU, *]), by go_grown⟩)

theorem fnPackReport (o : Bool) (a b : Int) (w : World) : Calls Try.prog 6 #[.agg #[.bool o, .int .i64 a, .int .i64 b]] w (Gives w (.bool true)) := by
  go_enter Try.func6, Try.ntmps6
  go_wp2_with (first | (go_at_call 18; refine (toReport_c _ _ _ _).mono ?_; rintro e w1 ⟨rfl, hb⟩; have hT : w1.cell? ⟨w.heap.size, 0, none⟩ = some (.bool o) ∧ w1.cell? ⟨w.heap.size, 1, none⟩ = some (.int .i64 a) ∧ w1.cell? ⟨w.heap.size, 2, none⟩ = some (.int .i64 b) ∧ Below w.heap.size w w1 := keep3 (by first | assumption | (exact hS) | (refine ⟨?_, ?_, ?_, ?_⟩ <;> (first | (simp [go_sem]; done) | (simp [go_sem, *]; done) | (go_grown; done)))) hb; (try clear hS); have hS := hT; clear hT; have hB := hS.2.2.2; have hzw := hB.size; have hz1 : w.heap.size < w1.heap.size := World.block_lt_of_cell? w1 _ (hS.1); clear hb) | (go_at_call 33; refine (sPack_c _ _ _ _).mono ?_; rintro e w1 ⟨rfl, hb⟩; have hT : w1.cell? ⟨w.heap.size, 0, none⟩ = some (.bool o) ∧ w1.cell? ⟨w.heap.size, 1, none⟩ = some (.int .i64 a) ∧ w1.cell? ⟨w.heap.size, 2, none⟩ = some (.int .i64 b) ∧ Below w.heap.size w w1 := keep3 (by first | assumption | (exact hS) | (refine ⟨?_, ?_, ?_, ?_⟩ <;> (first | (simp [go_sem]; done) | (simp [go_sem, *]; done) | (go_grown; done)))) hb; (try clear hS); have hS := hT; clear hT; have hB := hS.2.2.2; have hzw := hB.size; have hz1 : w.heap.size < w1.heap.size := World.block_lt_of_cell? w1 _ (hS.1); clear hb) | (go_at_call 34; refine (pack_c _ _ _ _).mono ?_; rintro e w1 ⟨rfl, hb⟩; have hT : w1.cell? ⟨w.heap.size, 0, none⟩ = some (.bool o) ∧ w1.cell? ⟨w.heap.size, 1, none⟩ = some (.int .i64 a) ∧ w1.cell? ⟨w.heap.size, 2, none⟩ = some (.int .i64 b) ∧ Below w.heap.size w w1 := keep3 (by first | assumption | (exact hS) | (refine ⟨?_, ?_, ?_, ?_⟩ <;> (first | (simp [go_sem]; done) | (simp [go_sem, *]; done) | (go_grown; done)))) hb; (try clear hS); have hS := hT; clear hT; have hB := hS.2.2.2; have hzw := hB.size; have hz1 : w.heap.size < w1.heap.size := World.block_lt_of_cell? w1 _ (hS.1); clear hb))
  all_goals (go_returns; exact ⟨ret_eq (by rfl), by go_grown⟩)

theorem fnReportOf (x y : Int) (o : Bool) (w : World) : Calls Try.prog 8 #[.agg #[.int .i64 x, .int .i64 y], .bool o] w (Gives w (.bool true)) := by
  go_enter Try.func8, Try.ntmps8
  go_wp2_with fail
  refine (toPlace_c x y _).mono ?_
  rintro e w1 ⟨rfl, hb⟩
  have hT : w1.cell? ⟨w.heap.size, 0, none⟩ = some (.int .i64 x) ∧ w1.cell? ⟨w.heap.size, 1, none⟩ = some (.int .i64 y) ∧ Below w.heap.size w w1 := keep2 (by first | assumption | (exact hS) | (refine ⟨?_, ?_, ?_⟩ <;> (first | (simp [go_sem]; done) | (simp [go_sem, *]; done) | (go_grown; done)))) hb
  (try clear hS)
  have hS := hT
  clear hT
  have hB := hS.2.2
  have hzw : w.heap.size ≤ w1.heap.size := hB.size
  have hz1 : w.heap.size < w1.heap.size := World.block_lt_of_cell? w1 _ (hS.1)
  clear hb
  go_wp2_with fail
  refine (sReportOf_c x y o _).mono ?_
  rintro e w2 ⟨rfl, hb⟩
  have hT : w2.cell? ⟨w.heap.size, 0, none⟩ = some (.int .i64 x) ∧ w2.cell? ⟨w.heap.size, 1, none⟩ = some (.int .i64 y) ∧ Below w.heap.size w w2 := keep2 (by first | assumption | (exact hS) | (refine ⟨?_, ?_, ?_⟩ <;> (first | (simp [go_sem]; done) | (simp [go_sem, *]; done) | (go_grown; done)))) hb
  (try clear hS)
  have hS := hT
  clear hT
  have hB := hS.2.2
  have hzw : w.heap.size ≤ w2.heap.size := hB.size
  have hz1 : w.heap.size < w2.heap.size := World.block_lt_of_cell? w2 _ (hS.1)
  clear hb
  go_wp2_with fail
  refine (toPlace_c x y _).mono ?_
  rintro e w3 ⟨rfl, hb⟩
  have hT : w3.cell? ⟨w.heap.size, 0, none⟩ = some (.int .i64 x) ∧ w3.cell? ⟨w.heap.size, 1, none⟩ = some (.int .i64 y) ∧ w3.cell? ⟨w2.heap.size, 0, none⟩ = some (.bool (rofO x y o)) ∧ w3.cell? ⟨w2.heap.size, 1, none⟩ = some (.int .i64 (rofA x y o)) ∧ w3.cell? ⟨w2.heap.size, 2, none⟩ = some (.int .i64 (rofB x y o)) ∧ Below w.heap.size w w3 := keep5 (by first | assumption | (exact hS) | (refine ⟨?_, ?_, ?_, ?_, ?_, ?_⟩ <;> (first | (simp [go_sem]; done) | (simp [go_sem, *]; done) | (go_grown; done)))) hb
  (try clear hS)
  have hS := hT
  clear hT
  have hB := hS.2.2.2.2.2
  have hzw : w.heap.size ≤ w3.heap.size := hB.size
  have hz1 : w.heap.size < w3.heap.size := World.block_lt_of_cell? w3 _ (hS.1)
  have hz2 : w2.heap.size < w3.heap.size := World.block_lt_of_cell? w3 _ (hS.2.2.1)
  clear hb
  go_wp2_with fail
  refine (reportOf_c x y o _).mono ?_
  rintro e w4 ⟨rfl, hb⟩
  have hT : w4.cell? ⟨w2.heap.size, 0, none⟩ = some (.bool (rofO x y o)) ∧ w4.cell? ⟨w2.heap.size, 1, none⟩ = some (.int .i64 (rofA x y o)) ∧ w4.cell? ⟨w2.heap.size, 2, none⟩ = some (.int .i64 (rofB x y o)) ∧ Below w.heap.size w w4 := keep3 (by first | assumption | (exact hS) | (refine ⟨?_, ?_, ?_, ?_⟩ <;> (first | (simp [go_sem]; done) | (simp [go_sem, *]; done) | (go_grown; done)))) hb
  (try clear hS)
  have hS := hT
  clear hT
  have hB := hS.2.2.2
  have hzw : w.heap.size ≤ w4.heap.size := hB.size
  have hz1 : w2.heap.size < w4.heap.size := World.block_lt_of_cell? w4 _ (hS.1)
  clear hb
  go_wp2_with fail
  refine (eqReport_c _ _ _ _).mono ?_
  rintro e w5 ⟨rfl, hb⟩
  have hT : Below w.heap.size w w5 := keep0 (by first | assumption | go_grown) hb
  (try clear hS)
  have hS := hT
  clear hT
  have hB := hS
  have hzw : w.heap.size ≤ w5.heap.size := hB.size
  clear hb
  go_wp2
  go_returns
  exact ⟨ret_eq rfl, by go_grown⟩

theorem unpack_c (d : Int) (w : World) : Calls Try.prog 36 #[.int .i64 d] w (Gives w (.tuple #[.agg #[.bool (upO d), .int .i64 (upA d), .int .i64 (upB d)], .bool (upK d)])) := by
  rcases h1 : wi d 0 32767 with _ | _
  focus
    go_enter Try.func36, Try.ntmps36
    go_wp2_with (first | (go_at_call 52; refine (within_c _ _ _ _).mono ?_; rintro e w1 ⟨rfl, rfl⟩))
    refine bodyPost_ret (v := .tuple #[.agg #[.bool false, .int .i64 0, .int .i64 0], .bool false]) (by simp [results, Try.results36, go_sem, *]) rfl ⟨ret_eq (by simp [upO, upA, upB, upK, h1]), by go_grown⟩
  obtain ⟨hd0, hd1⟩ := wi_iff.1 h1
  have e1 : d.tmod 16384 = d % 16384 := Int.tmod_eq_emod_of_nonneg hd0
  rcases h2 : vR (decide (16384 ≤ d)) (d % 16384 / 128) (d % 128) with _ | _
  focus
    go_enter Try.func36, Try.ntmps36
    go_wp2_with (first | (go_at_call 52; refine (within_c _ _ _ _).mono ?_; rintro e w1 ⟨rfl, rfl⟩) | (go_at_call 19; refine (validRep_c _ _ _ _).mono ?_; rintro e w1 ⟨rfl, hb⟩; have hT : w1.cell? ⟨w.heap.size, 0, none⟩ = some (.bool false) ∧ w1.cell? ⟨w.heap.size, 1, none⟩ = some (.int .i64 0) ∧ w1.cell? ⟨w.heap.size, 2, none⟩ = some (.int .i64 0) ∧ w1.cell? ⟨w.heap.size + 1, 0, none⟩ = some (.bool (decide (16384 ≤ d))) ∧ w1.cell? ⟨w.heap.size + 1, 1, none⟩ = some (.int .i64 (d % 16384 / 128)) ∧ w1.cell? ⟨w.heap.size + 1, 2, none⟩ = some (.int .i64 (d % 128)) ∧ (w.heap.size < w1.heap.size ∧ ∀ i, w1.frozen? ⟨w.heap.size, i, none⟩ = false) ∧ Below w.heap.size w w1 := keep6_1 (by first | assumption | (exact hS) | (refine ⟨?_, ?_, ?_, ?_, ?_, ?_, ?_, ?_⟩ <;> (first | (simp [go_sem]; done) | (simp [go_sem, *]; done) | (go_grown; done)))) hb; (try clear hS); have hS := hT; clear hT; have hB := hS.2.2.2.2.2.2.2; have hzw := hB.size; have hz1 : w.heap.size < w1.heap.size := World.block_lt_of_cell? w1 _ (hS.1); have hz2 : w.heap.size + 1 < w1.heap.size := World.block_lt_of_cell? w1 _ (hS.2.2.2.1); clear hb))
    refine bodyPost_ret (v := .tuple #[.agg #[.bool false, .int .i64 0, .int .i64 0], .bool false]) (by simp [results, Try.results36, go_sem, *]) rfl ⟨ret_eq (by simp [upO, upA, upB, upK, h1, h2]), by go_grown⟩
  go_enter Try.func36, Try.ntmps36
  go_wp2_with (first | (go_at_call 52; refine (within_c _ _ _ _).mono ?_; rintro e w1 ⟨rfl, rfl⟩) | (go_at_call 19; refine (validRep_c _ _ _ _).mono ?_; rintro e w1 ⟨rfl, hb⟩; have hT : w1.cell? ⟨w.heap.size, 0, none⟩ = some (.bool false) ∧ w1.cell? ⟨w.heap.size, 1, none⟩ = some (.int .i64 0) ∧ w1.cell? ⟨w.heap.size, 2, none⟩ = some (.int .i64 0) ∧ w1.cell? ⟨w.heap.size + 1, 0, none⟩ = some (.bool (decide (16384 ≤ d))) ∧ w1.cell? ⟨w.heap.size + 1, 1, none⟩ = some (.int .i64 (d % 16384 / 128)) ∧ w1.cell? ⟨w.heap.size + 1, 2, none⟩ = some (.int .i64 (d % 128)) ∧ (w.heap.size < w1.heap.size ∧ ∀ i, w1.frozen? ⟨w.heap.size, i, none⟩ = false) ∧ Below w.heap.size w w1 := keep6_1 (by first | assumption | (exact hS) | (refine ⟨?_, ?_, ?_, ?_, ?_, ?_, ?_, ?_⟩ <;> (first | (simp [go_sem]; done) | (simp [go_sem, *]; done) | (go_grown; done)))) hb; (try clear hS); have hS := hT; clear hT; have hB := hS.2.2.2.2.2.2.2; have hzw := hB.size; have hz1 : w.heap.size < w1.heap.size := World.block_lt_of_cell? w1 _ (hS.1); have hz2 : w.heap.size + 1 < w1.heap.size := World.block_lt_of_cell? w1 _ (hS.2.2.2.1); clear hb))
  refine bodyPost_ret (v := .tuple #[.agg #[.bool (decide (16384 ≤ d)), .int .i64 (d % 16384 / 128), .int .i64 (d % 128)], .bool true]) (by simp [results, Try.results36, go_sem, *]) rfl ⟨ret_eq (by simp [upO, upA, upB, upK, h1, h2]), by go_grown⟩

theorem l7Unpack_c (d : Int) (w : World) : Calls Try.prog 70 #[.int .i64 d] w (Gives w (.tuple #[.agg #[.bool (upO d), .int .i64 (upA d), .int .i64 (upB d)], .bool (upK d)])) := by
  rcases h1 : wi d 0 32767 with _ | _
  focus
    go_enter Try.func70, Try.ntmps70
    go_wp2_with (first | (go_at_call 63; refine (l1In_c _ _ _ _).mono ?_; rintro e w1 ⟨rfl, rfl⟩))
    refine bodyPost_ret (v := .tuple #[.agg #[.bool false, .int .i64 0, .int .i64 0], .bool false]) (by simp [results, Try.results70, go_sem, *]) rfl ⟨ret_eq (by simp [upO, upA, upB, upK, h1]), by go_grown⟩
  obtain ⟨hd0, hd1⟩ := wi_iff.1 h1
  have e1 : d.tmod 16384 = d % 16384 := Int.tmod_eq_emod_of_nonneg hd0
  rcases h2 : vR (decide (16384 ≤ d)) (d % 16384 / 128) (d % 128) with _ | _
  focus
    go_enter Try.func70, Try.ntmps70
    go_wp2_with (first | (go_at_call 63; refine (l1In_c _ _ _ _).mono ?_; rintro e w1 ⟨rfl, rfl⟩) | (go_at_call 51; refine (l7Report_c _ _ _ _).mono ?_; rintro e w1 ⟨rfl, hb⟩; have hT : w1.cell? ⟨w.heap.size, 0, none⟩ = some (.bool false) ∧ w1.cell? ⟨w.heap.size, 1, none⟩ = some (.int .i64 0) ∧ w1.cell? ⟨w.heap.size, 2, none⟩ = some (.int .i64 0) ∧ w1.cell? ⟨w.heap.size + 1, 0, none⟩ = some (.bool (decide (16384 ≤ d))) ∧ w1.cell? ⟨w.heap.size + 1, 1, none⟩ = some (.int .i64 (d % 16384 / 128)) ∧ w1.cell? ⟨w.heap.size + 1, 2, none⟩ = some (.int .i64 (d % 128)) ∧ (w.heap.size < w1.heap.size ∧ ∀ i, w1.frozen? ⟨w.heap.size, i, none⟩ = false) ∧ Below w.heap.size w w1 := keep6_1 (by first | assumption | (exact hS) | (refine ⟨?_, ?_, ?_, ?_, ?_, ?_, ?_, ?_⟩ <;> (first | (simp [go_sem]; done) | (simp [go_sem, *]; done) | (go_grown; done)))) hb; (try clear hS); have hS := hT; clear hT; have hB := hS.2.2.2.2.2.2.2; have hzw := hB.size; have hz1 : w.heap.size < w1.heap.size := World.block_lt_of_cell? w1 _ (hS.1); have hz2 : w.heap.size + 1 < w1.heap.size := World.block_lt_of_cell? w1 _ (hS.2.2.2.1); clear hb))
    refine bodyPost_ret (v := .tuple #[.agg #[.bool false, .int .i64 0, .int .i64 0], .bool false]) (by simp [results, Try.results70, go_sem, *]) rfl ⟨ret_eq (by simp [upO, upA, upB, upK, h1, h2]), by go_grown⟩
  go_enter Try.func70, Try.ntmps70
  go_wp2_with (first | (go_at_call 63; refine (l1In_c _ _ _ _).mono ?_; rintro e w1 ⟨rfl, rfl⟩) | (go_at_call 51; refine (l7Report_c _ _ _ _).mono ?_; rintro e w1 ⟨rfl, hb⟩; have hT : w1.cell? ⟨w.heap.size, 0, none⟩ = some (.bool false) ∧ w1.cell? ⟨w.heap.size, 1, none⟩ = some (.int .i64 0) ∧ w1.cell? ⟨w.heap.size, 2, none⟩ = some (.int .i64 0) ∧ w1.cell? ⟨w.heap.size + 1, 0, none⟩ = some (.bool (decide (16384 ≤ d))) ∧ w1.cell? ⟨w.heap.size + 1, 1, none⟩ = some (.int .i64 (d % 16384 / 128)) ∧ w1.cell? ⟨w.heap.size + 1, 2, none⟩ = some (.int .i64 (d % 128)) ∧ (w.heap.size < w1.heap.size ∧ ∀ i, w1.frozen? ⟨w.heap.size, i, none⟩ = false) ∧ Below w.heap.size w w1 := keep6_1 (by first | assumption | (exact hS) | (refine ⟨?_, ?_, ?_, ?_, ?_, ?_, ?_, ?_⟩ <;> (first | (simp [go_sem]; done) | (simp [go_sem, *]; done) | (go_grown; done)))) hb; (try clear hS); have hS := hT; clear hT; have hB := hS.2.2.2.2.2.2.2; have hzw := hB.size; have hz1 : w.heap.size < w1.heap.size := World.block_lt_of_cell? w1 _ (hS.1); have hz2 : w.heap.size + 1 < w1.heap.size := World.block_lt_of_cell? w1 _ (hS.2.2.2.1); clear hb))
  refine bodyPost_ret (v := .tuple #[.agg #[.bool (decide (16384 ≤ d)), .int .i64 (d % 16384 / 128), .int .i64 (d % 128)], .bool true]) (by simp [results, Try.results70, go_sem, *]) rfl ⟨ret_eq (by simp [upO, upA, upB, upK, h1, h2]), by go_grown⟩

theorem sUnpack_c (d : Int) (w : World) : Calls Try.prog 35 #[.int .i64 d] w (Gives w (.tuple #[.agg #[.bool (upO d), .int .i64 (upA d), .int .i64 (upB d)], .bool (upK d)])) := by
  go_enter Try.func35, Try.ntmps35
  go_wp2_with (first | (go_at_call 70; refine (l7Unpack_c _ _).mono ?_; rintro e w1 ⟨rfl, hb⟩; have hT : w1.cell? ⟨w.heap.size, 0, none⟩ = some (.bool false) ∧ w1.cell? ⟨w.heap.size, 1, none⟩ = some (.int .i64 0) ∧ w1.cell? ⟨w.heap.size, 2, none⟩ = some (.int .i64 0) ∧ (w.heap.size < w1.heap.size ∧ ∀ i, w1.frozen? ⟨w.heap.size, i, none⟩ = false) ∧ Below w.heap.size w w1 := keep3_1 (by first | assumption | (exact hS) | (refine ⟨?_, ?_, ?_, ?_, ?_⟩ <;> (first | (simp [go_sem]; done) | (simp [go_sem, *]; done) | (go_grown; done)))) hb; (try clear hS); have hS := hT; clear hT; have hB := hS.2.2.2.2; have hzw := hB.size; have hz1 : w.heap.size < w1.heap.size := World.block_lt_of_cell? w1 _ (hS.1); clear hb))
  refine bodyPost_ret (v := .tuple #[.agg #[.bool (upO d), .int .i64 (upA d), .int .i64 (upB d)], .bool (upK d)]) (by simp [results, Try.results35, go_sem, *]) rfl ⟨ret_eq (rfl), by go_grown⟩

theorem fnUnpackReport (d : Int) (w : World) : Calls Try.prog 7 #[.int .i64 d] w (Gives w (.bool true)) := by
  go_enter Try.func7, Try.ntmps7
  go_wp2_with fail
  refine (sUnpack_c d _).mono ?_
  rintro e w1 ⟨rfl, hb⟩
  have hT : Below w.heap.size w w1 := keep0 (by first | assumption | go_grown) hb
  (try clear hS)
  have hS := hT
  clear hT
  have hB := hS
  have hzw : w.heap.size ≤ w1.heap.size := hB.size
  clear hb
  go_wp2_with fail
  refine (unpack_c d _).mono ?_
  rintro e w2 ⟨rfl, hb⟩
  have hT : w2.cell? ⟨w1.heap.size, 0, none⟩ = some (.bool (upO d)) ∧ w2.cell? ⟨w1.heap.size, 1, none⟩ = some (.int .i64 (upA d)) ∧ w2.cell? ⟨w1.heap.size, 2, none⟩ = some (.int .i64 (upB d)) ∧ Below w.heap.size w w2 := keep3 (by first | assumption | (exact hS) | (refine ⟨?_, ?_, ?_, ?_⟩ <;> (first | (simp [go_sem]; done) | (simp [go_sem, *]; done) | (go_grown; done)))) hb
  (try clear hS)
  have hS := hT
  clear hT
  have hB := hS.2.2.2
  have hzw : w.heap.size ≤ w2.heap.size := hB.size
  have hz1 : w1.heap.size < w2.heap.size := World.block_lt_of_cell? w2 _ (hS.1)
  clear hb
  go_wp2_with fail
  refine (eqReport_c _ _ _ _).mono ?_
  rintro e w3 ⟨rfl, hb⟩
  have hT : Below w.heap.size w w3 := keep0 (by first | assumption | go_grown) hb
  (try clear hS)
  have hS := hT
  clear hT
  have hB := hS
  have hzw : w.heap.size ≤ w3.heap.size := hB.size
  clear hb
  go_wp2
  go_returns
  exact ⟨ret_eq rfl, by go_grown⟩
end Go.Proofs.Ytpabfkodlgglcaa
