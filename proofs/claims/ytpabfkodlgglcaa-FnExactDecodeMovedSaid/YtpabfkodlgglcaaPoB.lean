/- Contracts of the tests of places and reports; the two first laws. -/
import Derived.Test.YtpabfkodlgglcaaPoA
import Derived.Test.YtpabfkodlgglcaaRegion
namespace Go.Proofs.Ytpabfkodlgglcaa
open Go.RowKit

theorem validRep_c (o : Bool) (a b : Int) (w : World) : Calls Try.prog 19 #[.agg #[.bool o, .int .i64 a, .int .i64 b]] w (Gives w (.bool (vR o a b))) := by
  have hs := szOf_two o
  have e1 : IntKind.i64.wrap (szOf o - 1) = szOf o - 1 := IntWalk.i64_in _ (by omega)
  cases h : wi a 0 (szOf o - 1)
  all_goals
    go_enter Try.func19, Try.ntmps19
    go_wp2
    refine wp_region_det (fun w' => w'.cell? ⟨w.heap.size, 0, none⟩ = some (.bool o) ∧ w'.cell? ⟨w.heap.size, 1, none⟩ = some (.int .i64 a) ∧ w'.cell? ⟨w.heap.size, 2, none⟩ = some (.int .i64 b) ∧ Below w.heap.size w w') (by kernel_rfl) (by kernel_rfl) (by first | assumption | (exact hS) | (refine ⟨?_, ?_, ?_, ?_⟩ <;> (first | (simp [go_sem]; done) | (simp [go_sem, *]; done) | (go_grown; done)))) ?_
    repeat (first
      | ((refine wpDet_skip (by rfl) ?_); simp only [Act.put, List.setIfInBounds_toArray, List.set_cons_zero, List.set_cons_succ])
      | ((refine wpDet_val (v := ?_) (by rfl) (fun w hS => ?_) ?_); rotate_left; (focus ((try dsimp only at hS); go_simp; (try (with_reducible rfl)); done)); simp only [Act.put, List.setIfInBounds_toArray, List.set_cons_zero, List.set_cons_succ])
      | ((refine wpDet_call (v := ?_) (f := ?_) (args := ?_) (by rfl) (fun w => ?_) (fun w hS => ?_) ?_); rotate_left; rotate_left; rotate_left; (focus (go_simp; (constructor <;> (with_reducible rfl)); done)); (focus (first | (go_at_call 53; refine (size_c _ _ _ _).mono ?_; intro e w' h; refine ⟨h.1.trans ?_, keep3 hS h.2⟩; with_reducible rfl) | (go_at_call 52; refine (within_c _ _ _ _).mono ?_; intro e w' h; refine ⟨h.1.trans ?_, h.2 ▸ hS⟩; with_reducible rfl))); simp only [Act.put, List.setIfInBounds_toArray, List.set_cons_zero, List.set_cons_succ]))
    refine wpDet_nil ?_
    intro w1 hS
    have hT : w1.cell? ⟨w.heap.size, 0, none⟩ = some (.bool o) ∧ w1.cell? ⟨w.heap.size, 1, none⟩ = some (.int .i64 a) ∧ w1.cell? ⟨w.heap.size, 2, none⟩ = some (.int .i64 b) ∧ Below w.heap.size w w1 := hS
    clear hS
    have hS := hT
    obtain ⟨c0, c1, c2, hB⟩ := hT
    go_wp2
    go_ret
    exact ⟨ret_eq (by simp [vR, h]), hB⟩

theorem l7Report_c (o : Bool) (a b : Int) (w : World) : Calls Try.prog 51 #[.agg #[.bool o, .int .i64 a, .int .i64 b]] w (Gives w (.bool (vR o a b))) := by
  have hs := szOf_two o
  have e1 : IntKind.i64.wrap (szOf o - 1) = szOf o - 1 := IntWalk.i64_in _ (by omega)
  cases h : wi a 0 (szOf o - 1)
  all_goals
    go_enter Try.func51, Try.ntmps51
    go_wp2
    refine wp_region_det (fun w' => w'.cell? ⟨w.heap.size, 0, none⟩ = some (.bool o) ∧ w'.cell? ⟨w.heap.size, 1, none⟩ = some (.int .i64 a) ∧ w'.cell? ⟨w.heap.size, 2, none⟩ = some (.int .i64 b) ∧ Below w.heap.size w w') (by kernel_rfl) (by kernel_rfl) (by first | assumption | (exact hS) | (refine ⟨?_, ?_, ?_, ?_⟩ <;> (first | (simp [go_sem]; done) | (simp [go_sem, *]; done) | (go_grown; done)))) ?_
    repeat (first
      | ((refine wpDet_skip (by rfl) ?_); simp only [Act.put, List.setIfInBounds_toArray, List.set_cons_zero, List.set_cons_succ])
      | ((refine wpDet_val (v := ?_) (by rfl) (fun w hS => ?_) ?_); rotate_left; (focus ((try dsimp only at hS); go_simp; (try (with_reducible rfl)); done)); simp only [Act.put, List.setIfInBounds_toArray, List.set_cons_zero, List.set_cons_succ])
      | ((refine wpDet_call (v := ?_) (f := ?_) (args := ?_) (by rfl) (fun w => ?_) (fun w hS => ?_) ?_); rotate_left; rotate_left; rotate_left; (focus (go_simp; (constructor <;> (with_reducible rfl)); done)); (focus (first | (go_at_call 64; refine (l7Size_c _ _).mono ?_; intro e w' h; refine ⟨h.1.trans ?_, h.2 ▸ hS⟩; with_reducible rfl) | (go_at_call 63; refine (l1In_c _ _ _ _).mono ?_; intro e w' h; refine ⟨h.1.trans ?_, h.2 ▸ hS⟩; with_reducible rfl))); simp only [Act.put, List.setIfInBounds_toArray, List.set_cons_zero, List.set_cons_succ]))
    refine wpDet_nil ?_
    intro w1 hS
    have hT : w1.cell? ⟨w.heap.size, 0, none⟩ = some (.bool o) ∧ w1.cell? ⟨w.heap.size, 1, none⟩ = some (.int .i64 a) ∧ w1.cell? ⟨w.heap.size, 2, none⟩ = some (.int .i64 b) ∧ Below w.heap.size w w1 := hS
    clear hS
    have hS := hT
    obtain ⟨c0, c1, c2, hB⟩ := hT
    go_wp2
    go_ret
    exact ⟨ret_eq (by simp [vR, h]), hB⟩

theorem sValidRep_c (o : Bool) (a b : Int) (w : World) : Calls Try.prog 17 #[.agg #[.bool o, .int .i64 a, .int .i64 b]] w (Gives w (.bool (vR o a b))) := by
  go_enter Try.func17, Try.ntmps17
  go_wp2_with (first | (go_at_call 51; refine (l7Report_c _ _ _ _).mono ?_; rintro e w1 ⟨rfl, hb⟩; have hT : Below w.heap.size w w1 := keep0 (by first | assumption | go_grown) hb; (try clear hS); have hS := hT; clear hT; have hB := hS; have hzw := hB.size; clear hb))
  all_goals (go_returns; exact ⟨ret_eq (by rfl), by go_grown⟩)

theorem validPlace_c (x y : Int) (w : World) : Calls Try.prog 16 #[.agg #[.int .i64 x, .int .i64 y]] w (Gives w (.bool (vP x y))) := by
  cases h : wi x 0 9899
  all_goals
    go_enter Try.func16, Try.ntmps16
    go_wp2_with (first | (go_at_call 50; refine (inPlace_c _ _).mono ?_; rintro e w1 ⟨rfl, rfl⟩))
    all_goals (go_returns; exact ⟨ret_eq (by simp [vP, h]), by go_grown⟩)

theorem l7Good_c (x y : Int) (w : World) : Calls Try.prog 49 #[.agg #[.int .i64 x, .int .i64 y]] w (Gives w (.bool (vP x y))) := by
  cases h : wi x 0 9899
  all_goals
    go_enter Try.func49, Try.ntmps49
    go_wp2_with (first | (go_at_call 63; refine (l1In_c _ _ _ _).mono ?_; rintro e w1 ⟨rfl, rfl⟩))
    all_goals (go_returns; exact ⟨ret_eq (by simp [vP, h]), by go_grown⟩)

theorem sValidPlace_c (x y : Int) (w : World) : Calls Try.prog 14 #[.agg #[.int .i64 x, .int .i64 y]] w (Gives w (.bool (vP x y))) := by
  go_enter Try.func14, Try.ntmps14
  go_wp2_with (first | (go_at_call 49; refine (l7Good_c _ _ _).mono ?_; rintro e w1 ⟨rfl, hb⟩; have hT : Below w.heap.size w w1 := keep0 (by first | assumption | go_grown) hb; (try clear hS); have hS := hT; clear hT; have hB := hS; have hzw := hB.size; clear hb))
  all_goals (go_returns; exact ⟨ret_eq (by rfl), by go_grown⟩)

theorem toPlace_c (x y : Int) (w : World) : Calls Try.prog 15 #[.agg #[.int .i64 x, .int .i64 y]] w (Gives w (.agg #[.int .i64 x, .int .i64 y])) := by
  go_enter Try.func15, Try.ntmps15
  go_wp2
  all_goals (go_returns; exact ⟨ret_eq (by rfl), by go_grown⟩)

theorem toReport_c (o : Bool) (a b : Int) (w : World) : Calls Try.prog 18 #[.agg #[.bool o, .int .i64 a, .int .i64 b]] w (Gives w (.agg #[.bool o, .int .i64 a, .int .i64 b])) := by
  go_enter Try.func18, Try.ntmps18
  go_wp2
  all_goals (go_returns; exact ⟨ret_eq (by rfl), by go_grown⟩)

theorem eqPlace_c (x y : Int) (w : World) : Calls Try.prog 38 #[.agg #[.int .i64 x, .int .i64 y], .agg #[.int .i64 x, .int .i64 y]] w (Gives w (.bool true)) := by
  go_enter Try.func38, Try.ntmps38
  go_wp2
  all_goals (go_returns; exact ⟨ret_eq (by rfl), by go_grown⟩)

theorem eqReport_c (o : Bool) (a b : Int) (w : World) : Calls Try.prog 37 #[.agg #[.bool o, .int .i64 a, .int .i64 b], .agg #[.bool o, .int .i64 a, .int .i64 b]] w (Gives w (.bool true)) := by
  go_enter Try.func37, Try.ntmps37
  go_wp2
  all_goals (go_returns; exact ⟨ret_eq (by rfl), by go_grown⟩)

theorem fnIsValidPlace (x y : Int) (w : World) : Calls Try.prog 3 #[.agg #[.int .i64 x, .int .i64 y]] w (Gives w (.bool true)) := by
  go_enter Try.func3, Try.ntmps3
  go_wp2_with (first | (go_at_call 15; refine (toPlace_c _ _ _).mono ?_; rintro e w1 ⟨rfl, hb⟩; have hT : w1.cell? ⟨w.heap.size, 0, none⟩ = some (.int .i64 x) ∧ w1.cell? ⟨w.heap.size, 1, none⟩ = some (.int .i64 y) ∧ Below w.heap.size w w1 := keep2 (by first | assumption | (exact hS) | (refine ⟨?_, ?_, ?_⟩ <;> (first | (simp [go_sem]; done) | (simp [go_sem, *]; done) | (go_grown; done)))) hb; (try clear hS); have hS := hT; clear hT; have hB := hS.2.2; have hzw := hB.size; have hz1 : w.heap.size < w1.heap.size := World.block_lt_of_cell? w1 _ (hS.1); clear hb) | (go_at_call 14; refine (sValidPlace_c _ _ _).mono ?_; rintro e w1 ⟨rfl, hb⟩; have hT : w1.cell? ⟨w.heap.size, 0, none⟩ = some (.int .i64 x) ∧ w1.cell? ⟨w.heap.size, 1, none⟩ = some (.int .i64 y) ∧ Below w.heap.size w w1 := keep2 (by first | assumption | (exact hS) | (refine ⟨?_, ?_, ?_⟩ <;> (first | (simp [go_sem]; done) | (simp [go_sem, *]; done) | (go_grown; done)))) hb; (try clear hS); have hS := hT; clear hT; have hB := hS.2.2; have hzw := hB.size; have hz1 : w.heap.size < w1.heap.size := World.block_lt_of_cell? w1 _ (hS.1); clear hb) | (go_at_call 16; refine (validPlace_c _ _ _).mono ?_; rintro e w1 ⟨rfl, hb⟩; have hT : w1.cell? ⟨w.heap.size, 0, none⟩ = some (.int .i64 x) ∧ w1.cell? ⟨w.heap.size, 1, none⟩ = some (.int .i64 y) ∧ Below w.heap.size w w1 := keep2 (by first | assumption | (exact hS) | (refine ⟨?_, ?_, ?_⟩ <;> (first | (simp [go_sem]; done) | (simp [go_sem, *]; done) | (go_grown; done)))) hb; (try clear hS); have hS := hT; clear hT; have hB := hS.2.2; have hzw := hB.size; have hz1 : w.heap.size < w1.heap.size := World.block_lt_of_cell? w1 _ (hS.1); clear hb))
  all_goals (go_returns; exact ⟨ret_eq (by rfl), by go_grown⟩)

theorem fnIsValidReport (o : Bool) (a b : Int) (w : World) : Calls Try.prog 4 #[.agg #[.bool o, .int .i64 a, .int .i64 b]] w (Gives w (.bool true)) := by
  go_enter Try.func4, Try.ntmps4
  go_wp2_with (first | (go_at_call 18; refine (toReport_c _ _ _ _).mono ?_; rintro e w1 ⟨rfl, hb⟩; have hT : w1.cell? ⟨w.heap.size, 0, none⟩ = some (.bool o) ∧ w1.cell? ⟨w.heap.size, 1, none⟩ = some (.int .i64 a) ∧ w1.cell? ⟨w.heap.size, 2, none⟩ = some (.int .i64 b) ∧ Below w.heap.size w w1 := keep3 (by first | assumption | (exact hS) | (refine ⟨?_, ?_, ?_, ?_⟩ <;> (first | (simp [go_sem]; done) | (simp [go_sem, *]; done) | (go_grown; done)))) hb; (try clear hS); have hS := hT; clear hT; have hB := hS.2.2.2; have hzw := hB.size; have hz1 : w.heap.size < w1.heap.size := World.block_lt_of_cell? w1 _ (hS.1); clear hb) | (go_at_call 17; refine (sValidRep_c _ _ _ _).mono ?_; rintro e w1 ⟨rfl, hb⟩; have hT : w1.cell? ⟨w.heap.size, 0, none⟩ = some (.bool o) ∧ w1.cell? ⟨w.heap.size, 1, none⟩ = some (.int .i64 a) ∧ w1.cell? ⟨w.heap.size, 2, none⟩ = some (.int .i64 b) ∧ Below w.heap.size w w1 := keep3 (by first | assumption | (exact hS) | (refine ⟨?_, ?_, ?_, ?_⟩ <;> (first | (simp [go_sem]; done) | (simp [go_sem, *]; done) | (go_grown; done)))) hb; (try clear hS); have hS := hT; clear hT; have hB := hS.2.2.2; have hzw := hB.size; have hz1 : w.heap.size < w1.heap.size := World.block_lt_of_cell? w1 _ (hS.1); clear hb) | (go_at_call 19; refine (validRep_c _ _ _ _).mono ?_; rintro e w1 ⟨rfl, hb⟩; have hT : w1.cell? ⟨w.heap.size, 0, none⟩ = some (.bool o) ∧ w1.cell? ⟨w.heap.size, 1, none⟩ = some (.int .i64 a) ∧ w1.cell? ⟨w.heap.size, 2, none⟩ = some (.int .i64 b) ∧ Below w.heap.size w w1 := keep3 (by first | assumption | (exact hS) | (refine ⟨?_, ?_, ?_, ?_⟩ <;> (first | (simp [go_sem]; done) | (simp [go_sem, *]; done) | (go_grown; done)))) hb; (try clear hS); have hS := hT; clear hT; have hB := hS.2.2.2; have hzw := hB.size; have hz1 : w.heap.size < w1.heap.size := World.block_lt_of_cell? w1 _ (hS.1); clear hb))
  all_goals (go_returns; exact ⟨ret_eq (by rfl), by go_grown⟩)
end Go.Proofs.Ytpabfkodlgglcaa
