/- Contracts of the small functions under sites. -/
import Derived.Test.YtnocgcfepkdjeaaBase
import Derived.Test.YtnocgcfepkdjeaaSiMath
import Derived.Test.YtnocgcfepkdjeaaFloat
import Derived.Test.YtnocgcfepkdjeaaProg
namespace Go.Proofs.Ytnocgcfepkdjeaa
open Go.RowKit

theorem within_c (n a b : Int) (w : World) : Calls Try.prog 95 #[.int .i64 n, .int .i64 a, .int .i64 b] w fun e w' => e = .returned (.bool (wi n a b)) ∧ w = w' := by
  go_enter Try.func95, Try.ntmps95
  go_wp2
  all_goals (go_returns; exact ⟨ret_eq (by first | (simp [wi, *]; done) | (simp [wi, *]; omega)), rfl⟩)

theorem l1In_c (n a b : Int) (w : World) : Calls Try.prog 96 #[.int .i64 n, .int .i64 a, .int .i64 b] w fun e w' => e = .returned (.bool (wi n a b)) ∧ w = w' := by
  go_enter Try.func96, Try.ntmps96
  go_wp2
  all_goals (go_returns; exact ⟨ret_eq (by first | (simp [wi, *]; done) | (simp [wi, *]; omega)), rfl⟩)

theorem most_c (a b : Int) (w : World) : Calls Try.prog 99 #[.int .i64 a, .int .i64 b] w fun e w' => e = .returned (.int .i64 (max a b)) ∧ w = w' := by
  go_enter Try.func99, Try.ntmps99
  go_wp2
  all_goals (go_returns; exact ⟨ret_eq (by refine int_eq ?_; omega), rfl⟩)

theorem least1_c (a b : Int) (w : World) : Calls Try.prog 98 #[.int .i64 a, .int .i64 b] w fun e w' => e = .returned (.int .i64 (min a b)) ∧ w = w' := by
  go_enter Try.func98, Try.ntmps98
  go_wp2
  all_goals (go_returns; exact ⟨ret_eq (by refine int_eq ?_; omega), rfl⟩)

theorem abs_c (n : Int) (h0 : -1000000000000 ≤ n) (h1 : n ≤ 1000000000000) (w : World) : Calls Try.prog 100 #[.int .i64 n] w fun e w' => e = .returned (.int .i64 (ab n)) ∧ w = w' := by
  go_enter Try.func100, Try.ntmps100
  go_wp2
  all_goals (go_returns; exact ⟨ret_eq (by refine int_eq ?_; unfold ab; split <;> omega), rfl⟩)

theorem l7Abs_c (n : Int) (h0 : -1000000000000 ≤ n) (h1 : n ≤ 1000000000000) (w : World) : Calls Try.prog 103 #[.int .i64 n] w fun e w' => e = .returned (.int .i64 (ab n)) ∧ w = w' := by
  go_enter Try.func103, Try.ntmps103
  go_wp2_with (first | (go_at_call 99; refine (most_c _ _ _).mono ?_; rintro e w1 ⟨rfl, rfl⟩))
  all_goals (go_returns; exact ⟨ret_eq (by refine int_eq ?_; unfold ab; split <;> omega), rfl⟩)

theorem isPoint_c (x y : Int) (w : World) : Calls Try.prog 88 #[.agg #[.int .i64 x, .int .i64 y]] w (Gives w (.bool (pt (x, y)))) := by
  cases h : wi x 0 30
  all_goals
    go_enter Try.func88, Try.ntmps88
    go_wp2_with (first | (go_at_call 95; refine (within_c _ _ _ _).mono ?_; rintro e w1 ⟨rfl, rfl⟩))
    all_goals (go_returns; exact ⟨ret_eq (by simp [pt, h]), by go_grown⟩)

theorem l10Point_c (x y : Int) (w : World) : Calls Try.prog 91 #[.agg #[.int .i64 x, .int .i64 y]] w (Gives w (.bool (pt (x, y)))) := by
  cases h : wi x 0 30
  all_goals
    go_enter Try.func91, Try.ntmps91
    go_wp2_with (first | (go_at_call 96; refine (l1In_c _ _ _ _).mono ?_; rintro e w1 ⟨rfl, rfl⟩))
    all_goals (go_returns; exact ⟨ret_eq (by simp [pt, h]), by go_grown⟩)

theorem siteDist_c (x y u v : Int) (hx0 : -1000000 ≤ x) (hx1 : x ≤ 1000000) (hy0 : -1000000 ≤ y) (hy1 : y ≤ 1000000) (hu0 : -1000000 ≤ u) (hu1 : u ≤ 1000000) (hv0 : -1000000 ≤ v) (hv1 : v ≤ 1000000) (w : World) : Calls Try.prog 94 #[.agg #[.int .i64 x, .int .i64 y], .agg #[.int .i64 u, .int .i64 v]] w (Gives w (.int .i64 (dst (x, y) (u, v)))) := by
  obtain ⟨b0, b1⟩ := ab_bd (n := x - u) (m := 2000000) (by omega) (by omega)
  obtain ⟨b2, b3⟩ := ab_bd (n := y - v) (m := 2000000) (by omega) (by omega)
  have ew1 : IntKind.i64.wrap (x - u) = x - u := IntWalk.i64_in _ (by omega)
  have ew2 : IntKind.i64.wrap (y - v) = y - v := IntWalk.i64_in _ (by omega)
  have ew3 : IntKind.i64.wrap (ab (x - u) + ab (y - v)) = ab (x - u) + ab (y - v) := IntWalk.i64_in _ (by omega)
  go_enter Try.func94, Try.ntmps94
  go_wp2
  refine wp_region_det (fun w' => w'.cell? ⟨w.heap.size, 0, none⟩ = some (.int .i64 x) ∧ w'.cell? ⟨w.heap.size, 1, none⟩ = some (.int .i64 y) ∧ w'.cell? ⟨w.heap.size + 1, 0, none⟩ = some (.int .i64 u) ∧ w'.cell? ⟨w.heap.size + 1, 1, none⟩ = some (.int .i64 v) ∧ Below w.heap.size w w') (by kernel_rfl) (by kernel_rfl) (by first | (with_reducible assumption) | (exact hS) | (exact ⟨hS.1, hS.2.1, hS.2.2.1, hS.2.2.2.1, (by go_grown)⟩) | (exact ⟨(by first | (with_reducible assumption) | (simp [go_sem]; done) | ((simp only [go_sem]); (with_reducible assumption)) | ((refine keep_cell ?_ (by with_reducible assumption)); go_grown; done) | (simp [go_sem, *]; done)), (by first | (with_reducible assumption) | (simp [go_sem]; done) | ((simp only [go_sem]); (with_reducible assumption)) | ((refine keep_cell ?_ (by with_reducible assumption)); go_grown; done) | (simp [go_sem, *]; done)), (by first | (with_reducible assumption) | (simp [go_sem]; done) | ((simp only [go_sem]); (with_reducible assumption)) | ((refine keep_cell ?_ (by with_reducible assumption)); go_grown; done) | (simp [go_sem, *]; done)), (by first | (with_reducible assumption) | (simp [go_sem]; done) | ((simp only [go_sem]); (with_reducible assumption)) | ((refine keep_cell ?_ (by with_reducible assumption)); go_grown; done) | (simp [go_sem, *]; done)), (by go_grown)⟩)) ?_
  repeat (first
    | ((refine wpDet_skip (by rfl) ?_); simp only [Act.put, List.setIfInBounds_toArray, List.set_cons_zero, List.set_cons_succ])
    | ((refine wpDet_val (v := ?_) (by rfl) (fun w hS => ?_) ?_); rotate_left; (focus ((try dsimp only at hS); go_simp; (try (with_reducible rfl)); done)); simp only [Act.put, List.setIfInBounds_toArray, List.set_cons_zero, List.set_cons_succ])
    | ((refine wpDet_call (v := ?_) (f := ?_) (args := ?_) (by rfl) (fun w => ?_) (fun w hS => ?_) ?_); rotate_left; rotate_left; rotate_left; (focus (go_simp; (constructor <;> (with_reducible rfl)); done)); (focus (first | (go_at_call 100; refine (abs_c _ (by omega) (by omega) _).mono ?_; intro e w' h; refine ⟨h.1.trans ?_, h.2 ▸ hS⟩; with_reducible rfl))); simp only [Act.put, List.setIfInBounds_toArray, List.set_cons_zero, List.set_cons_succ]))
  refine wpDet_nil ?_
  intro w1 hS
  have hT : w1.cell? ⟨w.heap.size, 0, none⟩ = some (.int .i64 x) ∧ w1.cell? ⟨w.heap.size, 1, none⟩ = some (.int .i64 y) ∧ w1.cell? ⟨w.heap.size + 1, 0, none⟩ = some (.int .i64 u) ∧ w1.cell? ⟨w.heap.size + 1, 1, none⟩ = some (.int .i64 v) ∧ Below w.heap.size w w1 := hS
  clear hS
  have hS := hT
  obtain ⟨c0, c1, c2, c3, hB⟩ := hT
  have hzw : w.heap.size ≤ w1.heap.size := hB.size
  have hz1 : w.heap.size < w1.heap.size := World.block_lt_of_cell? w1 _ (hS.1)
  have hz2 : w.heap.size + 1 < w1.heap.size := World.block_lt_of_cell? w1 _ (hS.2.2.1)
  go_wp2
  go_returns
  exact ⟨ret_eq rfl, hB⟩

theorem l10Dist_c (x y u v : Int) (hx0 : -1000000 ≤ x) (hx1 : x ≤ 1000000) (hy0 : -1000000 ≤ y) (hy1 : y ≤ 1000000) (hu0 : -1000000 ≤ u) (hu1 : u ≤ 1000000) (hv0 : -1000000 ≤ v) (hv1 : v ≤ 1000000) (w : World) : Calls Try.prog 104 #[.agg #[.int .i64 x, .int .i64 y], .agg #[.int .i64 u, .int .i64 v]] w (Gives w (.int .i64 (dst (x, y) (u, v)))) := by
  obtain ⟨b0, b1⟩ := ab_bd (n := x - u) (m := 2000000) (by omega) (by omega)
  obtain ⟨b2, b3⟩ := ab_bd (n := y - v) (m := 2000000) (by omega) (by omega)
  have ew1 : IntKind.i64.wrap (x - u) = x - u := IntWalk.i64_in _ (by omega)
  have ew2 : IntKind.i64.wrap (y - v) = y - v := IntWalk.i64_in _ (by omega)
  have ew3 : IntKind.i64.wrap (ab (x - u) + ab (y - v)) = ab (x - u) + ab (y - v) := IntWalk.i64_in _ (by omega)
  go_enter Try.func104, Try.ntmps104
  go_wp2
  refine wp_region_det (fun w' => w'.cell? ⟨w.heap.size, 0, none⟩ = some (.int .i64 x) ∧ w'.cell? ⟨w.heap.size, 1, none⟩ = some (.int .i64 y) ∧ w'.cell? ⟨w.heap.size + 1, 0, none⟩ = some (.int .i64 u) ∧ w'.cell? ⟨w.heap.size + 1, 1, none⟩ = some (.int .i64 v) ∧ Below w.heap.size w w') (by kernel_rfl) (by kernel_rfl) (by first | (with_reducible assumption) | (exact hS) | (exact ⟨hS.1, hS.2.1, hS.2.2.1, hS.2.2.2.1, (by go_grown)⟩) | (exact ⟨(by first | (with_reducible assumption) | (simp [go_sem]; done) | ((simp only [go_sem]); (with_reducible assumption)) | ((refine keep_cell ?_ (by with_reducible assumption)); go_grown; done) | (simp [go_sem, *]; done)), (by first | (with_reducible assumption) | (simp [go_sem]; done) | ((simp only [go_sem]); (with_reducible assumption)) | ((refine keep_cell ?_ (by with_reducible assumption)); go_grown; done) | (simp [go_sem, *]; done)), (by first | (with_reducible assumption) | (simp [go_sem]; done) | ((simp only [go_sem]); (with_reducible assumption)) | ((refine keep_cell ?_ (by with_reducible assumption)); go_grown; done) | (simp [go_sem, *]; done)), (by first | (with_reducible assumption) | (simp [go_sem]; done) | ((simp only [go_sem]); (with_reducible assumption)) | ((refine keep_cell ?_ (by with_reducible assumption)); go_grown; done) | (simp [go_sem, *]; done)), (by go_grown)⟩)) ?_
  repeat (first
    | ((refine wpDet_skip (by rfl) ?_); simp only [Act.put, List.setIfInBounds_toArray, List.set_cons_zero, List.set_cons_succ])
    | ((refine wpDet_val (v := ?_) (by rfl) (fun w hS => ?_) ?_); rotate_left; (focus ((try dsimp only at hS); go_simp; (try (with_reducible rfl)); done)); simp only [Act.put, List.setIfInBounds_toArray, List.set_cons_zero, List.set_cons_succ])
    | ((refine wpDet_call (v := ?_) (f := ?_) (args := ?_) (by rfl) (fun w => ?_) (fun w hS => ?_) ?_); rotate_left; rotate_left; rotate_left; (focus (go_simp; (constructor <;> (with_reducible rfl)); done)); (focus (first | (go_at_call 103; refine (l7Abs_c _ (by omega) (by omega) _).mono ?_; intro e w' h; refine ⟨h.1.trans ?_, h.2 ▸ hS⟩; with_reducible rfl))); simp only [Act.put, List.setIfInBounds_toArray, List.set_cons_zero, List.set_cons_succ]))
  refine wpDet_nil ?_
  intro w1 hS
  have hT : w1.cell? ⟨w.heap.size, 0, none⟩ = some (.int .i64 x) ∧ w1.cell? ⟨w.heap.size, 1, none⟩ = some (.int .i64 y) ∧ w1.cell? ⟨w.heap.size + 1, 0, none⟩ = some (.int .i64 u) ∧ w1.cell? ⟨w.heap.size + 1, 1, none⟩ = some (.int .i64 v) ∧ Below w.heap.size w w1 := hS
  clear hS
  have hS := hT
  obtain ⟨c0, c1, c2, c3, hB⟩ := hT
  have hzw : w.heap.size ≤ w1.heap.size := hB.size
  have hz1 : w.heap.size < w1.heap.size := World.block_lt_of_cell? w1 _ (hS.1)
  have hz2 : w.heap.size + 1 < w1.heap.size := World.block_lt_of_cell? w1 _ (hS.2.2.1)
  go_wp2
  go_returns
  exact ⟨ret_eq rfl, hB⟩

theorem isReach_c (n : Int) (w : World) : Calls Try.prog 89 #[.int .i64 n] w fun e w' => e = .returned (.bool (wi n 0 60)) ∧ w = w' := by
  go_enter Try.func89, Try.ntmps89
  go_wp2_with (first | (go_at_call 95; refine (within_c _ _ _ _).mono ?_; rintro e w1 ⟨rfl, rfl⟩))
  all_goals (go_returns; exact ⟨ret_eq (by rfl), rfl⟩)

theorem l10Reach_c (n : Int) (w : World) : Calls Try.prog 92 #[.int .i64 n] w fun e w' => e = .returned (.bool (wi n 0 60)) ∧ w = w' := by
  go_enter Try.func92, Try.ntmps92
  go_wp2_with (first | (go_at_call 96; refine (l1In_c _ _ _ _).mono ?_; rintro e w1 ⟨rfl, rfl⟩))
  all_goals (go_returns; exact ⟨ret_eq (by rfl), rfl⟩)

theorem toSite_c (x y : Int) (w : World) : Calls Try.prog 73 #[.agg #[.int .i64 x, .int .i64 y]] w (Gives w (.agg #[.int .i64 x, .int .i64 y])) := by
  go_enter Try.func73, Try.ntmps73
  go_wp2
  all_goals (go_returns; exact ⟨ret_eq (by rfl), by go_grown⟩)

theorem eqSite_c (x y u v : Int) (w : World) : Calls Try.prog 21 #[.agg #[.int .i64 x, .int .i64 y], .agg #[.int .i64 u, .int .i64 v]] w (Gives w (.bool (peq (x, y) (u, v)))) := by
  by_cases h : x = u <;> by_cases h2 : y = v
  all_goals
    go_enter Try.func21, Try.ntmps21
    go_wp2
    all_goals (go_returns; exact ⟨ret_eq (by simp [peq, h, h2]), by go_grown⟩)

theorem eqPt_run (a b c d : Int) (W : World) : (Op.equalIn 10000 32 (.agg #[.int .i64 a, .int .i64 b]) (.agg #[.int .i64 c, .int .i64 d])).run Try.prog W = .ok (peq (a, b) (c, d)) W := by
  rw [show (10000 : Nat) = 9999 + 1 from rfl, run_equalIn_agg W 9999 32 _ _ (by kernel_rfl) (by kernel_rfl)]
  simp only [Program.fieldsOf, Try.underlying32]
  go_simp
  by_cases h1 : a = c <;> by_cases h2 : b = d <;> simp [peq, h1, h2]
theorem eqPt_bin (a b c d : Int) (W : World) : (binOp .eql 32 (.agg #[.int .i64 a, .int .i64 b]) (.agg #[.int .i64 c, .int .i64 d])).run Try.prog W = .ok (.bool (peq (a, b) (c, d))) W := by
  rw [run_eql_struct, eqPt_run]; rfl
theorem nePt_bin (a b c d : Int) (W : World) : (binOp .neq 32 (.agg #[.int .i64 a, .int .i64 b]) (.agg #[.int .i64 c, .int .i64 d])).run Try.prog W = .ok (.bool (!peq (a, b) (c, d))) W := by
  rw [run_neq_struct, eqPt_run]; rfl
end Go.Proofs.Ytnocgcfepkdjeaa
