/- Contracts: reports of places. -/
import Derived.Test.YtpabfkodlgglcaaPoB
namespace Go.Proofs.Ytpabfkodlgglcaa
open Go.RowKit

theorem l7Of_c (x y : Int) (o : Bool) (hx0 : 0 ≤ x) (hy0 : 0 ≤ y) (w : World) : Calls Try.prog 56 #[.agg #[.int .i64 x, .int .i64 y], .bool o] w (Gives w (.agg #[.bool o, .int .i64 (x % szOf o), .int .i64 (y % szOf o)])) := by
  have hs := szOf_two o
  have hs1 : ¬ szOf o = 0 := by omega
  have hm1 := Int.tmod_eq_emod_of_nonneg (b := szOf o) hx0
  have hm2 := Int.tmod_eq_emod_of_nonneg (b := szOf o) hy0
  go_enter Try.func56, Try.ntmps56
  go_wp2
  refine wp_region_ph [] (fun p w' => w'.cell? ⟨w.heap.size, 0, none⟩ = some (.int .i64 x) ∧ w'.cell? ⟨w.heap.size, 1, none⟩ = some (.int .i64 y) ∧ w'.cell? ⟨w.heap.size + 1, 0, none⟩ = some (if p = 0 then .bool false else .bool o) ∧ w'.cell? ⟨w.heap.size + 1, 1, none⟩ = some (if p = 0 then .int .i64 0 else .int .i64 (x % szOf o)) ∧ w'.cell? ⟨w.heap.size + 1, 2, none⟩ = some (if p = 0 then .int .i64 0 else .int .i64 (y % szOf o)) ∧ (w.heap.size + 1 < w'.heap.size ∧ ∀ i, w'.frozen? ⟨w.heap.size + 1, i, none⟩ = false) ∧ Below w.heap.size w w') (by kernel_rfl) (by kernel_rfl) (by kernel_rfl) (by first | assumption | (exact hS) | (refine ⟨?_, ?_, ?_, ?_, ?_, ?_, ?_⟩ <;> (first | (simp [go_sem]; done) | (simp [go_sem, *]; done) | (go_grown; done)))) ?_
  repeat (first
    | ((refine wpPh_skip (by rfl) (by rfl) ?_); simp only [Act.put, List.setIfInBounds_toArray, List.set_cons_zero, List.set_cons_succ])
    | ((refine wpPh_pure (v := ?_) (by rfl) (by rfl) (by rfl) (fun w => ?_) ?_); rotate_left; (focus (go_simp; (try (with_reducible rfl)); done)); simp only [Act.put, List.setIfInBounds_toArray, List.set_cons_zero, List.set_cons_succ])
    | ((refine wpPh_val (v := ?_) (by rfl) (by rfl) (by rfl) (fun w hS => ?_) ?_); rotate_left; (focus ((try dsimp only at hS); go_simp; (try (with_reducible rfl)); done)); simp only [Act.put, List.setIfInBounds_toArray, List.set_cons_zero, List.set_cons_succ])
    | ((refine wpPh_call (v := ?_) (f := ?_) (args := ?_) (by rfl) (by rfl) (by rfl) (fun w => ?_) (fun w hS => ?_) ?_); rotate_left; rotate_left; rotate_left; (focus (go_simp; (constructor <;> (with_reducible rfl)); done)); (focus (first | (go_at_call 64; refine (l7Size_c _ _).mono ?_; intro e w' h; refine ⟨h.1.trans ?_, h.2 ▸ hS⟩; with_reducible rfl))); simp only [Act.put, List.setIfInBounds_toArray, List.set_cons_zero, List.set_cons_succ])
    | ((refine wpPh_store (by rfl) (by rfl) (by rfl) (fun w hS => ?_) ?_); (focus ((try dsimp only at hS); obtain ⟨c0, c1, c2, c3, c4, c5, hB⟩ := hS; apply Exists.intro; refine And.intro ?_ ?_; (focus (go_simp; (with_reducible rfl))); ((try dsimp only); refine ⟨by simp [go_sem, *], by simp [go_sem, *], by simp [go_sem, *], by simp [go_sem, *], by simp [go_sem, *], by simp [go_sem, *], by go_grown⟩)))))
  refine wpPh_nil ?_
  intro w1 hS
  have hT : w1.cell? ⟨w.heap.size, 0, none⟩ = some (.int .i64 x) ∧ w1.cell? ⟨w.heap.size, 1, none⟩ = some (.int .i64 y) ∧ w1.cell? ⟨w.heap.size + 1, 0, none⟩ = some (.bool o) ∧ w1.cell? ⟨w.heap.size + 1, 1, none⟩ = some (.int .i64 (x % szOf o)) ∧ w1.cell? ⟨w.heap.size + 1, 2, none⟩ = some (.int .i64 (y % szOf o)) ∧ (w.heap.size + 1 < w1.heap.size ∧ ∀ i, w1.frozen? ⟨w.heap.size + 1, i, none⟩ = false) ∧ Below w.heap.size w w1 := hS
  clear hS
  have hS := hT
  obtain ⟨c0, c1, c2, c3, c4, c5, hB⟩ := hT
  go_wp2
  refine bodyPost_ret (v := .agg #[.bool o, .int .i64 (x % szOf o), .int .i64 (y % szOf o)]) (by simp [results, Try.results56, go_sem, c2, c3, c4]) rfl ⟨rfl, by go_grown⟩

theorem sReportOf_c (x y : Int) (o : Bool) (w : World) : Calls Try.prog 23 #[.agg #[.int .i64 x, .int .i64 y], .bool o] w (Gives w (.tuple #[.agg #[.bool (rofO x y o), .int .i64 (rofA x y o), .int .i64 (rofB x y o)], .bool (vP x y)])) := by
  rcases hv : vP x y with _ | _
  rotate_left
  obtain ⟨⟨hx0, hx1⟩, hy0, hy1⟩ := vP_iff.1 hv
  rotate_left
  all_goals
    go_enter Try.func23, Try.ntmps23
    go_wp2_with (first | (go_at_call 49; refine (l7Good_c _ _ _).mono ?_; rintro e w1 ⟨rfl, hb⟩; have hT : w1.cell? ⟨w.heap.size, 0, none⟩ = some (.int .i64 x) ∧ w1.cell? ⟨w.heap.size, 1, none⟩ = some (.int .i64 y) ∧ w1.cell? ⟨w.heap.size + 1, 0, none⟩ = some (.bool false) ∧ w1.cell? ⟨w.heap.size + 1, 1, none⟩ = some (.int .i64 0) ∧ w1.cell? ⟨w.heap.size + 1, 2, none⟩ = some (.int .i64 0) ∧ (w.heap.size + 1 < w1.heap.size ∧ ∀ i, w1.frozen? ⟨w.heap.size + 1, i, none⟩ = false) ∧ Below w.heap.size w w1 := keep5_1 (by first | assumption | (exact hS) | (refine ⟨?_, ?_, ?_, ?_, ?_, ?_, ?_⟩ <;> (first | (simp [go_sem]; done) | (simp [go_sem, *]; done) | (go_grown; done)))) hb; (try clear hS); have hS := hT; clear hT; have hB := hS.2.2.2.2.2.2; have hzw := hB.size; have hz1 : w.heap.size < w1.heap.size := World.block_lt_of_cell? w1 _ (hS.1); have hz2 : w.heap.size + 1 < w1.heap.size := World.block_lt_of_cell? w1 _ (hS.2.2.1); clear hb) | (go_at_call 56; refine (l7Of_c _ _ _ (by omega) (by omega) _).mono ?_; rintro e w1 ⟨rfl, hb⟩; have hT : w1.cell? ⟨w.heap.size, 0, none⟩ = some (.int .i64 x) ∧ w1.cell? ⟨w.heap.size, 1, none⟩ = some (.int .i64 y) ∧ w1.cell? ⟨w.heap.size + 1, 0, none⟩ = some (.bool false) ∧ w1.cell? ⟨w.heap.size + 1, 1, none⟩ = some (.int .i64 0) ∧ w1.cell? ⟨w.heap.size + 1, 2, none⟩ = some (.int .i64 0) ∧ (w.heap.size + 1 < w1.heap.size ∧ ∀ i, w1.frozen? ⟨w.heap.size + 1, i, none⟩ = false) ∧ Below w.heap.size w w1 := keep5_1 (by first | assumption | (exact hS) | (refine ⟨?_, ?_, ?_, ?_, ?_, ?_, ?_⟩ <;> (first | (simp [go_sem]; done) | (simp [go_sem, *]; done) | (go_grown; done)))) hb; (try clear hS); have hS := hT; clear hT; have hB := hS.2.2.2.2.2.2; have hzw := hB.size; have hz1 : w.heap.size < w1.heap.size := World.block_lt_of_cell? w1 _ (hS.1); have hz2 : w.heap.size + 1 < w1.heap.size := World.block_lt_of_cell? w1 _ (hS.2.2.1); clear hb))
  focus
    refine bodyPost_ret (v := .tuple #[.agg #[.bool false, .int .i64 0, .int .i64 0], .bool false]) (by simp [results, Try.results23, go_sem, *]) rfl ⟨ret_eq (by simp [rofO, rofA, rofB, hv]), by go_grown⟩
  focus
    refine bodyPost_ret (v := .tuple #[.agg #[.bool o, .int .i64 (x % szOf o), .int .i64 (y % szOf o)], .bool true]) (by simp [results, Try.results23, go_sem, *]) rfl ⟨ret_eq (by simp [rofO, rofA, rofB, hv]), by go_grown⟩

theorem reportOf_c (x y : Int) (o : Bool) (w : World) : Calls Try.prog 22 #[.agg #[.int .i64 x, .int .i64 y], .bool o] w (Gives w (.tuple #[.agg #[.bool (rofO x y o), .int .i64 (rofA x y o), .int .i64 (rofB x y o)], .bool (vP x y)])) := by
  rcases hv : vP x y with _ | _
  rotate_left
  obtain ⟨⟨hx0, hx1⟩, hy0, hy1⟩ := vP_iff.1 hv
  rotate_left
  focus
    go_enter Try.func22, Try.ntmps22
    go_wp2_with (first | (go_at_call 16; refine (validPlace_c _ _ _).mono ?_; rintro e w1 ⟨rfl, hb⟩; have hT : w1.cell? ⟨w.heap.size, 0, none⟩ = some (.int .i64 x) ∧ w1.cell? ⟨w.heap.size, 1, none⟩ = some (.int .i64 y) ∧ w1.cell? ⟨w.heap.size + 1, 0, none⟩ = some (.bool false) ∧ w1.cell? ⟨w.heap.size + 1, 1, none⟩ = some (.int .i64 0) ∧ w1.cell? ⟨w.heap.size + 1, 2, none⟩ = some (.int .i64 0) ∧ (w.heap.size + 1 < w1.heap.size ∧ ∀ i, w1.frozen? ⟨w.heap.size + 1, i, none⟩ = false) ∧ Below w.heap.size w w1 := keep5_1 (by first | assumption | (exact hS) | (refine ⟨?_, ?_, ?_, ?_, ?_, ?_, ?_⟩ <;> (first | (simp [go_sem]; done) | (simp [go_sem, *]; done) | (go_grown; done)))) hb; (try clear hS); have hS := hT; clear hT; have hB := hS.2.2.2.2.2.2; have hzw := hB.size; have hz1 : w.heap.size < w1.heap.size := World.block_lt_of_cell? w1 _ (hS.1); have hz2 : w.heap.size + 1 < w1.heap.size := World.block_lt_of_cell? w1 _ (hS.2.2.1); clear hb))
    refine bodyPost_ret (v := .tuple #[.agg #[.bool false, .int .i64 0, .int .i64 0], .bool false]) (by simp [results, Try.results22, go_sem, *]) rfl ⟨ret_eq (by simp [rofO, rofA, rofB, hv]), by go_grown⟩
  have hs := szOf_two o
  have hs1 : ¬ szOf o = 0 := by omega
  have hm1 := Int.tmod_eq_emod_of_nonneg (b := szOf o) hx0
  have hm2 := Int.tmod_eq_emod_of_nonneg (b := szOf o) hy0
  go_enter Try.func22, Try.ntmps22
  go_wp2_with (first | (go_at_call 16; refine (validPlace_c _ _ _).mono ?_; rintro e w1 ⟨rfl, hb⟩; have hT : w1.cell? ⟨w.heap.size, 0, none⟩ = some (.int .i64 x) ∧ w1.cell? ⟨w.heap.size, 1, none⟩ = some (.int .i64 y) ∧ w1.cell? ⟨w.heap.size + 1, 0, none⟩ = some (.bool false) ∧ w1.cell? ⟨w.heap.size + 1, 1, none⟩ = some (.int .i64 0) ∧ w1.cell? ⟨w.heap.size + 1, 2, none⟩ = some (.int .i64 0) ∧ (w.heap.size + 1 < w1.heap.size ∧ ∀ i, w1.frozen? ⟨w.heap.size + 1, i, none⟩ = false) ∧ Below w.heap.size w w1 := keep5_1 (by first | assumption | (exact hS) | (refine ⟨?_, ?_, ?_, ?_, ?_, ?_, ?_⟩ <;> (first | (simp [go_sem]; done) | (simp [go_sem, *]; done) | (go_grown; done)))) hb; (try clear hS); have hS := hT; clear hT; have hB := hS.2.2.2.2.2.2; have hzw := hB.size; have hz1 : w.heap.size < w1.heap.size := World.block_lt_of_cell? w1 _ (hS.1); have hz2 : w.heap.size + 1 < w1.heap.size := World.block_lt_of_cell? w1 _ (hS.2.2.1); clear hb))
  refine wp_region_ph [19] (fun p w' => w'.cell? ⟨w.heap.size, 0, none⟩ = some (.int .i64 x) ∧ w'.cell? ⟨w.heap.size, 1, none⟩ = some (.int .i64 y) ∧ w'.cell? ⟨w.heap.size + 1, 0, none⟩ = some (.bool false) ∧ w'.cell? ⟨w.heap.size + 1, 1, none⟩ = some (.int .i64 0) ∧ w'.cell? ⟨w.heap.size + 1, 2, none⟩ = some (.int .i64 0) ∧ w'.cell? ⟨w1.heap.size, 0, none⟩ = some (.bool o) ∧ w'.cell? ⟨w1.heap.size, 1, none⟩ = some (if p = 0 then .int .i64 0 else .int .i64 (x % szOf o)) ∧ w'.cell? ⟨w1.heap.size, 2, none⟩ = some (if p = 0 then .int .i64 0 else if p = 1 then .int .i64 0 else .int .i64 (y % szOf o)) ∧ (w.heap.size + 1 < w'.heap.size ∧ ∀ i, w'.frozen? ⟨w.heap.size + 1, i, none⟩ = false) ∧ (w1.heap.size < w'.heap.size ∧ ∀ i, w'.frozen? ⟨w1.heap.size, i, none⟩ = false) ∧ Below w.heap.size w w') (by kernel_rfl) (by kernel_rfl) (by kernel_rfl) (by first | assumption | (exact hS) | (refine ⟨?_, ?_, ?_, ?_, ?_, ?_, ?_, ?_, ?_, ?_, ?_⟩ <;> (first | (simp [go_sem]; done) | (simp [go_sem, *]; done) | (go_grown; done)))) ?_
  repeat (first
    | ((refine wpPh_skip (by rfl) (by rfl) ?_); simp only [Act.put, List.setIfInBounds_toArray, List.set_cons_zero, List.set_cons_succ])
    | ((refine wpPh_pure (v := ?_) (by rfl) (by rfl) (by rfl) (fun w => ?_) ?_); rotate_left; (focus (go_simp; (try (with_reducible rfl)); done)); simp only [Act.put, List.setIfInBounds_toArray, List.set_cons_zero, List.set_cons_succ])
    | ((refine wpPh_free (v := ?_) (by rfl) (by rfl) (by rfl) (fun q w hS => ?_) ?_); rotate_left; (focus ((try dsimp only at hS); go_simp; (try (with_reducible rfl)); done)); simp only [Act.put, List.setIfInBounds_toArray, List.set_cons_zero, List.set_cons_succ])
    | ((refine wpPh_val (v := ?_) (by rfl) (by rfl) (by rfl) (fun w hS => ?_) ?_); rotate_left; (focus ((try dsimp only at hS); go_simp; (try (with_reducible rfl)); done)); simp only [Act.put, List.setIfInBounds_toArray, List.set_cons_zero, List.set_cons_succ])
    | ((refine wpPh_call (v := ?_) (f := ?_) (args := ?_) (by rfl) (by rfl) (by rfl) (fun w => ?_) (fun w hS => ?_) ?_); rotate_left; rotate_left; rotate_left; (focus (go_simp; (constructor <;> (with_reducible rfl)); done)); (focus (first | (go_at_call 53; refine (size_c _ _ _ _).mono ?_; intro e w' h; refine ⟨h.1.trans ?_, keep8_2 hS h.2⟩; with_reducible rfl))); simp only [Act.put, List.setIfInBounds_toArray, List.set_cons_zero, List.set_cons_succ])
    | ((refine wpPh_store (by rfl) (by rfl) (by rfl) (fun w hS => ?_) ?_); (focus ((try dsimp only at hS); obtain ⟨c0, c1, c2, c3, c4, c5, c6, c7, c8, c9, hB⟩ := hS; apply Exists.intro; refine And.intro ?_ ?_; (focus (go_simp; (with_reducible rfl))); ((try dsimp only); refine ⟨by simp [go_sem, *], by simp [go_sem, *], by simp [go_sem, *], by simp [go_sem, *], by simp [go_sem, *], by simp [go_sem, *], by simp [go_sem, *], by simp [go_sem, *], by simp [go_sem, *], by simp [go_sem, *], by go_grown⟩)))))
  refine wpPh_nil ?_
  intro w2 hS
  have hT : w2.cell? ⟨w.heap.size, 0, none⟩ = some (.int .i64 x) ∧ w2.cell? ⟨w.heap.size, 1, none⟩ = some (.int .i64 y) ∧ w2.cell? ⟨w.heap.size + 1, 0, none⟩ = some (.bool false) ∧ w2.cell? ⟨w.heap.size + 1, 1, none⟩ = some (.int .i64 0) ∧ w2.cell? ⟨w.heap.size + 1, 2, none⟩ = some (.int .i64 0) ∧ w2.cell? ⟨w1.heap.size, 0, none⟩ = some (.bool o) ∧ w2.cell? ⟨w1.heap.size, 1, none⟩ = some (.int .i64 (x % szOf o)) ∧ w2.cell? ⟨w1.heap.size, 2, none⟩ = some (.int .i64 (y % szOf o)) ∧ (w.heap.size + 1 < w2.heap.size ∧ ∀ i, w2.frozen? ⟨w.heap.size + 1, i, none⟩ = false) ∧ (w1.heap.size < w2.heap.size ∧ ∀ i, w2.frozen? ⟨w1.heap.size, i, none⟩ = false) ∧ Below w.heap.size w w2 := hS
  clear hS
  have hS := hT
  obtain ⟨c0, c1, c2, c3, c4, c5, c6, c7, c8, c9, hB⟩ := hT
  go_wp2
  refine bodyPost_ret (v := .tuple #[.agg #[.bool o, .int .i64 (x % szOf o), .int .i64 (y % szOf o)], .bool true]) (by simp [results, Try.results22, go_sem, *]) rfl ⟨ret_eq (by simp [rofO, rofA, rofB, hv]), by go_grown⟩
end Go.Proofs.Ytpabfkodlgglcaa
