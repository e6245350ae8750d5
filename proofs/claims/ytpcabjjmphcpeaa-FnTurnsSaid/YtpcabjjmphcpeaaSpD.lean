/- Contracts: turns. -/
import Derived.Test.YtpcabjjmphcpeaaSpB
namespace Go.Proofs.Ytpcabjjmphcpeaa
open Go.RowKit

set_option maxHeartbeats 1600000 in
theorem turn_c (a b c d : Int) (w : World) : Calls Try.prog 26 #[.agg #[.int .i64 a, .int .i64 b], .agg #[.int .i64 c, .int .i64 d]] w (Gives w (.tuple #[.int .i64 (turnV a b c d), .bool (turnK a b c d)])) := by
  rcases h1 : vV a b with _ | _
  · have HF := hide (show turnV a b c d = 0 from by simp [turnV, turnK, h1])
    have HK := hide (show turnK a b c d = false from by simp [turnK, h1])
    go_enter Try.func26, Try.ntmps26
    go_wp2
    refine wp_region_det (fun w' => w'.cell? ⟨w.heap.size, 0, none⟩ = some (.int .i64 a) ∧ w'.cell? ⟨w.heap.size, 1, none⟩ = some (.int .i64 b) ∧ w'.cell? ⟨w.heap.size + 1, 0, none⟩ = some (.int .i64 c) ∧ w'.cell? ⟨w.heap.size + 1, 1, none⟩ = some (.int .i64 d) ∧ Below w.heap.size w w') (by kernel_rfl) (by kernel_rfl) (by first | assumption | (exact hS) | (refine ⟨?_, ?_, ?_, ?_, ?_⟩ <;> (first | (simp [go_sem]; done) | (simp [go_sem, *]; done) | (go_grown; done)))) ?_
    repeat (first
      | ((refine wpDet_skip (by rfl) ?_); simp only [Act.put, List.setIfInBounds_toArray, List.set_cons_zero, List.set_cons_succ])
      | ((refine wpDet_val (v := ?_) (by rfl) (fun w hS => ?_) ?_); rotate_left; (focus ((try dsimp only at hS); go_simp; (try (with_reducible rfl)); done)); simp only [Act.put, List.setIfInBounds_toArray, List.set_cons_zero, List.set_cons_succ]))
    refine wpDet_nil ?_
    intro w1 hS
    have hT : w1.cell? ⟨w.heap.size, 0, none⟩ = some (.int .i64 a) ∧ w1.cell? ⟨w.heap.size, 1, none⟩ = some (.int .i64 b) ∧ w1.cell? ⟨w.heap.size + 1, 0, none⟩ = some (.int .i64 c) ∧ w1.cell? ⟨w.heap.size + 1, 1, none⟩ = some (.int .i64 d) ∧ Below w.heap.size w w1 := hS
    clear hS
    have hS := hT
    obtain ⟨c0, c1, c2, c3, hB⟩ := hT
    go_wp2_with (first | (go_at_call 17; refine (validVel_c _ _ _).mono ?_; rintro e w1 ⟨rfl, hb⟩; have hT : w1.cell? ⟨w.heap.size, 0, none⟩ = some (.int .i64 a) ∧ w1.cell? ⟨w.heap.size, 1, none⟩ = some (.int .i64 b) ∧ w1.cell? ⟨w.heap.size + 1, 0, none⟩ = some (.int .i64 c) ∧ w1.cell? ⟨w.heap.size + 1, 1, none⟩ = some (.int .i64 d) ∧ Below w.heap.size w w1 := keep4 (by first | assumption | (exact hS) | (refine ⟨?_, ?_, ?_, ?_, ?_⟩ <;> (first | (simp [go_sem]; done) | (simp [go_sem, *]; done) | (go_grown; done)))) hb; (try clear hS); have hS := hT; clear hT; have hB := hS.2.2.2.2; have hzw := hB.size; have hz1 : w.heap.size < w1.heap.size := World.block_lt_of_cell? w1 _ (hS.1); have hz2 : w.heap.size + 1 < w1.heap.size := World.block_lt_of_cell? w1 _ (hS.2.2.1); clear hb) | (go_at_call 48; refine (stands_c _ _ _).mono ?_; rintro e w1 ⟨rfl, hb⟩; have hT : w1.cell? ⟨w.heap.size, 0, none⟩ = some (.int .i64 a) ∧ w1.cell? ⟨w.heap.size, 1, none⟩ = some (.int .i64 b) ∧ w1.cell? ⟨w.heap.size + 1, 0, none⟩ = some (.int .i64 c) ∧ w1.cell? ⟨w.heap.size + 1, 1, none⟩ = some (.int .i64 d) ∧ Below w.heap.size w w1 := keep4 (by first | assumption | (exact hS) | (refine ⟨?_, ?_, ?_, ?_, ?_⟩ <;> (first | (simp [go_sem]; done) | (simp [go_sem, *]; done) | (go_grown; done)))) hb; (try clear hS); have hS := hT; clear hT; have hB := hS.2.2.2.2; have hzw := hB.size; have hz1 : w.heap.size < w1.heap.size := World.block_lt_of_cell? w1 _ (hS.1); have hz2 : w.heap.size + 1 < w1.heap.size := World.block_lt_of_cell? w1 _ (hS.2.2.1); clear hb))
    all_goals (go_returns; exact ⟨ret_eq (by rw [HF.out, HK.out]; simp), by go_grown⟩)
  rcases h2 : vV c d with _ | _
  · have HF := hide (show turnV a b c d = 0 from by simp [turnV, turnK, h1, h2])
    have HK := hide (show turnK a b c d = false from by simp [turnK, h1, h2])
    go_enter Try.func26, Try.ntmps26
    go_wp2
    refine wp_region_det (fun w' => w'.cell? ⟨w.heap.size, 0, none⟩ = some (.int .i64 a) ∧ w'.cell? ⟨w.heap.size, 1, none⟩ = some (.int .i64 b) ∧ w'.cell? ⟨w.heap.size + 1, 0, none⟩ = some (.int .i64 c) ∧ w'.cell? ⟨w.heap.size + 1, 1, none⟩ = some (.int .i64 d) ∧ Below w.heap.size w w') (by kernel_rfl) (by kernel_rfl) (by first | assumption | (exact hS) | (refine ⟨?_, ?_, ?_, ?_, ?_⟩ <;> (first | (simp [go_sem]; done) | (simp [go_sem, *]; done) | (go_grown; done)))) ?_
    repeat (first
      | ((refine wpDet_skip (by rfl) ?_); simp only [Act.put, List.setIfInBounds_toArray, List.set_cons_zero, List.set_cons_succ])
      | ((refine wpDet_val (v := ?_) (by rfl) (fun w hS => ?_) ?_); rotate_left; (focus ((try dsimp only at hS); go_simp; (try (with_reducible rfl)); done)); simp only [Act.put, List.setIfInBounds_toArray, List.set_cons_zero, List.set_cons_succ]))
    refine wpDet_nil ?_
    intro w1 hS
    have hT : w1.cell? ⟨w.heap.size, 0, none⟩ = some (.int .i64 a) ∧ w1.cell? ⟨w.heap.size, 1, none⟩ = some (.int .i64 b) ∧ w1.cell? ⟨w.heap.size + 1, 0, none⟩ = some (.int .i64 c) ∧ w1.cell? ⟨w.heap.size + 1, 1, none⟩ = some (.int .i64 d) ∧ Below w.heap.size w w1 := hS
    clear hS
    have hS := hT
    obtain ⟨c0, c1, c2, c3, hB⟩ := hT
    go_wp2_with (first | (go_at_call 17; refine (validVel_c _ _ _).mono ?_; rintro e w1 ⟨rfl, hb⟩; have hT : w1.cell? ⟨w.heap.size, 0, none⟩ = some (.int .i64 a) ∧ w1.cell? ⟨w.heap.size, 1, none⟩ = some (.int .i64 b) ∧ w1.cell? ⟨w.heap.size + 1, 0, none⟩ = some (.int .i64 c) ∧ w1.cell? ⟨w.heap.size + 1, 1, none⟩ = some (.int .i64 d) ∧ Below w.heap.size w w1 := keep4 (by first | assumption | (exact hS) | (refine ⟨?_, ?_, ?_, ?_, ?_⟩ <;> (first | (simp [go_sem]; done) | (simp [go_sem, *]; done) | (go_grown; done)))) hb; (try clear hS); have hS := hT; clear hT; have hB := hS.2.2.2.2; have hzw := hB.size; have hz1 : w.heap.size < w1.heap.size := World.block_lt_of_cell? w1 _ (hS.1); have hz2 : w.heap.size + 1 < w1.heap.size := World.block_lt_of_cell? w1 _ (hS.2.2.1); clear hb) | (go_at_call 48; refine (stands_c _ _ _).mono ?_; rintro e w1 ⟨rfl, hb⟩; have hT : w1.cell? ⟨w.heap.size, 0, none⟩ = some (.int .i64 a) ∧ w1.cell? ⟨w.heap.size, 1, none⟩ = some (.int .i64 b) ∧ w1.cell? ⟨w.heap.size + 1, 0, none⟩ = some (.int .i64 c) ∧ w1.cell? ⟨w.heap.size + 1, 1, none⟩ = some (.int .i64 d) ∧ Below w.heap.size w w1 := keep4 (by first | assumption | (exact hS) | (refine ⟨?_, ?_, ?_, ?_, ?_⟩ <;> (first | (simp [go_sem]; done) | (simp [go_sem, *]; done) | (go_grown; done)))) hb; (try clear hS); have hS := hT; clear hT; have hB := hS.2.2.2.2; have hzw := hB.size; have hz1 : w.heap.size < w1.heap.size := World.block_lt_of_cell? w1 _ (hS.1); have hz2 : w.heap.size + 1 < w1.heap.size := World.block_lt_of_cell? w1 _ (hS.2.2.1); clear hb))
    all_goals (go_returns; exact ⟨ret_eq (by rw [HF.out, HK.out]; simp), by go_grown⟩)
  rcases h3 : stand a b with _ | _
  rotate_left
  · have HF := hide (show turnV a b c d = 0 from by simp [turnV, turnK, h1, h2, h3])
    have HK := hide (show turnK a b c d = false from by simp [turnK, h1, h2, h3])
    go_enter Try.func26, Try.ntmps26
    go_wp2
    refine wp_region_det (fun w' => w'.cell? ⟨w.heap.size, 0, none⟩ = some (.int .i64 a) ∧ w'.cell? ⟨w.heap.size, 1, none⟩ = some (.int .i64 b) ∧ w'.cell? ⟨w.heap.size + 1, 0, none⟩ = some (.int .i64 c) ∧ w'.cell? ⟨w.heap.size + 1, 1, none⟩ = some (.int .i64 d) ∧ Below w.heap.size w w') (by kernel_rfl) (by kernel_rfl) (by first | assumption | (exact hS) | (refine ⟨?_, ?_, ?_, ?_, ?_⟩ <;> (first | (simp [go_sem]; done) | (simp [go_sem, *]; done) | (go_grown; done)))) ?_
    repeat (first
      | ((refine wpDet_skip (by rfl) ?_); simp only [Act.put, List.setIfInBounds_toArray, List.set_cons_zero, List.set_cons_succ])
      | ((refine wpDet_val (v := ?_) (by rfl) (fun w hS => ?_) ?_); rotate_left; (focus ((try dsimp only at hS); go_simp; (try (with_reducible rfl)); done)); simp only [Act.put, List.setIfInBounds_toArray, List.set_cons_zero, List.set_cons_succ]))
    refine wpDet_nil ?_
    intro w1 hS
    have hT : w1.cell? ⟨w.heap.size, 0, none⟩ = some (.int .i64 a) ∧ w1.cell? ⟨w.heap.size, 1, none⟩ = some (.int .i64 b) ∧ w1.cell? ⟨w.heap.size + 1, 0, none⟩ = some (.int .i64 c) ∧ w1.cell? ⟨w.heap.size + 1, 1, none⟩ = some (.int .i64 d) ∧ Below w.heap.size w w1 := hS
    clear hS
    have hS := hT
    obtain ⟨c0, c1, c2, c3, hB⟩ := hT
    go_wp2_with (first | (go_at_call 17; refine (validVel_c _ _ _).mono ?_; rintro e w1 ⟨rfl, hb⟩; have hT : w1.cell? ⟨w.heap.size, 0, none⟩ = some (.int .i64 a) ∧ w1.cell? ⟨w.heap.size, 1, none⟩ = some (.int .i64 b) ∧ w1.cell? ⟨w.heap.size + 1, 0, none⟩ = some (.int .i64 c) ∧ w1.cell? ⟨w.heap.size + 1, 1, none⟩ = some (.int .i64 d) ∧ Below w.heap.size w w1 := keep4 (by first | assumption | (exact hS) | (refine ⟨?_, ?_, ?_, ?_, ?_⟩ <;> (first | (simp [go_sem]; done) | (simp [go_sem, *]; done) | (go_grown; done)))) hb; (try clear hS); have hS := hT; clear hT; have hB := hS.2.2.2.2; have hzw := hB.size; have hz1 : w.heap.size < w1.heap.size := World.block_lt_of_cell? w1 _ (hS.1); have hz2 : w.heap.size + 1 < w1.heap.size := World.block_lt_of_cell? w1 _ (hS.2.2.1); clear hb) | (go_at_call 48; refine (stands_c _ _ _).mono ?_; rintro e w1 ⟨rfl, hb⟩; have hT : w1.cell? ⟨w.heap.size, 0, none⟩ = some (.int .i64 a) ∧ w1.cell? ⟨w.heap.size, 1, none⟩ = some (.int .i64 b) ∧ w1.cell? ⟨w.heap.size + 1, 0, none⟩ = some (.int .i64 c) ∧ w1.cell? ⟨w.heap.size + 1, 1, none⟩ = some (.int .i64 d) ∧ Below w.heap.size w w1 := keep4 (by first | assumption | (exact hS) | (refine ⟨?_, ?_, ?_, ?_, ?_⟩ <;> (first | (simp [go_sem]; done) | (simp [go_sem, *]; done) | (go_grown; done)))) hb; (try clear hS); have hS := hT; clear hT; have hB := hS.2.2.2.2; have hzw := hB.size; have hz1 : w.heap.size < w1.heap.size := World.block_lt_of_cell? w1 _ (hS.1); have hz2 : w.heap.size + 1 < w1.heap.size := World.block_lt_of_cell? w1 _ (hS.2.2.1); clear hb))
    all_goals (go_returns; exact ⟨ret_eq (by rw [HF.out, HK.out]; simp), by go_grown⟩)
  rcases h4 : stand c d with _ | _
  rotate_left
  · have HF := hide (show turnV a b c d = 0 from by simp [turnV, turnK, h1, h2, h3, h4])
    have HK := hide (show turnK a b c d = false from by simp [turnK, h1, h2, h3, h4])
    go_enter Try.func26, Try.ntmps26
    go_wp2
    refine wp_region_det (fun w' => w'.cell? ⟨w.heap.size, 0, none⟩ = some (.int .i64 a) ∧ w'.cell? ⟨w.heap.size, 1, none⟩ = some (.int .i64 b) ∧ w'.cell? ⟨w.heap.size + 1, 0, none⟩ = some (.int .i64 c) ∧ w'.cell? ⟨w.heap.size + 1, 1, none⟩ = some (.int .i64 d) ∧ Below w.heap.size w w') (by kernel_rfl) (by kernel_rfl) (by first | assumption | (exact hS) | (refine ⟨?_, ?_, ?_, ?_, ?_⟩ <;> (first | (simp [go_sem]; done) | (simp [go_sem, *]; done) | (go_grown; done)))) ?_
    repeat (first
      | ((refine wpDet_skip (by rfl) ?_); simp only [Act.put, List.setIfInBounds_toArray, List.set_cons_zero, List.set_cons_succ])
      | ((refine wpDet_val (v := ?_) (by rfl) (fun w hS => ?_) ?_); rotate_left; (focus ((try dsimp only at hS); go_simp; (try (with_reducible rfl)); done)); simp only [Act.put, List.setIfInBounds_toArray, List.set_cons_zero, List.set_cons_succ]))
    refine wpDet_nil ?_
    intro w1 hS
    have hT : w1.cell? ⟨w.heap.size, 0, none⟩ = some (.int .i64 a) ∧ w1.cell? ⟨w.heap.size, 1, none⟩ = some (.int .i64 b) ∧ w1.cell? ⟨w.heap.size + 1, 0, none⟩ = some (.int .i64 c) ∧ w1.cell? ⟨w.heap.size + 1, 1, none⟩ = some (.int .i64 d) ∧ Below w.heap.size w w1 := hS
    clear hS
    have hS := hT
    obtain ⟨c0, c1, c2, c3, hB⟩ := hT
    go_wp2_with (first | (go_at_call 17; refine (validVel_c _ _ _).mono ?_; rintro e w1 ⟨rfl, hb⟩; have hT : w1.cell? ⟨w.heap.size, 0, none⟩ = some (.int .i64 a) ∧ w1.cell? ⟨w.heap.size, 1, none⟩ = some (.int .i64 b) ∧ w1.cell? ⟨w.heap.size + 1, 0, none⟩ = some (.int .i64 c) ∧ w1.cell? ⟨w.heap.size + 1, 1, none⟩ = some (.int .i64 d) ∧ Below w.heap.size w w1 := keep4 (by first | assumption | (exact hS) | (refine ⟨?_, ?_, ?_, ?_, ?_⟩ <;> (first | (simp [go_sem]; done) | (simp [go_sem, *]; done) | (go_grown; done)))) hb; (try clear hS); have hS := hT; clear hT; have hB := hS.2.2.2.2; have hzw := hB.size; have hz1 : w.heap.size < w1.heap.size := World.block_lt_of_cell? w1 _ (hS.1); have hz2 : w.heap.size + 1 < w1.heap.size := World.block_lt_of_cell? w1 _ (hS.2.2.1); clear hb) | (go_at_call 48; refine (stands_c _ _ _).mono ?_; rintro e w1 ⟨rfl, hb⟩; have hT : w1.cell? ⟨w.heap.size, 0, none⟩ = some (.int .i64 a) ∧ w1.cell? ⟨w.heap.size, 1, none⟩ = some (.int .i64 b) ∧ w1.cell? ⟨w.heap.size + 1, 0, none⟩ = some (.int .i64 c) ∧ w1.cell? ⟨w.heap.size + 1, 1, none⟩ = some (.int .i64 d) ∧ Below w.heap.size w w1 := keep4 (by first | assumption | (exact hS) | (refine ⟨?_, ?_, ?_, ?_, ?_⟩ <;> (first | (simp [go_sem]; done) | (simp [go_sem, *]; done) | (go_grown; done)))) hb; (try clear hS); have hS := hT; clear hT; have hB := hS.2.2.2.2; have hzw := hB.size; have hz1 : w.heap.size < w1.heap.size := World.block_lt_of_cell? w1 _ (hS.1); have hz2 : w.heap.size + 1 < w1.heap.size := World.block_lt_of_cell? w1 _ (hS.2.2.1); clear hb))
    all_goals (go_returns; exact ⟨ret_eq (by rw [HF.out, HK.out]; simp), by go_grown⟩)
  obtain ⟨⟨ka0, ka1⟩, kb0, kb1⟩ := vV_iff.1 h1
  obtain ⟨⟨kc0, kc1⟩, kd0, kd1⟩ := vV_iff.1 h2
  have m1 := mul_bd ka0 ka1 kd0 kd1
  have m2 := mul_bd kb0 kb1 kc0 kc1
  have m3 := mul_bd ka0 ka1 kc0 kc1
  have m4 := mul_bd kb0 kb1 kd0 kd1
  have ew1 : IntKind.i64.wrap (a * d) = a * d := IntWalk.i64_in _ (by omega)
  have ew2 : IntKind.i64.wrap (b * c) = b * c := IntWalk.i64_in _ (by omega)
  have ew3 : IntKind.i64.wrap (a * c) = a * c := IntWalk.i64_in _ (by omega)
  have ew4 : IntKind.i64.wrap (b * d) = b * d := IntWalk.i64_in _ (by omega)
  have ew5 : IntKind.i64.wrap (a * d - b * c) = a * d - b * c := IntWalk.i64_in _ (by omega)
  have ew6 : IntKind.i64.wrap (a * c + b * d) = a * c + b * d := IntWalk.i64_in _ (by omega)
  by_cases g1 : a * d - b * c < 0
  · have HF := hide (show turnV a b c d = 1 from by unfold turnV; rw [if_pos (by simp [turnK, h1, h2, h3, h4]), if_pos g1])
    have HK := hide (show turnK a b c d = true from by simp [turnK, h1, h2, h3, h4])
    go_enter Try.func26, Try.ntmps26
    go_wp2
    refine wp_region_det (fun w' => w'.cell? ⟨w.heap.size, 0, none⟩ = some (.int .i64 a) ∧ w'.cell? ⟨w.heap.size, 1, none⟩ = some (.int .i64 b) ∧ w'.cell? ⟨w.heap.size + 1, 0, none⟩ = some (.int .i64 c) ∧ w'.cell? ⟨w.heap.size + 1, 1, none⟩ = some (.int .i64 d) ∧ Below w.heap.size w w') (by kernel_rfl) (by kernel_rfl) (by first | assumption | (exact hS) | (refine ⟨?_, ?_, ?_, ?_, ?_⟩ <;> (first | (simp [go_sem]; done) | (simp [go_sem, *]; done) | (go_grown; done)))) ?_
    repeat (first
      | ((refine wpDet_skip (by rfl) ?_); simp only [Act.put, List.setIfInBounds_toArray, List.set_cons_zero, List.set_cons_succ])
      | ((refine wpDet_val (v := ?_) (by rfl) (fun w hS => ?_) ?_); rotate_left; (focus ((try dsimp only at hS); go_simp; (try (with_reducible rfl)); done)); simp only [Act.put, List.setIfInBounds_toArray, List.set_cons_zero, List.set_cons_succ]))
    refine wpDet_nil ?_
    intro w1 hS
    have hT : w1.cell? ⟨w.heap.size, 0, none⟩ = some (.int .i64 a) ∧ w1.cell? ⟨w.heap.size, 1, none⟩ = some (.int .i64 b) ∧ w1.cell? ⟨w.heap.size + 1, 0, none⟩ = some (.int .i64 c) ∧ w1.cell? ⟨w.heap.size + 1, 1, none⟩ = some (.int .i64 d) ∧ Below w.heap.size w w1 := hS
    clear hS
    have hS := hT
    obtain ⟨c0, c1, c2, c3, hB⟩ := hT
    go_wp2_with (first | (go_at_call 17; refine (validVel_c _ _ _).mono ?_; rintro e w1 ⟨rfl, hb⟩; have hT : w1.cell? ⟨w.heap.size, 0, none⟩ = some (.int .i64 a) ∧ w1.cell? ⟨w.heap.size, 1, none⟩ = some (.int .i64 b) ∧ w1.cell? ⟨w.heap.size + 1, 0, none⟩ = some (.int .i64 c) ∧ w1.cell? ⟨w.heap.size + 1, 1, none⟩ = some (.int .i64 d) ∧ Below w.heap.size w w1 := keep4 (by first | assumption | (exact hS) | (refine ⟨?_, ?_, ?_, ?_, ?_⟩ <;> (first | (simp [go_sem]; done) | (simp [go_sem, *]; done) | (go_grown; done)))) hb; (try clear hS); have hS := hT; clear hT; have hB := hS.2.2.2.2; have hzw := hB.size; have hz1 : w.heap.size < w1.heap.size := World.block_lt_of_cell? w1 _ (hS.1); have hz2 : w.heap.size + 1 < w1.heap.size := World.block_lt_of_cell? w1 _ (hS.2.2.1); clear hb) | (go_at_call 48; refine (stands_c _ _ _).mono ?_; rintro e w1 ⟨rfl, hb⟩; have hT : w1.cell? ⟨w.heap.size, 0, none⟩ = some (.int .i64 a) ∧ w1.cell? ⟨w.heap.size, 1, none⟩ = some (.int .i64 b) ∧ w1.cell? ⟨w.heap.size + 1, 0, none⟩ = some (.int .i64 c) ∧ w1.cell? ⟨w.heap.size + 1, 1, none⟩ = some (.int .i64 d) ∧ Below w.heap.size w w1 := keep4 (by first | assumption | (exact hS) | (refine ⟨?_, ?_, ?_, ?_, ?_⟩ <;> (first | (simp [go_sem]; done) | (simp [go_sem, *]; done) | (go_grown; done)))) hb; (try clear hS); have hS := hT; clear hT; have hB := hS.2.2.2.2; have hzw := hB.size; have hz1 : w.heap.size < w1.heap.size := World.block_lt_of_cell? w1 _ (hS.1); have hz2 : w.heap.size + 1 < w1.heap.size := World.block_lt_of_cell? w1 _ (hS.2.2.1); clear hb))
    all_goals (go_returns; exact ⟨ret_eq (by rw [HF.out, HK.out]; simp), by go_grown⟩)
  by_cases g2 : a * d - b * c > 0
  · have HF := hide (show turnV a b c d = 2 from by unfold turnV; rw [if_pos (by simp [turnK, h1, h2, h3, h4]), if_neg g1, if_pos g2])
    have HK := hide (show turnK a b c d = true from by simp [turnK, h1, h2, h3, h4])
    go_enter Try.func26, Try.ntmps26
    go_wp2
    refine wp_region_det (fun w' => w'.cell? ⟨w.heap.size, 0, none⟩ = some (.int .i64 a) ∧ w'.cell? ⟨w.heap.size, 1, none⟩ = some (.int .i64 b) ∧ w'.cell? ⟨w.heap.size + 1, 0, none⟩ = some (.int .i64 c) ∧ w'.cell? ⟨w.heap.size + 1, 1, none⟩ = some (.int .i64 d) ∧ Below w.heap.size w w') (by kernel_rfl) (by kernel_rfl) (by first | assumption | (exact hS) | (refine ⟨?_, ?_, ?_, ?_, ?_⟩ <;> (first | (simp [go_sem]; done) | (simp [go_sem, *]; done) | (go_grown; done)))) ?_
    repeat (first
      | ((refine wpDet_skip (by rfl) ?_); simp only [Act.put, List.setIfInBounds_toArray, List.set_cons_zero, List.set_cons_succ])
      | ((refine wpDet_val (v := ?_) (by rfl) (fun w hS => ?_) ?_); rotate_left; (focus ((try dsimp only at hS); go_simp; (try (with_reducible rfl)); done)); simp only [Act.put, List.setIfInBounds_toArray, List.set_cons_zero, List.set_cons_succ]))
    refine wpDet_nil ?_
    intro w1 hS
    have hT : w1.cell? ⟨w.heap.size, 0, none⟩ = some (.int .i64 a) ∧ w1.cell? ⟨w.heap.size, 1, none⟩ = some (.int .i64 b) ∧ w1.cell? ⟨w.heap.size + 1, 0, none⟩ = some (.int .i64 c) ∧ w1.cell? ⟨w.heap.size + 1, 1, none⟩ = some (.int .i64 d) ∧ Below w.heap.size w w1 := hS
    clear hS
    have hS := hT
    obtain ⟨c0, c1, c2, c3, hB⟩ := hT
    go_wp2_with (first | (go_at_call 17; refine (validVel_c _ _ _).mono ?_; rintro e w1 ⟨rfl, hb⟩; have hT : w1.cell? ⟨w.heap.size, 0, none⟩ = some (.int .i64 a) ∧ w1.cell? ⟨w.heap.size, 1, none⟩ = some (.int .i64 b) ∧ w1.cell? ⟨w.heap.size + 1, 0, none⟩ = some (.int .i64 c) ∧ w1.cell? ⟨w.heap.size + 1, 1, none⟩ = some (.int .i64 d) ∧ Below w.heap.size w w1 := keep4 (by first | assumption | (exact hS) | (refine ⟨?_, ?_, ?_, ?_, ?_⟩ <;> (first | (simp [go_sem]; done) | (simp [go_sem, *]; done) | (go_grown; done)))) hb; (try clear hS); have hS := hT; clear hT; have hB := hS.2.2.2.2; have hzw := hB.size; have hz1 : w.heap.size < w1.heap.size := World.block_lt_of_cell? w1 _ (hS.1); have hz2 : w.heap.size + 1 < w1.heap.size := World.block_lt_of_cell? w1 _ (hS.2.2.1); clear hb) | (go_at_call 48; refine (stands_c _ _ _).mono ?_; rintro e w1 ⟨rfl, hb⟩; have hT : w1.cell? ⟨w.heap.size, 0, none⟩ = some (.int .i64 a) ∧ w1.cell? ⟨w.heap.size, 1, none⟩ = some (.int .i64 b) ∧ w1.cell? ⟨w.heap.size + 1, 0, none⟩ = some (.int .i64 c) ∧ w1.cell? ⟨w.heap.size + 1, 1, none⟩ = some (.int .i64 d) ∧ Below w.heap.size w w1 := keep4 (by first | assumption | (exact hS) | (refine ⟨?_, ?_, ?_, ?_, ?_⟩ <;> (first | (simp [go_sem]; done) | (simp [go_sem, *]; done) | (go_grown; done)))) hb; (try clear hS); have hS := hT; clear hT; have hB := hS.2.2.2.2; have hzw := hB.size; have hz1 : w.heap.size < w1.heap.size := World.block_lt_of_cell? w1 _ (hS.1); have hz2 : w.heap.size + 1 < w1.heap.size := World.block_lt_of_cell? w1 _ (hS.2.2.1); clear hb))
    all_goals (go_returns; exact ⟨ret_eq (by rw [HF.out, HK.out]; simp), by go_grown⟩)
  by_cases g3 : a * c + b * d < 0
  · have HF := hide (show turnV a b c d = 3 from by unfold turnV; rw [if_pos (by simp [turnK, h1, h2, h3, h4]), if_neg g1, if_neg g2, if_pos g3])
    have HK := hide (show turnK a b c d = true from by simp [turnK, h1, h2, h3, h4])
    go_enter Try.func26, Try.ntmps26
    go_wp2
    refine wp_region_det (fun w' => w'.cell? ⟨w.heap.size, 0, none⟩ = some (.int .i64 a) ∧ w'.cell? ⟨w.heap.size, 1, none⟩ = some (.int .i64 b) ∧ w'.cell? ⟨w.heap.size + 1, 0, none⟩ = some (.int .i64 c) ∧ w'.cell? ⟨w.heap.size + 1, 1, none⟩ = some (.int .i64 d) ∧ Below w.heap.size w w') (by kernel_rfl) (by kernel_rfl) (by first | assumption | (exact hS) | (refine ⟨?_, ?_, ?_, ?_, ?_⟩ <;> (first | (simp [go_sem]; done) | (simp [go_sem, *]; done) | (go_grown; done)))) ?_
    repeat (first
      | ((refine wpDet_skip (by rfl) ?_); simp only [Act.put, List.setIfInBounds_toArray, List.set_cons_zero, List.set_cons_succ])
      | ((refine wpDet_val (v := ?_) (by rfl) (fun w hS => ?_) ?_); rotate_left; (focus ((try dsimp only at hS); go_simp; (try (with_reducible rfl)); done)); simp only [Act.put, List.setIfInBounds_toArray, List.set_cons_zero, List.set_cons_succ]))
    refine wpDet_nil ?_
    intro w1 hS
    have hT : w1.cell? ⟨w.heap.size, 0, none⟩ = some (.int .i64 a) ∧ w1.cell? ⟨w.heap.size, 1, none⟩ = some (.int .i64 b) ∧ w1.cell? ⟨w.heap.size + 1, 0, none⟩ = some (.int .i64 c) ∧ w1.cell? ⟨w.heap.size + 1, 1, none⟩ = some (.int .i64 d) ∧ Below w.heap.size w w1 := hS
    clear hS
    have hS := hT
    obtain ⟨c0, c1, c2, c3, hB⟩ := hT
    go_wp2_with (first | (go_at_call 17; refine (validVel_c _ _ _).mono ?_; rintro e w1 ⟨rfl, hb⟩; have hT : w1.cell? ⟨w.heap.size, 0, none⟩ = some (.int .i64 a) ∧ w1.cell? ⟨w.heap.size, 1, none⟩ = some (.int .i64 b) ∧ w1.cell? ⟨w.heap.size + 1, 0, none⟩ = some (.int .i64 c) ∧ w1.cell? ⟨w.heap.size + 1, 1, none⟩ = some (.int .i64 d) ∧ Below w.heap.size w w1 := keep4 (by first | assumption | (exact hS) | (refine ⟨?_, ?_, ?_, ?_, ?_⟩ <;> (first | (simp [go_sem]; done) | (simp [go_sem, *]; done) | (go_grown; done)))) hb; (try clear hS); have hS := hT; clear hT; have hB := hS.2.2.2.2; have hzw := hB.size; have hz1 : w.heap.size < w1.heap.size := World.block_lt_of_cell? w1 _ (hS.1); have hz2 : w.heap.size + 1 < w1.heap.size := World.block_lt_of_cell? w1 _ (hS.2.2.1); clear hb) | (go_at_call 48; refine (stands_c _ _ _).mono ?_; rintro e w1 ⟨rfl, hb⟩; have hT : w1.cell? ⟨w.heap.size, 0, none⟩ = some (.int .i64 a) ∧ w1.cell? ⟨w.heap.size, 1, none⟩ = some (.int .i64 b) ∧ w1.cell? ⟨w.heap.size + 1, 0, none⟩ = some (.int .i64 c) ∧ w1.cell? ⟨w.heap.size + 1, 1, none⟩ = some (.int .i64 d) ∧ Below w.heap.size w w1 := keep4 (by first | assumption | (exact hS) | (refine ⟨?_, ?_, ?_, ?_, ?_⟩ <;> (first | (simp [go_sem]; done) | (simp [go_sem, *]; done) | (go_grown; done)))) hb; (try clear hS); have hS := hT; clear hT; have hB := hS.2.2.2.2; have hzw := hB.size; have hz1 : w.heap.size < w1.heap.size := World.block_lt_of_cell? w1 _ (hS.1); have hz2 : w.heap.size + 1 < w1.heap.size := World.block_lt_of_cell? w1 _ (hS.2.2.1); clear hb))
    all_goals (go_returns; exact ⟨ret_eq (by rw [HF.out, HK.out]; simp), by go_grown⟩)
  have HF := hide (show turnV a b c d = 0 from by unfold turnV; rw [if_pos (by simp [turnK, h1, h2, h3, h4]), if_neg g1, if_neg g2, if_neg g3])
  have HK := hide (show turnK a b c d = true from by simp [turnK, h1, h2, h3, h4])
  go_enter Try.func26, Try.ntmps26
  go_wp2
  refine wp_region_det (fun w' => w'.cell? ⟨w.heap.size, 0, none⟩ = some (.int .i64 a) ∧ w'.cell? ⟨w.heap.size, 1, none⟩ = some (.int .i64 b) ∧ w'.cell? ⟨w.heap.size + 1, 0, none⟩ = some (.int .i64 c) ∧ w'.cell? ⟨w.heap.size + 1, 1, none⟩ = some (.int .i64 d) ∧ Below w.heap.size w w') (by kernel_rfl) (by kernel_rfl) (by first | assumption | (exact hS) | (refine ⟨?_, ?_, ?_, ?_, ?_⟩ <;> (first | (simp [go_sem]; done) | (simp [go_sem, *]; done) | (go_grown; done)))) ?_
  repeat (first
    | ((refine wpDet_skip (by rfl) ?_); simp only [Act.put, List.setIfInBounds_toArray, List.set_cons_zero, List.set_cons_succ])
    | ((refine wpDet_val (v := ?_) (by rfl) (fun w hS => ?_) ?_); rotate_left; (focus ((try dsimp only at hS); go_simp; (try (with_reducible rfl)); done)); simp only [Act.put, List.setIfInBounds_toArray, List.set_cons_zero, List.set_cons_succ]))
  refine wpDet_nil ?_
  intro w1 hS
  have hT : w1.cell? ⟨w.heap.size, 0, none⟩ = some (.int .i64 a) ∧ w1.cell? ⟨w.heap.size, 1, none⟩ = some (.int .i64 b) ∧ w1.cell? ⟨w.heap.size + 1, 0, none⟩ = some (.int .i64 c) ∧ w1.cell? ⟨w.heap.size + 1, 1, none⟩ = some (.int .i64 d) ∧ Below w.heap.size w w1 := hS
  clear hS
  have hS := hT
  obtain ⟨c0, c1, c2, c3, hB⟩ := hT
  go_wp2_with (first | (go_at_call 17; refine (validVel_c _ _ _).mono ?_; rintro e w1 ⟨rfl, hb⟩; have hT : w1.cell? ⟨w.heap.size, 0, none⟩ = some (.int .i64 a) ∧ w1.cell? ⟨w.heap.size, 1, none⟩ = some (.int .i64 b) ∧ w1.cell? ⟨w.heap.size + 1, 0, none⟩ = some (.int .i64 c) ∧ w1.cell? ⟨w.heap.size + 1, 1, none⟩ = some (.int .i64 d) ∧ Below w.heap.size w w1 := keep4 (by first | assumption | (exact hS) | (refine ⟨?_, ?_, ?_, ?_, ?_⟩ <;> (first | (simp [go_sem]; done) | (simp [go_sem, *]; done) | (go_grown; done)))) hb; (try clear hS); have hS := hT; clear hT; have hB := hS.2.2.2.2; have hzw := hB.size; have hz1 : w.heap.size < w1.heap.size := World.block_lt_of_cell? w1 _ (hS.1); have hz2 : w.heap.size + 1 < w1.heap.size := World.block_lt_of_cell? w1 _ (hS.2.2.1); clear hb) | (go_at_call 48; refine (stands_c _ _ _).mono ?_; rintro e w1 ⟨rfl, hb⟩; have hT : w1.cell? ⟨w.heap.size, 0, none⟩ = some (.int .i64 a) ∧ w1.cell? ⟨w.heap.size, 1, none⟩ = some (.int .i64 b) ∧ w1.cell? ⟨w.heap.size + 1, 0, none⟩ = some (.int .i64 c) ∧ w1.cell? ⟨w.heap.size + 1, 1, none⟩ = some (.int .i64 d) ∧ Below w.heap.size w w1 := keep4 (by first | assumption | (exact hS) | (refine ⟨?_, ?_, ?_, ?_, ?_⟩ <;> (first | (simp [go_sem]; done) | (simp [go_sem, *]; done) | (go_grown; done)))) hb; (try clear hS); have hS := hT; clear hT; have hB := hS.2.2.2.2; have hzw := hB.size; have hz1 : w.heap.size < w1.heap.size := World.block_lt_of_cell? w1 _ (hS.1); have hz2 : w.heap.size + 1 < w1.heap.size := World.block_lt_of_cell? w1 _ (hS.2.2.1); clear hb))
  all_goals (go_returns; exact ⟨ret_eq (by rw [HF.out, HK.out]; simp), by go_grown⟩)

set_option maxHeartbeats 1600000 in
theorem sTurn_c (a b c d : Int) (w : World) : Calls Try.prog 25 #[.agg #[.int .i64 a, .int .i64 b], .agg #[.int .i64 c, .int .i64 d]] w (Gives w (.tuple #[.int .i64 (turnV a b c d), .bool (turnK a b c d)])) := by
  rcases h1 : vV a b with _ | _
  · have HF := hide (show turnV a b c d = 0 from by simp [turnV, turnK, h1])
    have HK := hide (show turnK a b c d = false from by simp [turnK, h1])
    go_enter Try.func25, Try.ntmps25
    go_wp2_with (first | (go_at_call 44; refine (l8Good_c _ _ _).mono ?_; rintro e w1 ⟨rfl, hb⟩; have hT : w1.cell? ⟨w.heap.size, 0, none⟩ = some (.int .i64 a) ∧ w1.cell? ⟨w.heap.size, 1, none⟩ = some (.int .i64 b) ∧ w1.cell? ⟨w.heap.size + 1, 0, none⟩ = some (.int .i64 c) ∧ w1.cell? ⟨w.heap.size + 1, 1, none⟩ = some (.int .i64 d) ∧ Below w.heap.size w w1 := keep4 (by first | assumption | (exact hS) | (refine ⟨?_, ?_, ?_, ?_, ?_⟩ <;> (first | (simp [go_sem]; done) | (simp [go_sem, *]; done) | (go_grown; done)))) hb; (try clear hS); have hS := hT; clear hT; have hB := hS.2.2.2.2; have hzw := hB.size; have hz1 : w.heap.size < w1.heap.size := World.block_lt_of_cell? w1 _ (hS.1); have hz2 : w.heap.size + 1 < w1.heap.size := World.block_lt_of_cell? w1 _ (hS.2.2.1); clear hb) | (go_at_call 46; refine (l8Square_c _ _ (by assumption) _).mono ?_; rintro e w1 ⟨rfl, hb⟩; have hT : w1.cell? ⟨w.heap.size, 0, none⟩ = some (.int .i64 a) ∧ w1.cell? ⟨w.heap.size, 1, none⟩ = some (.int .i64 b) ∧ w1.cell? ⟨w.heap.size + 1, 0, none⟩ = some (.int .i64 c) ∧ w1.cell? ⟨w.heap.size + 1, 1, none⟩ = some (.int .i64 d) ∧ Below w.heap.size w w1 := keep4 (by first | assumption | (exact hS) | (refine ⟨?_, ?_, ?_, ?_, ?_⟩ <;> (first | (simp [go_sem]; done) | (simp [go_sem, *]; done) | (go_grown; done)))) hb; (try clear hS); have hS := hT; clear hT; have hB := hS.2.2.2.2; have hzw := hB.size; have hz1 : w.heap.size < w1.heap.size := World.block_lt_of_cell? w1 _ (hS.1); have hz2 : w.heap.size + 1 < w1.heap.size := World.block_lt_of_cell? w1 _ (hS.2.2.1); clear hb))
    all_goals (go_returns; exact ⟨ret_eq (by rw [HF.out, HK.out]; simp), by go_grown⟩)
  rcases h2 : vV c d with _ | _
  · have HF := hide (show turnV a b c d = 0 from by simp [turnV, turnK, h1, h2])
    have HK := hide (show turnK a b c d = false from by simp [turnK, h1, h2])
    go_enter Try.func25, Try.ntmps25
    go_wp2_with (first | (go_at_call 44; refine (l8Good_c _ _ _).mono ?_; rintro e w1 ⟨rfl, hb⟩; have hT : w1.cell? ⟨w.heap.size, 0, none⟩ = some (.int .i64 a) ∧ w1.cell? ⟨w.heap.size, 1, none⟩ = some (.int .i64 b) ∧ w1.cell? ⟨w.heap.size + 1, 0, none⟩ = some (.int .i64 c) ∧ w1.cell? ⟨w.heap.size + 1, 1, none⟩ = some (.int .i64 d) ∧ Below w.heap.size w w1 := keep4 (by first | assumption | (exact hS) | (refine ⟨?_, ?_, ?_, ?_, ?_⟩ <;> (first | (simp [go_sem]; done) | (simp [go_sem, *]; done) | (go_grown; done)))) hb; (try clear hS); have hS := hT; clear hT; have hB := hS.2.2.2.2; have hzw := hB.size; have hz1 : w.heap.size < w1.heap.size := World.block_lt_of_cell? w1 _ (hS.1); have hz2 : w.heap.size + 1 < w1.heap.size := World.block_lt_of_cell? w1 _ (hS.2.2.1); clear hb) | (go_at_call 46; refine (l8Square_c _ _ (by assumption) _).mono ?_; rintro e w1 ⟨rfl, hb⟩; have hT : w1.cell? ⟨w.heap.size, 0, none⟩ = some (.int .i64 a) ∧ w1.cell? ⟨w.heap.size, 1, none⟩ = some (.int .i64 b) ∧ w1.cell? ⟨w.heap.size + 1, 0, none⟩ = some (.int .i64 c) ∧ w1.cell? ⟨w.heap.size + 1, 1, none⟩ = some (.int .i64 d) ∧ Below w.heap.size w w1 := keep4 (by first | assumption | (exact hS) | (refine ⟨?_, ?_, ?_, ?_, ?_⟩ <;> (first | (simp [go_sem]; done) | (simp [go_sem, *]; done) | (go_grown; done)))) hb; (try clear hS); have hS := hT; clear hT; have hB := hS.2.2.2.2; have hzw := hB.size; have hz1 : w.heap.size < w1.heap.size := World.block_lt_of_cell? w1 _ (hS.1); have hz2 : w.heap.size + 1 < w1.heap.size := World.block_lt_of_cell? w1 _ (hS.2.2.1); clear hb))
    all_goals (go_returns; exact ⟨ret_eq (by rw [HF.out, HK.out]; simp), by go_grown⟩)
  rcases h3 : stand a b with _ | _
  rotate_left
  · have z1 : (sq a b == 0) = true := by simp [stand] at h3; simp [sq_zero.2 h3]
    have HF := hide (show turnV a b c d = 0 from by simp [turnV, turnK, h1, h2, h3])
    have HK := hide (show turnK a b c d = false from by simp [turnK, h1, h2, h3])
    go_enter Try.func25, Try.ntmps25
    go_wp2_with (first | (go_at_call 44; refine (l8Good_c _ _ _).mono ?_; rintro e w1 ⟨rfl, hb⟩; have hT : w1.cell? ⟨w.heap.size, 0, none⟩ = some (.int .i64 a) ∧ w1.cell? ⟨w.heap.size, 1, none⟩ = some (.int .i64 b) ∧ w1.cell? ⟨w.heap.size + 1, 0, none⟩ = some (.int .i64 c) ∧ w1.cell? ⟨w.heap.size + 1, 1, none⟩ = some (.int .i64 d) ∧ Below w.heap.size w w1 := keep4 (by first | assumption | (exact hS) | (refine ⟨?_, ?_, ?_, ?_, ?_⟩ <;> (first | (simp [go_sem]; done) | (simp [go_sem, *]; done) | (go_grown; done)))) hb; (try clear hS); have hS := hT; clear hT; have hB := hS.2.2.2.2; have hzw := hB.size; have hz1 : w.heap.size < w1.heap.size := World.block_lt_of_cell? w1 _ (hS.1); have hz2 : w.heap.size + 1 < w1.heap.size := World.block_lt_of_cell? w1 _ (hS.2.2.1); clear hb) | (go_at_call 46; refine (l8Square_c _ _ (by assumption) _).mono ?_; rintro e w1 ⟨rfl, hb⟩; have hT : w1.cell? ⟨w.heap.size, 0, none⟩ = some (.int .i64 a) ∧ w1.cell? ⟨w.heap.size, 1, none⟩ = some (.int .i64 b) ∧ w1.cell? ⟨w.heap.size + 1, 0, none⟩ = some (.int .i64 c) ∧ w1.cell? ⟨w.heap.size + 1, 1, none⟩ = some (.int .i64 d) ∧ Below w.heap.size w w1 := keep4 (by first | assumption | (exact hS) | (refine ⟨?_, ?_, ?_, ?_, ?_⟩ <;> (first | (simp [go_sem]; done) | (simp [go_sem, *]; done) | (go_grown; done)))) hb; (try clear hS); have hS := hT; clear hT; have hB := hS.2.2.2.2; have hzw := hB.size; have hz1 : w.heap.size < w1.heap.size := World.block_lt_of_cell? w1 _ (hS.1); have hz2 : w.heap.size + 1 < w1.heap.size := World.block_lt_of_cell? w1 _ (hS.2.2.1); clear hb))
    all_goals (go_returns; exact ⟨ret_eq (by rw [HF.out, HK.out]; simp), by go_grown⟩)
  have h9z1 : ¬ sq a b = 0 := fun e => (by have e2 := sq_zero.1 e; simp [stand, e2] at h3)
  have z1 : (sq a b == 0) = false := by simp [h9z1]
  rcases h4 : stand c d with _ | _
  rotate_left
  · have z2 : (sq c d == 0) = true := by simp [stand] at h4; simp [sq_zero.2 h4]
    have HF := hide (show turnV a b c d = 0 from by simp [turnV, turnK, h1, h2, h3, h4])
    have HK := hide (show turnK a b c d = false from by simp [turnK, h1, h2, h3, h4])
    go_enter Try.func25, Try.ntmps25
    go_wp2_with (first | (go_at_call 44; refine (l8Good_c _ _ _).mono ?_; rintro e w1 ⟨rfl, hb⟩; have hT : w1.cell? ⟨w.heap.size, 0, none⟩ = some (.int .i64 a) ∧ w1.cell? ⟨w.heap.size, 1, none⟩ = some (.int .i64 b) ∧ w1.cell? ⟨w.heap.size + 1, 0, none⟩ = some (.int .i64 c) ∧ w1.cell? ⟨w.heap.size + 1, 1, none⟩ = some (.int .i64 d) ∧ Below w.heap.size w w1 := keep4 (by first | assumption | (exact hS) | (refine ⟨?_, ?_, ?_, ?_, ?_⟩ <;> (first | (simp [go_sem]; done) | (simp [go_sem, *]; done) | (go_grown; done)))) hb; (try clear hS); have hS := hT; clear hT; have hB := hS.2.2.2.2; have hzw := hB.size; have hz1 : w.heap.size < w1.heap.size := World.block_lt_of_cell? w1 _ (hS.1); have hz2 : w.heap.size + 1 < w1.heap.size := World.block_lt_of_cell? w1 _ (hS.2.2.1); clear hb) | (go_at_call 46; refine (l8Square_c _ _ (by assumption) _).mono ?_; rintro e w1 ⟨rfl, hb⟩; have hT : w1.cell? ⟨w.heap.size, 0, none⟩ = some (.int .i64 a) ∧ w1.cell? ⟨w.heap.size, 1, none⟩ = some (.int .i64 b) ∧ w1.cell? ⟨w.heap.size + 1, 0, none⟩ = some (.int .i64 c) ∧ w1.cell? ⟨w.heap.size + 1, 1, none⟩ = some (.int .i64 d) ∧ Below w.heap.size w w1 := keep4 (by first | assumption | (exact hS) | (refine ⟨?_, ?_, ?_, ?_, ?_⟩ <;> (first | (simp [go_sem]; done) | (simp [go_sem, *]; done) | (go_grown; done)))) hb; (try clear hS); have hS := hT; clear hT; have hB := hS.2.2.2.2; have hzw := hB.size; have hz1 : w.heap.size < w1.heap.size := World.block_lt_of_cell? w1 _ (hS.1); have hz2 : w.heap.size + 1 < w1.heap.size := World.block_lt_of_cell? w1 _ (hS.2.2.1); clear hb))
    all_goals (go_returns; exact ⟨ret_eq (by rw [HF.out, HK.out]; simp), by go_grown⟩)
  have h9z2 : ¬ sq c d = 0 := fun e => (by have e2 := sq_zero.1 e; simp [stand, e2] at h4)
  have z2 : (sq c d == 0) = false := by simp [h9z2]
  obtain ⟨⟨ka0, ka1⟩, kb0, kb1⟩ := vV_iff.1 h1
  obtain ⟨⟨kc0, kc1⟩, kd0, kd1⟩ := vV_iff.1 h2
  have m1 := mul_bd ka0 ka1 kd0 kd1
  have m2 := mul_bd kb0 kb1 kc0 kc1
  have m3 := mul_bd ka0 ka1 kc0 kc1
  have m4 := mul_bd kb0 kb1 kd0 kd1
  have ew1 : IntKind.i64.wrap (a * d) = a * d := IntWalk.i64_in _ (by omega)
  have ew2 : IntKind.i64.wrap (b * c) = b * c := IntWalk.i64_in _ (by omega)
  have ew3 : IntKind.i64.wrap (a * c) = a * c := IntWalk.i64_in _ (by omega)
  have ew4 : IntKind.i64.wrap (b * d) = b * d := IntWalk.i64_in _ (by omega)
  have ew5 : IntKind.i64.wrap (a * d - b * c) = a * d - b * c := IntWalk.i64_in _ (by omega)
  have ew6 : IntKind.i64.wrap (a * c + b * d) = a * c + b * d := IntWalk.i64_in _ (by omega)
  by_cases g1 : a * d - b * c < 0
  · have HF := hide (show turnV a b c d = 1 from by unfold turnV; rw [if_pos (by simp [turnK, h1, h2, h3, h4]), if_pos g1])
    have HK := hide (show turnK a b c d = true from by simp [turnK, h1, h2, h3, h4])
    go_enter Try.func25, Try.ntmps25
    go_wp2_with (first | (go_at_call 44; refine (l8Good_c _ _ _).mono ?_; rintro e w1 ⟨rfl, hb⟩; have hT : w1.cell? ⟨w.heap.size, 0, none⟩ = some (.int .i64 a) ∧ w1.cell? ⟨w.heap.size, 1, none⟩ = some (.int .i64 b) ∧ w1.cell? ⟨w.heap.size + 1, 0, none⟩ = some (.int .i64 c) ∧ w1.cell? ⟨w.heap.size + 1, 1, none⟩ = some (.int .i64 d) ∧ Below w.heap.size w w1 := keep4 (by first | assumption | (exact hS) | (refine ⟨?_, ?_, ?_, ?_, ?_⟩ <;> (first | (simp [go_sem]; done) | (simp [go_sem, *]; done) | (go_grown; done)))) hb; (try clear hS); have hS := hT; clear hT; have hB := hS.2.2.2.2; have hzw := hB.size; have hz1 : w.heap.size < w1.heap.size := World.block_lt_of_cell? w1 _ (hS.1); have hz2 : w.heap.size + 1 < w1.heap.size := World.block_lt_of_cell? w1 _ (hS.2.2.1); clear hb) | (go_at_call 46; refine (l8Square_c _ _ (by assumption) _).mono ?_; rintro e w1 ⟨rfl, hb⟩; have hT : w1.cell? ⟨w.heap.size, 0, none⟩ = some (.int .i64 a) ∧ w1.cell? ⟨w.heap.size, 1, none⟩ = some (.int .i64 b) ∧ w1.cell? ⟨w.heap.size + 1, 0, none⟩ = some (.int .i64 c) ∧ w1.cell? ⟨w.heap.size + 1, 1, none⟩ = some (.int .i64 d) ∧ Below w.heap.size w w1 := keep4 (by first | assumption | (exact hS) | (refine ⟨?_, ?_, ?_, ?_, ?_⟩ <;> (first | (simp [go_sem]; done) | (simp [go_sem, *]; done) | (go_grown; done)))) hb; (try clear hS); have hS := hT; clear hT; have hB := hS.2.2.2.2; have hzw := hB.size; have hz1 : w.heap.size < w1.heap.size := World.block_lt_of_cell? w1 _ (hS.1); have hz2 : w.heap.size + 1 < w1.heap.size := World.block_lt_of_cell? w1 _ (hS.2.2.1); clear hb))
    refine wp_region_det (fun w' => w'.cell? ⟨w.heap.size, 0, none⟩ = some (.int .i64 a) ∧ w'.cell? ⟨w.heap.size, 1, none⟩ = some (.int .i64 b) ∧ w'.cell? ⟨w.heap.size + 1, 0, none⟩ = some (.int .i64 c) ∧ w'.cell? ⟨w.heap.size + 1, 1, none⟩ = some (.int .i64 d) ∧ Below w.heap.size w w') (by kernel_rfl) (by kernel_rfl) (by first | assumption | (exact hS) | (refine ⟨?_, ?_, ?_, ?_, ?_⟩ <;> (first | (simp [go_sem]; done) | (simp [go_sem, *]; done) | (go_grown; done)))) ?_
    repeat (first
      | ((refine wpDet_skip (by rfl) ?_); simp only [Act.put, List.setIfInBounds_toArray, List.set_cons_zero, List.set_cons_succ])
      | ((refine wpDet_val (v := ?_) (by rfl) (fun w hS => ?_) ?_); rotate_left; (focus ((try dsimp only at hS); go_simp; (try (with_reducible rfl)); done)); simp only [Act.put, List.setIfInBounds_toArray, List.set_cons_zero, List.set_cons_succ]))
    refine wpDet_nil ?_
    intro w1 hS
    have hT : w1.cell? ⟨w.heap.size, 0, none⟩ = some (.int .i64 a) ∧ w1.cell? ⟨w.heap.size, 1, none⟩ = some (.int .i64 b) ∧ w1.cell? ⟨w.heap.size + 1, 0, none⟩ = some (.int .i64 c) ∧ w1.cell? ⟨w.heap.size + 1, 1, none⟩ = some (.int .i64 d) ∧ Below w.heap.size w w1 := hS
    clear hS
    have hS := hT
    obtain ⟨c0, c1, c2, c3, hB⟩ := hT
    go_wp2
    all_goals (go_returns; exact ⟨ret_eq (by rw [HF.out, HK.out]; simp), by go_grown⟩)
  by_cases g2 : a * d - b * c > 0
  · have HF := hide (show turnV a b c d = 2 from by unfold turnV; rw [if_pos (by simp [turnK, h1, h2, h3, h4]), if_neg g1, if_pos g2])
    have HK := hide (show turnK a b c d = true from by simp [turnK, h1, h2, h3, h4])
    go_enter Try.func25, Try.ntmps25
    go_wp2_with (first | (go_at_call 44; refine (l8Good_c _ _ _).mono ?_; rintro e w1 ⟨rfl, hb⟩; have hT : w1.cell? ⟨w.heap.size, 0, none⟩ = some (.int .i64 a) ∧ w1.cell? ⟨w.heap.size, 1, none⟩ = some (.int .i64 b) ∧ w1.cell? ⟨w.heap.size + 1, 0, none⟩ = some (.int .i64 c) ∧ w1.cell? ⟨w.heap.size + 1, 1, none⟩ = some (.int .i64 d) ∧ Below w.heap.size w w1 := keep4 (by first | assumption | (exact hS) | (refine ⟨?_, ?_, ?_, ?_, ?_⟩ <;> (first | (simp [go_sem]; done) | (simp [go_sem, *]; done) | (go_grown; done)))) hb; (try clear hS); have hS := hT; clear hT; have hB := hS.2.2.2.2; have hzw := hB.size; have hz1 : w.heap.size < w1.heap.size := World.block_lt_of_cell? w1 _ (hS.1); have hz2 : w.heap.size + 1 < w1.heap.size := World.block_lt_of_cell? w1 _ (hS.2.2.1); clear hb) | (go_at_call 46; refine (l8Square_c _ _ (by assumption) _).mono ?_; rintro e w1 ⟨rfl, hb⟩; have hT : w1.cell? ⟨w.heap.size, 0, none⟩ = some (.int .i64 a) ∧ w1.cell? ⟨w.heap.size, 1, none⟩ = some (.int .i64 b) ∧ w1.cell? ⟨w.heap.size + 1, 0, none⟩ = some (.int .i64 c) ∧ w1.cell? ⟨w.heap.size + 1, 1, none⟩ = some (.int .i64 d) ∧ Below w.heap.size w w1 := keep4 (by first | assumption | (exact hS) | (refine ⟨?_, ?_, ?_, ?_, ?_⟩ <;> (first | (simp [go_sem]; done) | (simp [go_sem, *]; done) | (go_grown; done)))) hb; (try clear hS); have hS := hT; clear hT; have hB := hS.2.2.2.2; have hzw := hB.size; have hz1 : w.heap.size < w1.heap.size := World.block_lt_of_cell? w1 _ (hS.1); have hz2 : w.heap.size + 1 < w1.heap.size := World.block_lt_of_cell? w1 _ (hS.2.2.1); clear hb))
    refine wp_region_det (fun w' => w'.cell? ⟨w.heap.size, 0, none⟩ = some (.int .i64 a) ∧ w'.cell? ⟨w.heap.size, 1, none⟩ = some (.int .i64 b) ∧ w'.cell? ⟨w.heap.size + 1, 0, none⟩ = some (.int .i64 c) ∧ w'.cell? ⟨w.heap.size + 1, 1, none⟩ = some (.int .i64 d) ∧ Below w.heap.size w w') (by kernel_rfl) (by kernel_rfl) (by first | assumption | (exact hS) | (refine ⟨?_, ?_, ?_, ?_, ?_⟩ <;> (first | (simp [go_sem]; done) | (simp [go_sem, *]; done) | (go_grown; done)))) ?_
    repeat (first
      | ((refine wpDet_skip (by rfl) ?_); simp only [Act.put, List.setIfInBounds_toArray, List.set_cons_zero, List.set_cons_succ])
      | ((refine wpDet_val (v := ?_) (by rfl) (fun w hS => ?_) ?_); rotate_left; (focus ((try dsimp only at hS); go_simp; (try (with_reducible rfl)); done)); simp only [Act.put, List.setIfInBounds_toArray, List.set_cons_zero, List.set_cons_succ]))
    refine wpDet_nil ?_
    intro w1 hS
    have hT : w1.cell? ⟨w.heap.size, 0, none⟩ = some (.int .i64 a) ∧ w1.cell? ⟨w.heap.size, 1, none⟩ = some (.int .i64 b) ∧ w1.cell? ⟨w.heap.size + 1, 0, none⟩ = some (.int .i64 c) ∧ w1.cell? ⟨w.heap.size + 1, 1, none⟩ = some (.int .i64 d) ∧ Below w.heap.size w w1 := hS
    clear hS
    have hS := hT
    obtain ⟨c0, c1, c2, c3, hB⟩ := hT
    go_wp2
    all_goals (go_returns; exact ⟨ret_eq (by rw [HF.out, HK.out]; simp), by go_grown⟩)
  by_cases g3 : a * c + b * d < 0
  · have HF := hide (show turnV a b c d = 3 from by unfold turnV; rw [if_pos (by simp [turnK, h1, h2, h3, h4]), if_neg g1, if_neg g2, if_pos g3])
    have HK := hide (show turnK a b c d = true from by simp [turnK, h1, h2, h3, h4])
    go_enter Try.func25, Try.ntmps25
    go_wp2_with (first | (go_at_call 44; refine (l8Good_c _ _ _).mono ?_; rintro e w1 ⟨rfl, hb⟩; have hT : w1.cell? ⟨w.heap.size, 0, none⟩ = some (.int .i64 a) ∧ w1.cell? ⟨w.heap.size, 1, none⟩ = some (.int .i64 b) ∧ w1.cell? ⟨w.heap.size + 1, 0, none⟩ = some (.int .i64 c) ∧ w1.cell? ⟨w.heap.size + 1, 1, none⟩ = some (.int .i64 d) ∧ Below w.heap.size w w1 := keep4 (by first | assumption | (exact hS) | (refine ⟨?_, ?_, ?_, ?_, ?_⟩ <;> (first | (simp [go_sem]; done) | (simp [go_sem, *]; done) | (go_grown; done)))) hb; (try clear hS); have hS := hT; clear hT; have hB := hS.2.2.2.2; have hzw := hB.size; have hz1 : w.heap.size < w1.heap.size := World.block_lt_of_cell? w1 _ (hS.1); have hz2 : w.heap.size + 1 < w1.heap.size := World.block_lt_of_cell? w1 _ (hS.2.2.1); clear hb) | (go_at_call 46; refine (l8Square_c _ _ (by assumption) _).mono ?_; rintro e w1 ⟨rfl, hb⟩; have hT : w1.cell? ⟨w.heap.size, 0, none⟩ = some (.int .i64 a) ∧ w1.cell? ⟨w.heap.size, 1, none⟩ = some (.int .i64 b) ∧ w1.cell? ⟨w.heap.size + 1, 0, none⟩ = some (.int .i64 c) ∧ w1.cell? ⟨w.heap.size + 1, 1, none⟩ = some (.int .i64 d) ∧ Below w.heap.size w w1 := keep4 (by first | assumption | (exact hS) | (refine ⟨?_, ?_, ?_, ?_, ?_⟩ <;> (first | (simp [go_sem]; done) | (simp [go_sem, *]; done) | (go_grown; done)))) hb; (try clear hS); have hS := hT; clear hT; have hB := hS.2.2.2.2; have hzw := hB.size; have hz1 : w.heap.size < w1.heap.size := World.block_lt_of_cell? w1 _ (hS.1); have hz2 : w.heap.size + 1 < w1.heap.size := World.block_lt_of_cell? w1 _ (hS.2.2.1); clear hb))
    refine wp_region_det (fun w' => w'.cell? ⟨w.heap.size, 0, none⟩ = some (.int .i64 a) ∧ w'.cell? ⟨w.heap.size, 1, none⟩ = some (.int .i64 b) ∧ w'.cell? ⟨w.heap.size + 1, 0, none⟩ = some (.int .i64 c) ∧ w'.cell? ⟨w.heap.size + 1, 1, none⟩ = some (.int .i64 d) ∧ Below w.heap.size w w') (by kernel_rfl) (by kernel_rfl) (by first | assumption | (exact hS) | (refine ⟨?_, ?_, ?_, ?_, ?_⟩ <;> (first | (simp [go_sem]; done) | (simp [go_sem, *]; done) | (go_grown; done)))) ?_
    repeat (first
      | ((refine wpDet_skip (by rfl) ?_); simp only [Act.put, List.setIfInBounds_toArray, List.set_cons_zero, List.set_cons_succ])
      | ((refine wpDet_val (v := ?_) (by rfl) (fun w hS => ?_) ?_); rotate_left; (focus ((try dsimp only at hS); go_simp; (try (with_reducible rfl)); done)); simp only [Act.put, List.setIfInBounds_toArray, List.set_cons_zero, List.set_cons_succ]))
    refine wpDet_nil ?_
    intro w1 hS
    have hT : w1.cell? ⟨w.heap.size, 0, none⟩ = some (.int .i64 a) ∧ w1.cell? ⟨w.heap.size, 1, none⟩ = some (.int .i64 b) ∧ w1.cell? ⟨w.heap.size + 1, 0, none⟩ = some (.int .i64 c) ∧ w1.cell? ⟨w.heap.size + 1, 1, none⟩ = some (.int .i64 d) ∧ Below w.heap.size w w1 := hS
    clear hS
    have hS := hT
    obtain ⟨c0, c1, c2, c3, hB⟩ := hT
    go_wp2
    all_goals (go_returns; exact ⟨ret_eq (by rw [HF.out, HK.out]; simp), by go_grown⟩)
  have HF := hide (show turnV a b c d = 0 from by unfold turnV; rw [if_pos (by simp [turnK, h1, h2, h3, h4]), if_neg g1, if_neg g2, if_neg g3])
  have HK := hide (show turnK a b c d = true from by simp [turnK, h1, h2, h3, h4])
  go_enter Try.func25, Try.ntmps25
  go_wp2_with (first | (go_at_call 44; refine (l8Good_c _ _ _).mono ?_; rintro e w1 ⟨rfl, hb⟩; have hT : w1.cell? ⟨w.heap.size, 0, none⟩ = some (.int .i64 a) ∧ w1.cell? ⟨w.heap.size, 1, none⟩ = some (.int .i64 b) ∧ w1.cell? ⟨w.heap.size + 1, 0, none⟩ = some (.int .i64 c) ∧ w1.cell? ⟨w.heap.size + 1, 1, none⟩ = some (.int .i64 d) ∧ Below w.heap.size w w1 := keep4 (by first | assumption | (exact hS) | (refine ⟨?_, ?_, ?_, ?_, ?_⟩ <;> (first | (simp [go_sem]; done) | (simp [go_sem, *]; done) | (go_grown; done)))) hb; (try clear hS); have hS := hT; clear hT; have hB := hS.2.2.2.2; have hzw := hB.size; have hz1 : w.heap.size < w1.heap.size := World.block_lt_of_cell? w1 _ (hS.1); have hz2 : w.heap.size + 1 < w1.heap.size := World.block_lt_of_cell? w1 _ (hS.2.2.1); clear hb) | (go_at_call 46; refine (l8Square_c _ _ (by assumption) _).mono ?_; rintro e w1 ⟨rfl, hb⟩; have hT : w1.cell? ⟨w.heap.size, 0, none⟩ = some (.int .i64 a) ∧ w1.cell? ⟨w.heap.size, 1, none⟩ = some (.int .i64 b) ∧ w1.cell? ⟨w.heap.size + 1, 0, none⟩ = some (.int .i64 c) ∧ w1.cell? ⟨w.heap.size + 1, 1, none⟩ = some (.int .i64 d) ∧ Below w.heap.size w w1 := keep4 (by first | assumption | (exact hS) | (refine ⟨?_, ?_, ?_, ?_, ?_⟩ <;> (first | (simp [go_sem]; done) | (simp [go_sem, *]; done) | (go_grown; done)))) hb; (try clear hS); have hS := hT; clear hT; have hB := hS.2.2.2.2; have hzw := hB.size; have hz1 : w.heap.size < w1.heap.size := World.block_lt_of_cell? w1 _ (hS.1); have hz2 : w.heap.size + 1 < w1.heap.size := World.block_lt_of_cell? w1 _ (hS.2.2.1); clear hb))
  refine wp_region_det (fun w' => w'.cell? ⟨w.heap.size, 0, none⟩ = some (.int .i64 a) ∧ w'.cell? ⟨w.heap.size, 1, none⟩ = some (.int .i64 b) ∧ w'.cell? ⟨w.heap.size + 1, 0, none⟩ = some (.int .i64 c) ∧ w'.cell? ⟨w.heap.size + 1, 1, none⟩ = some (.int .i64 d) ∧ Below w.heap.size w w') (by kernel_rfl) (by kernel_rfl) (by first | assumption | (exact hS) | (refine ⟨?_, ?_, ?_, ?_, ?_⟩ <;> (first | (simp [go_sem]; done) | (simp [go_sem, *]; done) | (go_grown; done)))) ?_
  repeat (first
    | ((refine wpDet_skip (by rfl) ?_); simp only [Act.put, List.setIfInBounds_toArray, List.set_cons_zero, List.set_cons_succ])
    | ((refine wpDet_val (v := ?_) (by rfl) (fun w hS => ?_) ?_); rotate_left; (focus ((try dsimp only at hS); go_simp; (try (with_reducible rfl)); done)); simp only [Act.put, List.setIfInBounds_toArray, List.set_cons_zero, List.set_cons_succ]))
  refine wpDet_nil ?_
  intro w1 hS
  have hT : w1.cell? ⟨w.heap.size, 0, none⟩ = some (.int .i64 a) ∧ w1.cell? ⟨w.heap.size, 1, none⟩ = some (.int .i64 b) ∧ w1.cell? ⟨w.heap.size + 1, 0, none⟩ = some (.int .i64 c) ∧ w1.cell? ⟨w.heap.size + 1, 1, none⟩ = some (.int .i64 d) ∧ Below w.heap.size w w1 := hS
  clear hS
  have hS := hT
  obtain ⟨c0, c1, c2, c3, hB⟩ := hT
  go_wp2
  all_goals (go_returns; exact ⟨ret_eq (by rw [HF.out, HK.out]; simp), by go_grown⟩)

theorem fnTurnOf (a b c d : Int) (w : World) : Calls Try.prog 7 #[.agg #[.int .i64 a, .int .i64 b], .agg #[.int .i64 c, .int .i64 d]] w (Gives w (.bool true)) := by
  go_enter Try.func7, Try.ntmps7
  go_wp2
  refine wp_region_det (fun w' => w'.cell? ⟨w.heap.size, 0, none⟩ = some (.int .i64 a) ∧ w'.cell? ⟨w.heap.size, 1, none⟩ = some (.int .i64 b) ∧ w'.cell? ⟨w.heap.size + 1, 0, none⟩ = some (.int .i64 c) ∧ w'.cell? ⟨w.heap.size + 1, 1, none⟩ = some (.int .i64 d) ∧ Below w.heap.size w w') (by kernel_rfl) (by kernel_rfl) (by first | assumption | (exact hS) | (refine ⟨?_, ?_, ?_, ?_, ?_⟩ <;> (first | (simp [go_sem]; done) | (simp [go_sem, *]; done) | (go_grown; done)))) ?_
  repeat (first
    | ((refine wpDet_skip (by rfl) ?_); simp only [Act.put, List.setIfInBounds_toArray, List.set_cons_zero, List.set_cons_succ])
    | ((refine wpDet_val (v := ?_) (by rfl) (fun w hS => ?_) ?_); rotate_left; (focus ((try dsimp only at hS); go_simp; (try (with_reducible rfl)); done)); simp only [Act.put, List.setIfInBounds_toArray, List.set_cons_zero, List.set_cons_succ])
    | ((refine wpDet_call (v := ?_) (f := ?_) (args := ?_) (by rfl) (fun w => ?_) (fun w hS => ?_) ?_); rotate_left; rotate_left; rotate_left; (focus (go_simp; (constructor <;> (with_reducible rfl)); done)); (focus (first | (go_at_call 16; refine (toVel_c _ _ _).mono ?_; intro e w' h; refine ⟨h.1.trans ?_, keep4 hS h.2⟩; with_reducible rfl) | (go_at_call 25; refine (sTurn_c _ _ _ _ _).mono ?_; intro e w' h; refine ⟨h.1.trans ?_, keep4 hS h.2⟩; with_reducible rfl))); simp only [Act.put, List.setIfInBounds_toArray, List.set_cons_zero, List.set_cons_succ]))
  refine wpDet_nil ?_
  intro w1 hS
  have hT : w1.cell? ⟨w.heap.size, 0, none⟩ = some (.int .i64 a) ∧ w1.cell? ⟨w.heap.size, 1, none⟩ = some (.int .i64 b) ∧ w1.cell? ⟨w.heap.size + 1, 0, none⟩ = some (.int .i64 c) ∧ w1.cell? ⟨w.heap.size + 1, 1, none⟩ = some (.int .i64 d) ∧ Below w.heap.size w w1 := hS
  clear hS
  have hS := hT
  obtain ⟨c0, c1, c2, c3, hB⟩ := hT
  go_wp2
  refine wp_region_det (fun w' => w'.cell? ⟨w.heap.size, 0, none⟩ = some (.int .i64 a) ∧ w'.cell? ⟨w.heap.size, 1, none⟩ = some (.int .i64 b) ∧ w'.cell? ⟨w.heap.size + 1, 0, none⟩ = some (.int .i64 c) ∧ w'.cell? ⟨w.heap.size + 1, 1, none⟩ = some (.int .i64 d) ∧ Below w.heap.size w w') (by kernel_rfl) (by kernel_rfl) (by first | assumption | (exact hS) | (refine ⟨?_, ?_, ?_, ?_, ?_⟩ <;> (first | (simp [go_sem]; done) | (simp [go_sem, *]; done) | (go_grown; done)))) ?_
  repeat (first
    | ((refine wpDet_skip (by rfl) ?_); simp only [Act.put, List.setIfInBounds_toArray, List.set_cons_zero, List.set_cons_succ])
    | ((refine wpDet_val (v := ?_) (by rfl) (fun w hS => ?_) ?_); rotate_left; (focus ((try dsimp only at hS); go_simp; (try (with_reducible rfl)); done)); simp only [Act.put, List.setIfInBounds_toArray, List.set_cons_zero, List.set_cons_succ])
    | ((refine wpDet_call (v := ?_) (f := ?_) (args := ?_) (by rfl) (fun w => ?_) (fun w hS => ?_) ?_); rotate_left; rotate_left; rotate_left; (focus (go_simp; (constructor <;> (with_reducible rfl)); done)); (focus (first | (go_at_call 16; refine (toVel_c _ _ _).mono ?_; intro e w' h; refine ⟨h.1.trans ?_, keep4 hS h.2⟩; with_reducible rfl) | (go_at_call 26; refine (turn_c _ _ _ _ _).mono ?_; intro e w' h; refine ⟨h.1.trans ?_, keep4 hS h.2⟩; with_reducible rfl))); simp only [Act.put, List.setIfInBounds_toArray, List.set_cons_zero, List.set_cons_succ]))
  refine wpDet_nil ?_
  intro w1 hS
  have hT : w1.cell? ⟨w.heap.size, 0, none⟩ = some (.int .i64 a) ∧ w1.cell? ⟨w.heap.size, 1, none⟩ = some (.int .i64 b) ∧ w1.cell? ⟨w.heap.size + 1, 0, none⟩ = some (.int .i64 c) ∧ w1.cell? ⟨w.heap.size + 1, 1, none⟩ = some (.int .i64 d) ∧ Below w.heap.size w w1 := hS
  clear hS
  have hS := hT
  obtain ⟨c0, c1, c2, c3, hB⟩ := hT
  go_wp2
  go_returns
  exact ⟨ret_eq rfl, hB⟩
end Go.Proofs.Ytpcabjjmphcpeaa
