/- Contracts: how a velocity is sent. -/
import Derived.Test.YtpcabjjmphcpeaaSpB
import Derived.Test.YtpcabjjmphcpeaaStrA
import Derived.Test.YtpcabjjmphcpeaaEncMath
namespace Go.Proofs.Ytpcabjjmphcpeaa
open Go.RowKit

theorem signed_c (x : Int) (h0 : -1023 ≤ x) (h1 : x ≤ 1023) (w : World) : Calls Try.prog 51 #[.int .i64 x] w fun e w' => e = .returned (.int .i64 (sg x)) ∧ w = w' := by
  go_enter Try.func51, Try.ntmps51
  go_wp2
  all_goals (go_returns; exact ⟨ret_eq (by refine int_eq ?_; unfold sg; split <;> omega), rfl⟩)

theorem unsigned_c (x : Int) (h0 : 0 ≤ x) (h1 : x ≤ 2047) (w : World) : Calls Try.prog 57 #[.int .i64 x] w fun e w' => e = .returned (.int .i64 (us x)) ∧ w = w' := by
  go_enter Try.func57, Try.ntmps57
  go_wp2
  all_goals (go_returns; exact ⟨ret_eq (by refine int_eq ?_; unfold us; split <;> omega), rfl⟩)

theorem l8Signed_c (x : Int) (h0 : -1023 ≤ x) (h1 : x ≤ 1023) (w : World) : Calls Try.prog 50 #[.int .i64 x] w fun r' w' => r' = .returned (.string (sgnS x)) ∧ w = w' := by
  by_cases g : x < 0
  · have HS := hide (show sgnS x = str [49] ++ str (bitsL (-x) 10) from by rw [str_app]; unfold sgnS sgnL; rw [if_pos g]; rfl)
    have hsz : (str (bitsL (-x) 10)).size = 10 := by rw [str_size, bitsL_len]
    go_enter Try.func50, Try.ntmps50
    go_wp2_with (first | (go_at_call 56; refine (l2Of_c _ 10 (by omega) (by omega) (by omega) _).mono ?_; rintro e w1 ⟨rfl, rfl⟩))
    go_returns
    exact ⟨ret_eq (by rw [HS.out]; simp [str]), rfl⟩
  have HS := hide (show sgnS x = str [48] ++ str (bitsL (x) 10) from by rw [str_app]; unfold sgnS sgnL; rw [if_neg g]; rfl)
  have hsz : (str (bitsL (x) 10)).size = 10 := by rw [str_size, bitsL_len]
  go_enter Try.func50, Try.ntmps50
  go_wp2_with (first | (go_at_call 56; refine (l2Of_c _ 10 (by omega) (by omega) (by omega) _).mono ?_; rintro e w1 ⟨rfl, rfl⟩))
  go_returns
  exact ⟨ret_eq (by rw [HS.out]; simp [str]), rfl⟩

theorem enc_c (x y : Int) (w : World) : Calls Try.prog 28 #[.agg #[.int .i64 x, .int .i64 y]] w (Gives w (.tuple #[.int .i64 (enc x y), .bool (vV x y)])) := by
  rcases h1 : vV x y with _ | _
  · go_enter Try.func28, Try.ntmps28
    go_wp2_with (first | (go_at_call 17; refine (validVel_c _ _ _).mono ?_; rintro e w1 ⟨rfl, hb⟩; have hT : w1.cell? ⟨w.heap.size, 0, none⟩ = some (.int .i64 x) ∧ w1.cell? ⟨w.heap.size, 1, none⟩ = some (.int .i64 y) ∧ Below w.heap.size w w1 := keep2 (by first | assumption | (exact hS) | (refine ⟨?_, ?_, ?_⟩ <;> (first | (simp [go_sem]; done) | (simp [go_sem, *]; done) | (go_grown; done)))) hb; (try clear hS); have hS := hT; clear hT; have hB := hS.2.2; have hzw := hB.size; have hz1 : w.heap.size < w1.heap.size := World.block_lt_of_cell? w1 _ (hS.1); clear hb))
    go_returns
    exact ⟨ret_eq (by simp [enc, h1]), by go_grown⟩
  obtain ⟨⟨ka0, ka1⟩, kb0, kb1⟩ := vV_iff.1 h1
  have b1 := sg_bd (x := x) (by omega) (by omega)
  have b2 := sg_bd (x := y) (by omega) (by omega)
  have HE := hide (show enc x y = (2048 * sg x + sg y) * 4 from by simp [enc, h1])
  have ew2 : IntKind.i64.wrap (2048 * sg x) = 2048 * sg x := IntWalk.i64_in _ (by omega)
  have ew3 : IntKind.i64.wrap (2048 * sg x + sg y) = 2048 * sg x + sg y := IntWalk.i64_in _ (by omega)
  have ew1 : IntKind.i64.wrap ((2048 * sg x + sg y) * 4) = (2048 * sg x + sg y) * 4 := IntWalk.i64_in _ (by omega)
  go_enter Try.func28, Try.ntmps28
  go_wp2_with (first | (go_at_call 17; refine (validVel_c _ _ _).mono ?_; rintro e w1 ⟨rfl, hb⟩; have hT : w1.cell? ⟨w.heap.size, 0, none⟩ = some (.int .i64 x) ∧ w1.cell? ⟨w.heap.size, 1, none⟩ = some (.int .i64 y) ∧ Below w.heap.size w w1 := keep2 (by first | assumption | (exact hS) | (refine ⟨?_, ?_, ?_⟩ <;> (first | (simp [go_sem]; done) | (simp [go_sem, *]; done) | (go_grown; done)))) hb; (try clear hS); have hS := hT; clear hT; have hB := hS.2.2; have hzw := hB.size; have hz1 : w.heap.size < w1.heap.size := World.block_lt_of_cell? w1 _ (hS.1); clear hb))
  refine wp_region_det (fun w' => w'.cell? ⟨w.heap.size, 0, none⟩ = some (.int .i64 x) ∧ w'.cell? ⟨w.heap.size, 1, none⟩ = some (.int .i64 y) ∧ Below w.heap.size w w') (by kernel_rfl) (by kernel_rfl) (by first | assumption | (exact hS) | (refine ⟨?_, ?_, ?_⟩ <;> (first | (simp [go_sem]; done) | (simp [go_sem, *]; done) | (go_grown; done)))) ?_
  repeat (first
    | ((refine wpDet_skip (by rfl) ?_); simp only [Act.put, List.setIfInBounds_toArray, List.set_cons_zero, List.set_cons_succ])
    | ((refine wpDet_val (v := ?_) (by rfl) (fun w hS => ?_) ?_); rotate_left; (focus ((try dsimp only at hS); go_simp; (try (with_reducible rfl)); done)); simp only [Act.put, List.setIfInBounds_toArray, List.set_cons_zero, List.set_cons_succ])
    | ((refine wpDet_call (v := ?_) (f := ?_) (args := ?_) (by rfl) (fun w => ?_) (fun w hS => ?_) ?_); rotate_left; rotate_left; rotate_left; (focus (go_simp; (constructor <;> (with_reducible rfl)); done)); (focus (first | (go_at_call 51; refine (signed_c _ (by omega) (by omega) _).mono ?_; intro e w' h; refine ⟨h.1.trans ?_, h.2 ▸ hS⟩; with_reducible rfl))); simp only [Act.put, List.setIfInBounds_toArray, List.set_cons_zero, List.set_cons_succ]))
  refine wpDet_nil ?_
  intro w1 hS
  have hT : w1.cell? ⟨w.heap.size, 0, none⟩ = some (.int .i64 x) ∧ w1.cell? ⟨w.heap.size, 1, none⟩ = some (.int .i64 y) ∧ Below w.heap.size w w1 := hS
  clear hS
  have hS := hT
  obtain ⟨c0, c1, hB⟩ := hT
  go_wp2
  go_returns
  exact ⟨ret_eq (by rw [HE.out]; simp), hB⟩

theorem sEnc_c (x y : Int) (w : World) : Calls Try.prog 27 #[.agg #[.int .i64 x, .int .i64 y]] w (Gives w (.tuple #[.int .i64 (enc x y), .bool (vV x y)])) := by
  rcases h1 : vV x y with _ | _
  · go_enter Try.func27, Try.ntmps27
    go_wp2_with (first | (go_at_call 44; refine (l8Good_c _ _ _).mono ?_; rintro e w1 ⟨rfl, hb⟩; have hT : w1.cell? ⟨w.heap.size, 0, none⟩ = some (.int .i64 x) ∧ w1.cell? ⟨w.heap.size, 1, none⟩ = some (.int .i64 y) ∧ Below w.heap.size w w1 := keep2 (by first | assumption | (exact hS) | (refine ⟨?_, ?_, ?_⟩ <;> (first | (simp [go_sem]; done) | (simp [go_sem, *]; done) | (go_grown; done)))) hb; (try clear hS); have hS := hT; clear hT; have hB := hS.2.2; have hzw := hB.size; have hz1 : w.heap.size < w1.heap.size := World.block_lt_of_cell? w1 _ (hS.1); clear hb))
    go_returns
    exact ⟨ret_eq (by simp [enc, h1]), by go_grown⟩
  obtain ⟨⟨ka0, ka1⟩, kb0, kb1⟩ := vV_iff.1 h1
  have z1 := sgnS_size x
  have z2 := sgnS_size y
  have HE := hide (show numL (sentS x y).data.toList = enc x y from by rw [sentS_num h1]; simp [enc, h1])
  go_enter Try.func27, Try.ntmps27
  go_wp2_with (first | (go_at_call 44; refine (l8Good_c _ _ _).mono ?_; rintro e w1 ⟨rfl, hb⟩; have hT : w1.cell? ⟨w.heap.size, 0, none⟩ = some (.int .i64 x) ∧ w1.cell? ⟨w.heap.size, 1, none⟩ = some (.int .i64 y) ∧ Below w.heap.size w w1 := keep2 (by first | assumption | (exact hS) | (refine ⟨?_, ?_, ?_⟩ <;> (first | (simp [go_sem]; done) | (simp [go_sem, *]; done) | (go_grown; done)))) hb; (try clear hS); have hS := hT; clear hT; have hB := hS.2.2; have hzw := hB.size; have hz1 : w.heap.size < w1.heap.size := World.block_lt_of_cell? w1 _ (hS.1); clear hb))
  refine wp_region_det (fun w' => w'.cell? ⟨w.heap.size, 0, none⟩ = some (.int .i64 x) ∧ w'.cell? ⟨w.heap.size, 1, none⟩ = some (.int .i64 y) ∧ Below w.heap.size w w') (by kernel_rfl) (by kernel_rfl) (by first | assumption | (exact hS) | (refine ⟨?_, ?_, ?_⟩ <;> (first | (simp [go_sem]; done) | (simp [go_sem, *]; done) | (go_grown; done)))) ?_
  repeat (first
    | ((refine wpDet_skip (by rfl) ?_); simp only [Act.put, List.setIfInBounds_toArray, List.set_cons_zero, List.set_cons_succ])
    | ((refine wpDet_val (v := ?_) (by rfl) (fun w hS => ?_) ?_); rotate_left; (focus ((try dsimp only at hS); go_simp; (try (with_reducible rfl)); done)); simp only [Act.put, List.setIfInBounds_toArray, List.set_cons_zero, List.set_cons_succ])
    | ((refine wpDet_call (v := ?_) (f := ?_) (args := ?_) (by rfl) (fun w => ?_) (fun w hS => ?_) ?_); rotate_left; rotate_left; rotate_left; (focus (go_simp; (constructor <;> (with_reducible rfl)); done)); (focus (first | (go_at_call 50; refine (l8Signed_c _ (by omega) (by omega) _).mono ?_; intro e w' h; refine ⟨h.1.trans ?_, h.2 ▸ hS⟩; with_reducible rfl) | (go_at_call 49; refine (l2Number_c (sentS x y) (by rw [sentS_size]; omega) (sentS_isB x y) _).mono ?_; intro e w' h; refine ⟨h.1.trans ?_, h.2 ▸ hS⟩; with_reducible rfl))); simp only [Act.put, List.setIfInBounds_toArray, List.set_cons_zero, List.set_cons_succ]))
  refine wpDet_nil ?_
  intro w1 hS
  have hT : w1.cell? ⟨w.heap.size, 0, none⟩ = some (.int .i64 x) ∧ w1.cell? ⟨w.heap.size, 1, none⟩ = some (.int .i64 y) ∧ Below w.heap.size w w1 := hS
  clear hS
  have hS := hT
  obtain ⟨c0, c1, hB⟩ := hT
  go_wp2
  go_returns
  exact ⟨ret_eq (by rw [HE.out]; simp), hB⟩

theorem fnEncodeVelocity (x y : Int) (w : World) : Calls Try.prog 8 #[.agg #[.int .i64 x, .int .i64 y]] w (Gives w (.bool true)) := by
  go_enter Try.func8, Try.ntmps8
  go_wp2_with (first | (go_at_call 16; refine (toVel_c _ _ _).mono ?_; rintro e w1 ⟨rfl, hb⟩; have hT : w1.cell? ⟨w.heap.size, 0, none⟩ = some (.int .i64 x) ∧ w1.cell? ⟨w.heap.size, 1, none⟩ = some (.int .i64 y) ∧ Below w.heap.size w w1 := keep2 (by first | assumption | (exact hS) | (refine ⟨?_, ?_, ?_⟩ <;> (first | (simp [go_sem]; done) | (simp [go_sem, *]; done) | (go_grown; done)))) hb; (try clear hS); have hS := hT; clear hT; have hB := hS.2.2; have hzw := hB.size; have hz1 : w.heap.size < w1.heap.size := World.block_lt_of_cell? w1 _ (hS.1); clear hb) | (go_at_call 27; refine (sEnc_c _ _ _).mono ?_; rintro e w1 ⟨rfl, hb⟩; have hT : w1.cell? ⟨w.heap.size, 0, none⟩ = some (.int .i64 x) ∧ w1.cell? ⟨w.heap.size, 1, none⟩ = some (.int .i64 y) ∧ Below w.heap.size w w1 := keep2 (by first | assumption | (exact hS) | (refine ⟨?_, ?_, ?_⟩ <;> (first | (simp [go_sem]; done) | (simp [go_sem, *]; done) | (go_grown; done)))) hb; (try clear hS); have hS := hT; clear hT; have hB := hS.2.2; have hzw := hB.size; have hz1 : w.heap.size < w1.heap.size := World.block_lt_of_cell? w1 _ (hS.1); clear hb) | (go_at_call 28; refine (enc_c _ _ _).mono ?_; rintro e w1 ⟨rfl, hb⟩; have hT : w1.cell? ⟨w.heap.size, 0, none⟩ = some (.int .i64 x) ∧ w1.cell? ⟨w.heap.size, 1, none⟩ = some (.int .i64 y) ∧ Below w.heap.size w w1 := keep2 (by first | assumption | (exact hS) | (refine ⟨?_, ?_, ?_⟩ <;> (first | (simp [go_sem]; done) | (simp [go_sem, *]; done) | (go_grown; done)))) hb; (try clear hS); have hS := hT; clear hT; have hB := hS.2.2; have hzw := hB.size; have hz1 : w.heap.size < w1.heap.size := World.block_lt_of_cell? w1 _ (hS.1); clear hb))
  all_goals (go_returns; exact ⟨ret_eq (by rfl), by go_grown⟩)
end Go.Proofs.Ytpcabjjmphcpeaa
