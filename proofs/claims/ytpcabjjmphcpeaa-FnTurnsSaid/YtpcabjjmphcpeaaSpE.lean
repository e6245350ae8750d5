/- Contracts: sums of velocities. -/
import Derived.Test.YtpcabjjmphcpeaaSpB
namespace Go.Proofs.Ytpcabjjmphcpeaa
open Go.RowKit

theorem addVel_c (a b c d : Int) (w : World) : Calls Try.prog 21 #[.agg #[.int .i64 a, .int .i64 b], .agg #[.int .i64 c, .int .i64 d]] w (Gives w (.tuple #[.agg #[.int .i64 (addX a b c d), .int .i64 (addY a b c d)], .bool (addK a b c d)])) := by
  rcases h1 : vV a b with _ | _
  · go_enter Try.func21, Try.ntmps21
    go_wp2_with (first | (go_at_call 17; refine (validVel_c _ _ _).mono ?_; rintro e w1 ⟨rfl, hb⟩; have hT : w1.cell? ⟨w.heap.size, 0, none⟩ = some (.int .i64 a) ∧ w1.cell? ⟨w.heap.size, 1, none⟩ = some (.int .i64 b) ∧ w1.cell? ⟨w.heap.size + 1, 0, none⟩ = some (.int .i64 c) ∧ w1.cell? ⟨w.heap.size + 1, 1, none⟩ = some (.int .i64 d) ∧ w1.cell? ⟨w.heap.size + 2, 0, none⟩ = some (.int .i64 0) ∧ w1.cell? ⟨w.heap.size + 2, 1, none⟩ = some (.int .i64 0) ∧ (w.heap.size + 2 < w1.heap.size ∧ ∀ i, w1.frozen? ⟨w.heap.size + 2, i, none⟩ = false) ∧ Below w.heap.size w w1 := keep6_1 (by first | assumption | (exact hS) | (refine ⟨?_, ?_, ?_, ?_, ?_, ?_, ?_, ?_⟩ <;> (first | (simp [go_sem]; done) | (simp [go_sem, *]; done) | (go_grown; done)))) hb; (try clear hS); have hS := hT; clear hT; have hB := hS.2.2.2.2.2.2.2; have hzw := hB.size; have hz1 : w.heap.size < w1.heap.size := World.block_lt_of_cell? w1 _ (hS.1); have hz2 : w.heap.size + 1 < w1.heap.size := World.block_lt_of_cell? w1 _ (hS.2.2.1); have hz3 : w.heap.size + 2 < w1.heap.size := World.block_lt_of_cell? w1 _ (hS.2.2.2.2.1); clear hb))
    refine bodyPost_ret (v := .tuple #[.agg #[.int .i64 0, .int .i64 0], .bool false]) (by simp [results, Try.results21, go_sem, *]) rfl ⟨ret_eq (by simp [addX, addY, addK, h1]), by go_grown⟩
  rcases h2 : vV c d with _ | _
  · go_enter Try.func21, Try.ntmps21
    go_wp2_with (first | (go_at_call 17; refine (validVel_c _ _ _).mono ?_; rintro e w1 ⟨rfl, hb⟩; have hT : w1.cell? ⟨w.heap.size, 0, none⟩ = some (.int .i64 a) ∧ w1.cell? ⟨w.heap.size, 1, none⟩ = some (.int .i64 b) ∧ w1.cell? ⟨w.heap.size + 1, 0, none⟩ = some (.int .i64 c) ∧ w1.cell? ⟨w.heap.size + 1, 1, none⟩ = some (.int .i64 d) ∧ w1.cell? ⟨w.heap.size + 2, 0, none⟩ = some (.int .i64 0) ∧ w1.cell? ⟨w.heap.size + 2, 1, none⟩ = some (.int .i64 0) ∧ (w.heap.size + 2 < w1.heap.size ∧ ∀ i, w1.frozen? ⟨w.heap.size + 2, i, none⟩ = false) ∧ Below w.heap.size w w1 := keep6_1 (by first | assumption | (exact hS) | (refine ⟨?_, ?_, ?_, ?_, ?_, ?_, ?_, ?_⟩ <;> (first | (simp [go_sem]; done) | (simp [go_sem, *]; done) | (go_grown; done)))) hb; (try clear hS); have hS := hT; clear hT; have hB := hS.2.2.2.2.2.2.2; have hzw := hB.size; have hz1 : w.heap.size < w1.heap.size := World.block_lt_of_cell? w1 _ (hS.1); have hz2 : w.heap.size + 1 < w1.heap.size := World.block_lt_of_cell? w1 _ (hS.2.2.1); have hz3 : w.heap.size + 2 < w1.heap.size := World.block_lt_of_cell? w1 _ (hS.2.2.2.2.1); clear hb))
    refine bodyPost_ret (v := .tuple #[.agg #[.int .i64 0, .int .i64 0], .bool false]) (by simp [results, Try.results21, go_sem, *]) rfl ⟨ret_eq (by simp [addX, addY, addK, h1, h2]), by go_grown⟩
  obtain ⟨⟨ka0, ka1⟩, kb0, kb1⟩ := vV_iff.1 h1
  obtain ⟨⟨kc0, kc1⟩, kd0, kd1⟩ := vV_iff.1 h2
  rcases h3 : vV (a + c) (b + d) with _ | _
  · go_enter Try.func21, Try.ntmps21
    go_wp2_with (first | (go_at_call 17; refine (validVel_c _ _ _).mono ?_; rintro e w1 ⟨rfl, hb⟩; have hT : w1.cell? ⟨w.heap.size, 0, none⟩ = some (.int .i64 a) ∧ w1.cell? ⟨w.heap.size, 1, none⟩ = some (.int .i64 b) ∧ w1.cell? ⟨w.heap.size + 1, 0, none⟩ = some (.int .i64 c) ∧ w1.cell? ⟨w.heap.size + 1, 1, none⟩ = some (.int .i64 d) ∧ w1.cell? ⟨w.heap.size + 2, 0, none⟩ = some (.int .i64 0) ∧ w1.cell? ⟨w.heap.size + 2, 1, none⟩ = some (.int .i64 0) ∧ w1.cell? ⟨w.heap.size + 3, 0, none⟩ = some (.int .i64 (a + c)) ∧ w1.cell? ⟨w.heap.size + 3, 1, none⟩ = some (.int .i64 (b + d)) ∧ (w.heap.size + 2 < w1.heap.size ∧ ∀ i, w1.frozen? ⟨w.heap.size + 2, i, none⟩ = false) ∧ Below w.heap.size w w1 := keep8_1 (by first | assumption | (exact hS) | (refine ⟨?_, ?_, ?_, ?_, ?_, ?_, ?_, ?_, ?_, ?_⟩ <;> (first | (simp [go_sem]; done) | (simp [go_sem, *]; done) | (go_grown; done)))) hb; (try clear hS); have hS := hT; clear hT; have hB := hS.2.2.2.2.2.2.2.2.2; have hzw := hB.size; have hz1 : w.heap.size < w1.heap.size := World.block_lt_of_cell? w1 _ (hS.1); have hz2 : w.heap.size + 1 < w1.heap.size := World.block_lt_of_cell? w1 _ (hS.2.2.1); have hz3 : w.heap.size + 2 < w1.heap.size := World.block_lt_of_cell? w1 _ (hS.2.2.2.2.1); have hz4 : w.heap.size + 3 < w1.heap.size := World.block_lt_of_cell? w1 _ (hS.2.2.2.2.2.2.1); clear hb))
    refine bodyPost_ret (v := .tuple #[.agg #[.int .i64 0, .int .i64 0], .bool false]) (by simp [results, Try.results21, go_sem, *]) rfl ⟨ret_eq (by simp [addX, addY, addK, h1, h2, h3]), by go_grown⟩
  go_enter Try.func21, Try.ntmps21
  go_wp2_with (first | (go_at_call 17; refine (validVel_c _ _ _).mono ?_; rintro e w1 ⟨rfl, hb⟩; have hT : w1.cell? ⟨w.heap.size, 0, none⟩ = some (.int .i64 a) ∧ w1.cell? ⟨w.heap.size, 1, none⟩ = some (.int .i64 b) ∧ w1.cell? ⟨w.heap.size + 1, 0, none⟩ = some (.int .i64 c) ∧ w1.cell? ⟨w.heap.size + 1, 1, none⟩ = some (.int .i64 d) ∧ w1.cell? ⟨w.heap.size + 2, 0, none⟩ = some (.int .i64 0) ∧ w1.cell? ⟨w.heap.size + 2, 1, none⟩ = some (.int .i64 0) ∧ w1.cell? ⟨w.heap.size + 3, 0, none⟩ = some (.int .i64 (a + c)) ∧ w1.cell? ⟨w.heap.size + 3, 1, none⟩ = some (.int .i64 (b + d)) ∧ (w.heap.size + 2 < w1.heap.size ∧ ∀ i, w1.frozen? ⟨w.heap.size + 2, i, none⟩ = false) ∧ Below w.heap.size w w1 := keep8_1 (by first | assumption | (exact hS) | (refine ⟨?_, ?_, ?_, ?_, ?_, ?_, ?_, ?_, ?_, ?_⟩ <;> (first | (simp [go_sem]; done) | (simp [go_sem, *]; done) | (go_grown; done)))) hb; (try clear hS); have hS := hT; clear hT; have hB := hS.2.2.2.2.2.2.2.2.2; have hzw := hB.size; have hz1 : w.heap.size < w1.heap.size := World.block_lt_of_cell? w1 _ (hS.1); have hz2 : w.heap.size + 1 < w1.heap.size := World.block_lt_of_cell? w1 _ (hS.2.2.1); have hz3 : w.heap.size + 2 < w1.heap.size := World.block_lt_of_cell? w1 _ (hS.2.2.2.2.1); have hz4 : w.heap.size + 3 < w1.heap.size := World.block_lt_of_cell? w1 _ (hS.2.2.2.2.2.2.1); clear hb))
  refine bodyPost_ret (v := .tuple #[.agg #[.int .i64 (a + c), .int .i64 (b + d)], .bool true]) (by simp [results, Try.results21, go_sem, *]) rfl ⟨ret_eq (by simp [addX, addY, addK, h1, h2, h3]), by go_grown⟩

theorem sAddVel_c (a b c d : Int) (w : World) : Calls Try.prog 20 #[.agg #[.int .i64 a, .int .i64 b], .agg #[.int .i64 c, .int .i64 d]] w (Gives w (.tuple #[.agg #[.int .i64 (addX a b c d), .int .i64 (addY a b c d)], .bool (addK a b c d)])) := by
  rcases h1 : vV a b with _ | _
  · go_enter Try.func20, Try.ntmps20
    go_wp2_with (first | (go_at_call 44; refine (l8Good_c _ _ _).mono ?_; rintro e w1 ⟨rfl, hb⟩; have hT : w1.cell? ⟨w.heap.size, 0, none⟩ = some (.int .i64 a) ∧ w1.cell? ⟨w.heap.size, 1, none⟩ = some (.int .i64 b) ∧ w1.cell? ⟨w.heap.size + 1, 0, none⟩ = some (.int .i64 c) ∧ w1.cell? ⟨w.heap.size + 1, 1, none⟩ = some (.int .i64 d) ∧ w1.cell? ⟨w.heap.size + 2, 0, none⟩ = some (.int .i64 0) ∧ w1.cell? ⟨w.heap.size + 2, 1, none⟩ = some (.int .i64 0) ∧ (w.heap.size + 2 < w1.heap.size ∧ ∀ i, w1.frozen? ⟨w.heap.size + 2, i, none⟩ = false) ∧ Below w.heap.size w w1 := keep6_1 (by first | assumption | (exact hS) | (refine ⟨?_, ?_, ?_, ?_, ?_, ?_, ?_, ?_⟩ <;> (first | (simp [go_sem]; done) | (simp [go_sem, *]; done) | (go_grown; done)))) hb; (try clear hS); have hS := hT; clear hT; have hB := hS.2.2.2.2.2.2.2; have hzw := hB.size; have hz1 : w.heap.size < w1.heap.size := World.block_lt_of_cell? w1 _ (hS.1); have hz2 : w.heap.size + 1 < w1.heap.size := World.block_lt_of_cell? w1 _ (hS.2.2.1); have hz3 : w.heap.size + 2 < w1.heap.size := World.block_lt_of_cell? w1 _ (hS.2.2.2.2.1); clear hb))
    refine bodyPost_ret (v := .tuple #[.agg #[.int .i64 0, .int .i64 0], .bool false]) (by simp [results, Try.results20, go_sem, *]) rfl ⟨ret_eq (by simp [addX, addY, addK, h1]), by go_grown⟩
  rcases h2 : vV c d with _ | _
  · go_enter Try.func20, Try.ntmps20
    go_wp2_with (first | (go_at_call 44; refine (l8Good_c _ _ _).mono ?_; rintro e w1 ⟨rfl, hb⟩; have hT : w1.cell? ⟨w.heap.size, 0, none⟩ = some (.int .i64 a) ∧ w1.cell? ⟨w.heap.size, 1, none⟩ = some (.int .i64 b) ∧ w1.cell? ⟨w.heap.size + 1, 0, none⟩ = some (.int .i64 c) ∧ w1.cell? ⟨w.heap.size + 1, 1, none⟩ = some (.int .i64 d) ∧ w1.cell? ⟨w.heap.size + 2, 0, none⟩ = some (.int .i64 0) ∧ w1.cell? ⟨w.heap.size + 2, 1, none⟩ = some (.int .i64 0) ∧ (w.heap.size + 2 < w1.heap.size ∧ ∀ i, w1.frozen? ⟨w.heap.size + 2, i, none⟩ = false) ∧ Below w.heap.size w w1 := keep6_1 (by first | assumption | (exact hS) | (refine ⟨?_, ?_, ?_, ?_, ?_, ?_, ?_, ?_⟩ <;> (first | (simp [go_sem]; done) | (simp [go_sem, *]; done) | (go_grown; done)))) hb; (try clear hS); have hS := hT; clear hT; have hB := hS.2.2.2.2.2.2.2; have hzw := hB.size; have hz1 : w.heap.size < w1.heap.size := World.block_lt_of_cell? w1 _ (hS.1); have hz2 : w.heap.size + 1 < w1.heap.size := World.block_lt_of_cell? w1 _ (hS.2.2.1); have hz3 : w.heap.size + 2 < w1.heap.size := World.block_lt_of_cell? w1 _ (hS.2.2.2.2.1); clear hb))
    refine bodyPost_ret (v := .tuple #[.agg #[.int .i64 0, .int .i64 0], .bool false]) (by simp [results, Try.results20, go_sem, *]) rfl ⟨ret_eq (by simp [addX, addY, addK, h1, h2]), by go_grown⟩
  obtain ⟨⟨ka0, ka1⟩, kb0, kb1⟩ := vV_iff.1 h1
  obtain ⟨⟨kc0, kc1⟩, kd0, kd1⟩ := vV_iff.1 h2
  rcases h3 : vV (a + c) (b + d) with _ | _
  · go_enter Try.func20, Try.ntmps20
    go_wp2_with (first | (go_at_call 44; refine (l8Good_c _ _ _).mono ?_; rintro e w1 ⟨rfl, hb⟩; have hT : w1.cell? ⟨w.heap.size, 0, none⟩ = some (.int .i64 a) ∧ w1.cell? ⟨w.heap.size, 1, none⟩ = some (.int .i64 b) ∧ w1.cell? ⟨w.heap.size + 1, 0, none⟩ = some (.int .i64 c) ∧ w1.cell? ⟨w.heap.size + 1, 1, none⟩ = some (.int .i64 d) ∧ w1.cell? ⟨w.heap.size + 2, 0, none⟩ = some (.int .i64 0) ∧ w1.cell? ⟨w.heap.size + 2, 1, none⟩ = some (.int .i64 0) ∧ w1.cell? ⟨w.heap.size + 3, 0, none⟩ = some (.int .i64 (a + c)) ∧ w1.cell? ⟨w.heap.size + 3, 1, none⟩ = some (.int .i64 (b + d)) ∧ (w.heap.size + 2 < w1.heap.size ∧ ∀ i, w1.frozen? ⟨w.heap.size + 2, i, none⟩ = false) ∧ Below w.heap.size w w1 := keep8_1 (by first | assumption | (exact hS) | (refine ⟨?_, ?_, ?_, ?_, ?_, ?_, ?_, ?_, ?_, ?_⟩ <;> (first | (simp [go_sem]; done) | (simp [go_sem, *]; done) | (go_grown; done)))) hb; (try clear hS); have hS := hT; clear hT; have hB := hS.2.2.2.2.2.2.2.2.2; have hzw := hB.size; have hz1 : w.heap.size < w1.heap.size := World.block_lt_of_cell? w1 _ (hS.1); have hz2 : w.heap.size + 1 < w1.heap.size := World.block_lt_of_cell? w1 _ (hS.2.2.1); have hz3 : w.heap.size + 2 < w1.heap.size := World.block_lt_of_cell? w1 _ (hS.2.2.2.2.1); have hz4 : w.heap.size + 3 < w1.heap.size := World.block_lt_of_cell? w1 _ (hS.2.2.2.2.2.2.1); clear hb))
    refine bodyPost_ret (v := .tuple #[.agg #[.int .i64 0, .int .i64 0], .bool false]) (by simp [results, Try.results20, go_sem, *]) rfl ⟨ret_eq (by simp [addX, addY, addK, h1, h2, h3]), by go_grown⟩
  go_enter Try.func20, Try.ntmps20
  go_wp2_with (first | (go_at_call 44; refine (l8Good_c _ _ _).mono ?_; rintro e w1 ⟨rfl, hb⟩; have hT : w1.cell? ⟨w.heap.size, 0, none⟩ = some (.int .i64 a) ∧ w1.cell? ⟨w.heap.size, 1, none⟩ = some (.int .i64 b) ∧ w1.cell? ⟨w.heap.size + 1, 0, none⟩ = some (.int .i64 c) ∧ w1.cell? ⟨w.heap.size + 1, 1, none⟩ = some (.int .i64 d) ∧ w1.cell? ⟨w.heap.size + 2, 0, none⟩ = some (.int .i64 0) ∧ w1.cell? ⟨w.heap.size + 2, 1, none⟩ = some (.int .i64 0) ∧ w1.cell? ⟨w.heap.size + 3, 0, none⟩ = some (.int .i64 (a + c)) ∧ w1.cell? ⟨w.heap.size + 3, 1, none⟩ = some (.int .i64 (b + d)) ∧ (w.heap.size + 2 < w1.heap.size ∧ ∀ i, w1.frozen? ⟨w.heap.size + 2, i, none⟩ = false) ∧ Below w.heap.size w w1 := keep8_1 (by first | assumption | (exact hS) | (refine ⟨?_, ?_, ?_, ?_, ?_, ?_, ?_, ?_, ?_, ?_⟩ <;> (first | (simp [go_sem]; done) | (simp [go_sem, *]; done) | (go_grown; done)))) hb; (try clear hS); have hS := hT; clear hT; have hB := hS.2.2.2.2.2.2.2.2.2; have hzw := hB.size; have hz1 : w.heap.size < w1.heap.size := World.block_lt_of_cell? w1 _ (hS.1); have hz2 : w.heap.size + 1 < w1.heap.size := World.block_lt_of_cell? w1 _ (hS.2.2.1); have hz3 : w.heap.size + 2 < w1.heap.size := World.block_lt_of_cell? w1 _ (hS.2.2.2.2.1); have hz4 : w.heap.size + 3 < w1.heap.size := World.block_lt_of_cell? w1 _ (hS.2.2.2.2.2.2.1); clear hb))
  refine bodyPost_ret (v := .tuple #[.agg #[.int .i64 (a + c), .int .i64 (b + d)], .bool true]) (by simp [results, Try.results20, go_sem, *]) rfl ⟨ret_eq (by simp [addX, addY, addK, h1, h2, h3]), by go_grown⟩

theorem fnAddVelocities (a b c d : Int) (w : World) : Calls Try.prog 5 #[.agg #[.int .i64 a, .int .i64 b], .agg #[.int .i64 c, .int .i64 d]] w (Gives w (.bool true)) := by
  go_enter Try.func5, Try.ntmps5
  go_wp2
  refine wp_region_new [] 8 (fun w' => w'.cell? ⟨w.heap.size, 0, none⟩ = some (.int .i64 a) ∧ w'.cell? ⟨w.heap.size, 1, none⟩ = some (.int .i64 b) ∧ w'.cell? ⟨w.heap.size + 1, 0, none⟩ = some (.int .i64 c) ∧ w'.cell? ⟨w.heap.size + 1, 1, none⟩ = some (.int .i64 d) ∧ Below w.heap.size w w') (fun g p w' => w'.cell? ⟨w.heap.size, 0, none⟩ = some (.int .i64 a) ∧ w'.cell? ⟨w.heap.size, 1, none⟩ = some (.int .i64 b) ∧ w'.cell? ⟨w.heap.size + 1, 0, none⟩ = some (.int .i64 c) ∧ w'.cell? ⟨w.heap.size + 1, 1, none⟩ = some (.int .i64 d) ∧ w'.cell? ⟨g, 0, none⟩ = some (if p = 0 then .int .i64 0 else .int .i64 (addX a b c d)) ∧ w'.cell? ⟨g, 1, none⟩ = some (if p = 0 then .int .i64 0 else .int .i64 (addY a b c d)) ∧ (g < w'.heap.size ∧ ∀ i, w'.frozen? ⟨g, i, none⟩ = false) ∧ (w.heap.size < g ∧ w.heap.size + 1 < g ∧ w.heap.size ≤ g) ∧ Below w.heap.size w w') (by kernel_rfl) (by kernel_rfl) (by kernel_rfl) (by kernel_rfl) rfl rfl rfl (by first | assumption | (exact hS) | (refine ⟨?_, ?_, ?_, ?_, ?_⟩ <;> (first | (simp [go_sem]; done) | (simp [go_sem, *]; done) | (go_grown; done)))) ?_ ?_
  focus
    intro ρ w hS
    (try dsimp only at hS)
    obtain ⟨c0, c1, c2, c3, hB⟩ := hS
    have hzw : _ ≤ w.heap.size := hB.size
    have hzn1 := World.block_lt_of_cell? w _ c0
    simp only [] at hzn1
    have hzn2 := World.block_lt_of_cell? w _ c2
    simp only [] at hzn2
    apply Exists.intro
    refine And.intro ?_ ?_
    focus (go_simp; (with_reducible rfl))
    (try dsimp only)
    refine ⟨?_, ?_, ?_, ?_, ?_, ?_, ?_, ?_, ?_⟩ <;> (first | (simp [go_sem]; done) | (simp [go_sem, *]; done) | (go_grown; done) | (refine ⟨?_, ?_⟩ <;> omega) | omega)
  dsimp only [List.take, List.drop]
  repeat (first
    | ((refine wpPre_skip (by rfl) (by rfl) ?_); simp only [Act.put, List.setIfInBounds_toArray, List.set_cons_zero, List.set_cons_succ])
    | ((refine wpPre_pure (v := ?_) (by rfl) (by rfl) (fun w => ?_) ?_); rotate_left; (focus (go_simp; (try (with_reducible rfl)); done)); simp only [Act.put, List.setIfInBounds_toArray, List.set_cons_zero, List.set_cons_succ])
    | ((refine wpPre_val (v := ?_) (by rfl) (by rfl) (by rfl) (fun w hS => ?_) (fun g w hS => ?_) ?_); rotate_left; (focus ((try dsimp only at hS); go_simp; (try (with_reducible rfl)); done)); (focus ((try dsimp only at hS); go_simp; (try (with_reducible rfl)); done)); simp only [Act.put, List.setIfInBounds_toArray, List.set_cons_zero, List.set_cons_succ])
    | ((refine wpPre_call (v := ?_) (f := ?_) (args := ?_) (by rfl) (by rfl) (by rfl) (fun w => ?_) (fun w hS => ?_) (fun g w hS => ?_) ?_); rotate_left; rotate_left; rotate_left; (focus (go_simp; (constructor <;> (with_reducible rfl)); done)); (focus (first | (go_at_call 16; refine (toVel_c _ _ _).mono ?_; intro e w' h; refine ⟨h.1.trans ?_, keep4 hS h.2⟩; with_reducible rfl) | (go_at_call 20; refine (sAddVel_c _ _ _ _ _).mono ?_; intro e w' h; refine ⟨h.1.trans ?_, keep4 hS h.2⟩; with_reducible rfl))); (focus (first | (go_at_call 16; refine (toVel_c _ _ _).mono ?_; intro e w' h; refine ⟨h.1.trans ?_, keep6_1s hS h.2⟩; with_reducible rfl) | (go_at_call 20; refine (sAddVel_c _ _ _ _ _).mono ?_; intro e w' h; refine ⟨h.1.trans ?_, keep6_1s hS h.2⟩; with_reducible rfl))); simp only [Act.put, List.setIfInBounds_toArray, List.set_cons_zero, List.set_cons_succ]))
  refine wpPre_nil ?_
  intro g1
  simp only [List.setIfInBounds_toArray, List.set_cons_zero, List.set_cons_succ]
  repeat (first
    | ((refine wpPh_pure (v := ?_) (by rfl) (by rfl) (by rfl) (fun w => ?_) ?_); rotate_left; (focus (go_simp; (try (with_reducible rfl)); done)); simp only [Act.put, List.setIfInBounds_toArray, List.set_cons_zero, List.set_cons_succ])
    | ((refine wpPh_store (by rfl) (by rfl) (by rfl) (fun wq hS => ?_) ?_); (focus ((try dsimp only at hS); obtain ⟨c0, c1, c2, c3, c4, c5, c6, c7, hB⟩ := hS; have hst : (w.heap.size < g1 ∧ w.heap.size + 1 < g1 ∧ w.heap.size ≤ g1) := c7; have hne : ¬ w.heap.size = g1 ∧ ¬ w.heap.size + 1 = g1 ∧ ¬ g1 = w.heap.size ∧ ¬ g1 = w.heap.size + 1 := ⟨by omega, by omega, by omega, by omega⟩; apply Exists.intro; refine And.intro ?_ ?_; (focus (go_simp; (with_reducible rfl))); ((try dsimp only); refine ⟨?_, ?_, ?_, ?_, ?_, ?_, ?_, ?_, ?_⟩ <;> (first | (simp [go_sem]; done) | (simp [go_sem, *]; done) | (go_grown; done) | (refine ⟨?_, ?_⟩ <;> omega) | omega))))))
  refine wpPh_nil ?_
  intro w1 hS
  have hT : w1.cell? ⟨w.heap.size, 0, none⟩ = some (.int .i64 a) ∧ w1.cell? ⟨w.heap.size, 1, none⟩ = some (.int .i64 b) ∧ w1.cell? ⟨w.heap.size + 1, 0, none⟩ = some (.int .i64 c) ∧ w1.cell? ⟨w.heap.size + 1, 1, none⟩ = some (.int .i64 d) ∧ w1.cell? ⟨g1, 0, none⟩ = some (.int .i64 (addX a b c d)) ∧ w1.cell? ⟨g1, 1, none⟩ = some (.int .i64 (addY a b c d)) ∧ (g1 < w1.heap.size ∧ ∀ i, w1.frozen? ⟨g1, i, none⟩ = false) ∧ (w.heap.size < g1 ∧ w.heap.size + 1 < g1 ∧ w.heap.size ≤ g1) ∧ Below w.heap.size w w1 := hS
  clear hS
  have hS := hT
  obtain ⟨c0, c1, c2, c3, c4, c5, c6, c7, hB⟩ := hT
  have hzw : w.heap.size ≤ w1.heap.size := hB.size
  have hz1 : w.heap.size < w1.heap.size := World.block_lt_of_cell? w1 _ c0
  have hz2 : w.heap.size + 1 < w1.heap.size := World.block_lt_of_cell? w1 _ c2
  have hz3 : g1 < w1.heap.size := World.block_lt_of_cell? w1 _ c4
  go_wp2
  refine wp_region_new [] 8 (fun w' => w'.cell? ⟨w.heap.size, 0, none⟩ = some (.int .i64 a) ∧ w'.cell? ⟨w.heap.size, 1, none⟩ = some (.int .i64 b) ∧ w'.cell? ⟨w.heap.size + 1, 0, none⟩ = some (.int .i64 c) ∧ w'.cell? ⟨w.heap.size + 1, 1, none⟩ = some (.int .i64 d) ∧ w'.cell? ⟨g1, 0, none⟩ = some (.int .i64 (addX a b c d)) ∧ w'.cell? ⟨g1, 1, none⟩ = some (.int .i64 (addY a b c d)) ∧ Below w.heap.size w w') (fun g p w' => w'.cell? ⟨w.heap.size, 0, none⟩ = some (.int .i64 a) ∧ w'.cell? ⟨w.heap.size, 1, none⟩ = some (.int .i64 b) ∧ w'.cell? ⟨w.heap.size + 1, 0, none⟩ = some (.int .i64 c) ∧ w'.cell? ⟨w.heap.size + 1, 1, none⟩ = some (.int .i64 d) ∧ w'.cell? ⟨g1, 0, none⟩ = some (.int .i64 (addX a b c d)) ∧ w'.cell? ⟨g1, 1, none⟩ = some (.int .i64 (addY a b c d)) ∧ w'.cell? ⟨g, 0, none⟩ = some (if p = 0 then .int .i64 0 else .int .i64 (addX a b c d)) ∧ w'.cell? ⟨g, 1, none⟩ = some (if p = 0 then .int .i64 0 else .int .i64 (addY a b c d)) ∧ (g < w'.heap.size ∧ ∀ i, w'.frozen? ⟨g, i, none⟩ = false) ∧ (w.heap.size < g ∧ w.heap.size + 1 < g ∧ g1 < g ∧ w.heap.size ≤ g) ∧ Below w.heap.size w w') (by kernel_rfl) (by kernel_rfl) (by kernel_rfl) (by kernel_rfl) rfl rfl rfl (by first | assumption | (exact hS) | (refine ⟨?_, ?_, ?_, ?_, ?_, ?_, ?_⟩ <;> (first | (simp [go_sem]; done) | (simp [go_sem, *]; done) | (go_grown; done)))) ?_ ?_
  focus
    intro ρ w hS
    (try dsimp only at hS)
    obtain ⟨c0, c1, c2, c3, c4, c5, hB⟩ := hS
    have hzw : _ ≤ w.heap.size := hB.size
    have hzn1 := World.block_lt_of_cell? w _ c0
    simp only [] at hzn1
    have hzn2 := World.block_lt_of_cell? w _ c2
    simp only [] at hzn2
    have hzn3 := World.block_lt_of_cell? w _ c4
    simp only [] at hzn3
    apply Exists.intro
    refine And.intro ?_ ?_
    focus (go_simp; (with_reducible rfl))
    (try dsimp only)
    refine ⟨?_, ?_, ?_, ?_, ?_, ?_, ?_, ?_, ?_, ?_, ?_⟩ <;> (first | (simp [go_sem]; done) | (simp [go_sem, *]; done) | (go_grown; done) | (refine ⟨?_, ?_⟩ <;> omega) | omega)
  dsimp only [List.take, List.drop]
  repeat (first
    | ((refine wpPre_skip (by rfl) (by rfl) ?_); simp only [Act.put, List.setIfInBounds_toArray, List.set_cons_zero, List.set_cons_succ])
    | ((refine wpPre_pure (v := ?_) (by rfl) (by rfl) (fun w => ?_) ?_); rotate_left; (focus (go_simp; (try (with_reducible rfl)); done)); simp only [Act.put, List.setIfInBounds_toArray, List.set_cons_zero, List.set_cons_succ])
    | ((refine wpPre_val (v := ?_) (by rfl) (by rfl) (by rfl) (fun w hS => ?_) (fun g w hS => ?_) ?_); rotate_left; (focus ((try dsimp only at hS); go_simp; (try (with_reducible rfl)); done)); (focus ((try dsimp only at hS); go_simp; (try (with_reducible rfl)); done)); simp only [Act.put, List.setIfInBounds_toArray, List.set_cons_zero, List.set_cons_succ])
    | ((refine wpPre_call (v := ?_) (f := ?_) (args := ?_) (by rfl) (by rfl) (by rfl) (fun w => ?_) (fun w hS => ?_) (fun g w hS => ?_) ?_); rotate_left; rotate_left; rotate_left; (focus (go_simp; (constructor <;> (with_reducible rfl)); done)); (focus (first | (go_at_call 16; refine (toVel_c _ _ _).mono ?_; intro e w' h; refine ⟨h.1.trans ?_, keep6 hS h.2⟩; with_reducible rfl) | (go_at_call 21; refine (addVel_c _ _ _ _ _).mono ?_; intro e w' h; refine ⟨h.1.trans ?_, keep6 hS h.2⟩; with_reducible rfl))); (focus (first | (go_at_call 16; refine (toVel_c _ _ _).mono ?_; intro e w' h; refine ⟨h.1.trans ?_, keep8_1s hS h.2⟩; with_reducible rfl) | (go_at_call 21; refine (addVel_c _ _ _ _ _).mono ?_; intro e w' h; refine ⟨h.1.trans ?_, keep8_1s hS h.2⟩; with_reducible rfl))); simp only [Act.put, List.setIfInBounds_toArray, List.set_cons_zero, List.set_cons_succ]))
  refine wpPre_nil ?_
  intro g2
  simp only [List.setIfInBounds_toArray, List.set_cons_zero, List.set_cons_succ]
  repeat (first
    | ((refine wpPh_pure (v := ?_) (by rfl) (by rfl) (by rfl) (fun w => ?_) ?_); rotate_left; (focus (go_simp; (try (with_reducible rfl)); done)); simp only [Act.put, List.setIfInBounds_toArray, List.set_cons_zero, List.set_cons_succ])
    | ((refine wpPh_store (by rfl) (by rfl) (by rfl) (fun wq hS => ?_) ?_); (focus ((try dsimp only at hS); obtain ⟨c0, c1, c2, c3, c4, c5, c6, c7, c8, c9, hB⟩ := hS; have hst : (w.heap.size < g2 ∧ w.heap.size + 1 < g2 ∧ g1 < g2 ∧ w.heap.size ≤ g2) := c9; have hne : ¬ w.heap.size = g2 ∧ ¬ w.heap.size + 1 = g2 ∧ ¬ g1 = g2 ∧ ¬ g2 = w.heap.size ∧ ¬ g2 = w.heap.size + 1 ∧ ¬ g2 = g1 := ⟨by omega, by omega, by omega, by omega, by omega, by omega⟩; apply Exists.intro; refine And.intro ?_ ?_; (focus (go_simp; (with_reducible rfl))); ((try dsimp only); refine ⟨?_, ?_, ?_, ?_, ?_, ?_, ?_, ?_, ?_, ?_, ?_⟩ <;> (first | (simp [go_sem]; done) | (simp [go_sem, *]; done) | (go_grown; done) | (refine ⟨?_, ?_⟩ <;> omega) | omega))))))
  refine wpPh_nil ?_
  intro w2 hS
  have hT : w2.cell? ⟨w.heap.size, 0, none⟩ = some (.int .i64 a) ∧ w2.cell? ⟨w.heap.size, 1, none⟩ = some (.int .i64 b) ∧ w2.cell? ⟨w.heap.size + 1, 0, none⟩ = some (.int .i64 c) ∧ w2.cell? ⟨w.heap.size + 1, 1, none⟩ = some (.int .i64 d) ∧ w2.cell? ⟨g1, 0, none⟩ = some (.int .i64 (addX a b c d)) ∧ w2.cell? ⟨g1, 1, none⟩ = some (.int .i64 (addY a b c d)) ∧ w2.cell? ⟨g2, 0, none⟩ = some (.int .i64 (addX a b c d)) ∧ w2.cell? ⟨g2, 1, none⟩ = some (.int .i64 (addY a b c d)) ∧ (g2 < w2.heap.size ∧ ∀ i, w2.frozen? ⟨g2, i, none⟩ = false) ∧ (w.heap.size < g2 ∧ w.heap.size + 1 < g2 ∧ g1 < g2 ∧ w.heap.size ≤ g2) ∧ Below w.heap.size w w2 := hS
  clear hS
  have hS := hT
  obtain ⟨c0, c1, c2, c3, c4, c5, c6, c7, c8, c9, hB⟩ := hT
  have hzw : w.heap.size ≤ w2.heap.size := hB.size
  have hz1 : w.heap.size < w2.heap.size := World.block_lt_of_cell? w2 _ c0
  have hz2 : w.heap.size + 1 < w2.heap.size := World.block_lt_of_cell? w2 _ c2
  have hz3 : g1 < w2.heap.size := World.block_lt_of_cell? w2 _ c4
  have hz4 : g2 < w2.heap.size := World.block_lt_of_cell? w2 _ c6
  go_wp2_with fail
  refine (eqVel_c _ _ _).mono ?_
  rintro e w7 ⟨rfl, hb⟩
  have hT : Below w.heap.size w w7 := keep0 (by first | assumption | go_grown) hb
  (try clear hS)
  have hS := hT
  clear hT
  have hB := hS
  have hzw : w.heap.size ≤ w7.heap.size := hB.size
  clear hb
  go_wp2
  go_returns
  exact ⟨ret_eq rfl, by go_grown⟩
end Go.Proofs.Ytpcabjjmphcpeaa
