/- Contracts: a place from two reports. -/
import Derived.Test.YtpabfkodlgglcaaPoD
namespace Go.Proofs.Ytpabfkodlgglcaa
open Go.RowKit

theorem both_c (e o : Int) (h0 : 0 ≤ e) (h1 : e < 100) (h2 : 0 ≤ o) (h3 : o < 99) (w : World) : Calls Try.prog 57 #[.int .i64 e, .int .i64 o] w fun x w' => x = .returned (.int .i64 (bo e o)) ∧ w = w' := by
  obtain ⟨b0, b1, b2, b3⟩ := bo_spec h0 h1 h2 h3
  have H2 := hide b2
  have H3 := hide b3
  have b4 : e ≤ bo e o := by omega
  clear b2 b3
  go_enter Try.func57, Try.ntmps57
  go_wp2
  go_loop [5] (fun n => ∃ m : Int, n = .int .i64 m ∧ e ≤ m ∧ m ≤ bo e o ∧ Hid (m % 100 = e)) (fun n => (bo e o - intOf n).toNat)
  case atStart => exact ⟨e, rfl, by omega, b4, hide (by omega)⟩
  case round =>
    obtain ⟨m, rfl, c0, c1, c2⟩ := hrel
    have c3 : 0 ≤ m := by omega
    by_cases hm : m % 99 = o
    · have hd : (m % 99 == o) = true := by simpa using hm
      have H4 := hide (crt c3 (by omega) b0 b1 (by rw [c2.out, H2.out]) (by rw [H3.out]; exact hm) : m = bo e o)
      clear hm
      go_wp2
      go_ret
      exact ⟨ret_eq (int_eq H4.out), rfl⟩
    · have hd : (m % 99 == o) = false := by simpa using hm
      have H4 := hide (show m + 100 ≤ bo e o from by have e2 := H2.out; have e3 := H3.out; have e4 := c2.out; omega)
      have H5 := hide hm
      clear hm
      go_wp2
      go_round
      case rel => exact ⟨m + 100, by go_num, by omega, H4.out, hide (by have := c2.out; omega)⟩
      case measure => have := H4.out; simp [intOf]; omega

theorem l7Both_c (e o : Int) (h0 : 0 ≤ e) (h1 : e < 100) (h2 : 0 ≤ o) (h3 : o < 99) (w : World) : Calls Try.prog 68 #[.int .i64 e, .int .i64 o] w fun x w' => x = .returned (.int .i64 (bo e o)) ∧ w = w' := by
  obtain ⟨b0, b1, b2, b3⟩ := bo_spec h0 h1 h2 h3
  have H2 := hide b2
  have H3 := hide b3
  have b4 : e ≤ bo e o := by omega
  clear b2 b3
  go_enter Try.func68, Try.ntmps68
  go_wp2
  go_loop [5] (fun n => ∃ m : Int, n = .int .i64 m ∧ e ≤ m ∧ m ≤ bo e o ∧ Hid (m % 100 = e)) (fun n => (bo e o - intOf n).toNat)
  case atStart => exact ⟨e, rfl, by omega, b4, hide (by omega)⟩
  case round =>
    obtain ⟨m, rfl, c0, c1, c2⟩ := hrel
    have c3 : 0 ≤ m := by omega
    have c4 : m ≤ 9899 := by omega
    by_cases hm : m % 99 = o
    · have hd : (m % 99 == o) = true := by simpa using hm
      have H4 := hide (crt c3 (by omega) b0 b1 (by rw [c2.out, H2.out]) (by rw [H3.out]; exact hm) : m = bo e o)
      clear hm
      go_wp2
      go_ret
      exact ⟨ret_eq (int_eq H4.out), rfl⟩
    · have hd : (m % 99 == o) = false := by simpa using hm
      have H4 := hide (show m + 100 ≤ bo e o from by have e2 := H2.out; have e3 := H3.out; have e4 := c2.out; omega)
      have H5 := hide hm
      clear hm
      go_wp2
      go_round
      case rel => exact ⟨m + 100, by go_num, by omega, H4.out, hide (by have := c2.out; omega)⟩
      case measure => have := H4.out; simp [intOf]; omega

theorem decodePair_c (o1 : Bool) (a1 b1 : Int) (o2 : Bool) (a2 b2 : Int) (w : World) : Calls Try.prog 24 #[.agg #[.bool o1, .int .i64 a1, .int .i64 b1], .agg #[.bool o2, .int .i64 a2, .int .i64 b2]] w (Gives w (.tuple #[.agg #[.int .i64 (dpX o1 a1 b1 o2 a2 b2), .int .i64 (dpY o1 a1 b1 o2 a2 b2)], .bool (dpK o1 a1 b1 o2 a2 b2)])) := by
  rcases h1 : vR o1 a1 b1 with _ | _
  · go_enter Try.func24, Try.ntmps24
    go_wp2_with (first | (go_at_call 19; refine (validRep_c _ _ _ _).mono ?_; rintro e w1 ⟨rfl, hb⟩; have hT : w1.cell? ⟨w.heap.size, 0, none⟩ = some (.bool o1) ∧ w1.cell? ⟨w.heap.size, 1, none⟩ = some (.int .i64 a1) ∧ w1.cell? ⟨w.heap.size, 2, none⟩ = some (.int .i64 b1) ∧ w1.cell? ⟨w.heap.size + 1, 0, none⟩ = some (.bool o2) ∧ w1.cell? ⟨w.heap.size + 1, 1, none⟩ = some (.int .i64 a2) ∧ w1.cell? ⟨w.heap.size + 1, 2, none⟩ = some (.int .i64 b2) ∧ w1.cell? ⟨w.heap.size + 2, 0, none⟩ = some (.int .i64 0) ∧ w1.cell? ⟨w.heap.size + 2, 1, none⟩ = some (.int .i64 0) ∧ (w.heap.size + 2 < w1.heap.size ∧ ∀ i, w1.frozen? ⟨w.heap.size + 2, i, none⟩ = false) ∧ Below w.heap.size w w1 := keep8_1 (by first | assumption | (exact hS) | (refine ⟨?_, ?_, ?_, ?_, ?_, ?_, ?_, ?_, ?_, ?_⟩ <;> (first | (simp [go_sem]; done) | (simp [go_sem, *]; done) | (go_grown; done)))) hb; (try clear hS); have hS := hT; clear hT; have hB := hS.2.2.2.2.2.2.2.2.2; have hzw := hB.size; have hz1 : w.heap.size < w1.heap.size := World.block_lt_of_cell? w1 _ (hS.1); have hz2 : w.heap.size + 1 < w1.heap.size := World.block_lt_of_cell? w1 _ (hS.2.2.2.1); have hz3 : w.heap.size + 2 < w1.heap.size := World.block_lt_of_cell? w1 _ (hS.2.2.2.2.2.2.1); clear hb))
    refine bodyPost_ret (v := .tuple #[.agg #[.int .i64 0, .int .i64 0], .bool false]) (by simp [results, Try.results24, go_sem, *]) rfl ⟨ret_eq (by simp [dpX, dpY, dpK, h1]), by go_grown⟩
  rcases h2 : vR o2 a2 b2 with _ | _
  · go_enter Try.func24, Try.ntmps24
    go_wp2_with (first | (go_at_call 19; refine (validRep_c _ _ _ _).mono ?_; rintro e w1 ⟨rfl, hb⟩; have hT : w1.cell? ⟨w.heap.size, 0, none⟩ = some (.bool o1) ∧ w1.cell? ⟨w.heap.size, 1, none⟩ = some (.int .i64 a1) ∧ w1.cell? ⟨w.heap.size, 2, none⟩ = some (.int .i64 b1) ∧ w1.cell? ⟨w.heap.size + 1, 0, none⟩ = some (.bool o2) ∧ w1.cell? ⟨w.heap.size + 1, 1, none⟩ = some (.int .i64 a2) ∧ w1.cell? ⟨w.heap.size + 1, 2, none⟩ = some (.int .i64 b2) ∧ w1.cell? ⟨w.heap.size + 2, 0, none⟩ = some (.int .i64 0) ∧ w1.cell? ⟨w.heap.size + 2, 1, none⟩ = some (.int .i64 0) ∧ (w.heap.size + 2 < w1.heap.size ∧ ∀ i, w1.frozen? ⟨w.heap.size + 2, i, none⟩ = false) ∧ Below w.heap.size w w1 := keep8_1 (by first | assumption | (exact hS) | (refine ⟨?_, ?_, ?_, ?_, ?_, ?_, ?_, ?_, ?_, ?_⟩ <;> (first | (simp [go_sem]; done) | (simp [go_sem, *]; done) | (go_grown; done)))) hb; (try clear hS); have hS := hT; clear hT; have hB := hS.2.2.2.2.2.2.2.2.2; have hzw := hB.size; have hz1 : w.heap.size < w1.heap.size := World.block_lt_of_cell? w1 _ (hS.1); have hz2 : w.heap.size + 1 < w1.heap.size := World.block_lt_of_cell? w1 _ (hS.2.2.2.1); have hz3 : w.heap.size + 2 < w1.heap.size := World.block_lt_of_cell? w1 _ (hS.2.2.2.2.2.2.1); clear hb))
    refine bodyPost_ret (v := .tuple #[.agg #[.int .i64 0, .int .i64 0], .bool false]) (by simp [results, Try.results24, go_sem, *]) rfl ⟨ret_eq (by simp [dpX, dpY, dpK, h1, h2]), by go_grown⟩
  cases o1
  rotate_left
  · go_enter Try.func24, Try.ntmps24
    go_wp2_with (first | (go_at_call 19; refine (validRep_c _ _ _ _).mono ?_; rintro e w1 ⟨rfl, hb⟩; have hT : w1.cell? ⟨w.heap.size, 0, none⟩ = some (.bool true) ∧ w1.cell? ⟨w.heap.size, 1, none⟩ = some (.int .i64 a1) ∧ w1.cell? ⟨w.heap.size, 2, none⟩ = some (.int .i64 b1) ∧ w1.cell? ⟨w.heap.size + 1, 0, none⟩ = some (.bool o2) ∧ w1.cell? ⟨w.heap.size + 1, 1, none⟩ = some (.int .i64 a2) ∧ w1.cell? ⟨w.heap.size + 1, 2, none⟩ = some (.int .i64 b2) ∧ w1.cell? ⟨w.heap.size + 2, 0, none⟩ = some (.int .i64 0) ∧ w1.cell? ⟨w.heap.size + 2, 1, none⟩ = some (.int .i64 0) ∧ (w.heap.size + 2 < w1.heap.size ∧ ∀ i, w1.frozen? ⟨w.heap.size + 2, i, none⟩ = false) ∧ Below w.heap.size w w1 := keep8_1 (by first | assumption | (exact hS) | (refine ⟨?_, ?_, ?_, ?_, ?_, ?_, ?_, ?_, ?_, ?_⟩ <;> (first | (simp [go_sem]; done) | (simp [go_sem, *]; done) | (go_grown; done)))) hb; (try clear hS); have hS := hT; clear hT; have hB := hS.2.2.2.2.2.2.2.2.2; have hzw := hB.size; have hz1 : w.heap.size < w1.heap.size := World.block_lt_of_cell? w1 _ (hS.1); have hz2 : w.heap.size + 1 < w1.heap.size := World.block_lt_of_cell? w1 _ (hS.2.2.2.1); have hz3 : w.heap.size + 2 < w1.heap.size := World.block_lt_of_cell? w1 _ (hS.2.2.2.2.2.2.1); clear hb))
    refine bodyPost_ret (v := .tuple #[.agg #[.int .i64 0, .int .i64 0], .bool false]) (by simp [results, Try.results24, go_sem, *]) rfl ⟨ret_eq (by simp [dpX, dpY, dpK, h1, h2]), by go_grown⟩
  cases o2
  · go_enter Try.func24, Try.ntmps24
    go_wp2_with (first | (go_at_call 19; refine (validRep_c _ _ _ _).mono ?_; rintro e w1 ⟨rfl, hb⟩; have hT : w1.cell? ⟨w.heap.size, 0, none⟩ = some (.bool false) ∧ w1.cell? ⟨w.heap.size, 1, none⟩ = some (.int .i64 a1) ∧ w1.cell? ⟨w.heap.size, 2, none⟩ = some (.int .i64 b1) ∧ w1.cell? ⟨w.heap.size + 1, 0, none⟩ = some (.bool false) ∧ w1.cell? ⟨w.heap.size + 1, 1, none⟩ = some (.int .i64 a2) ∧ w1.cell? ⟨w.heap.size + 1, 2, none⟩ = some (.int .i64 b2) ∧ w1.cell? ⟨w.heap.size + 2, 0, none⟩ = some (.int .i64 0) ∧ w1.cell? ⟨w.heap.size + 2, 1, none⟩ = some (.int .i64 0) ∧ (w.heap.size + 2 < w1.heap.size ∧ ∀ i, w1.frozen? ⟨w.heap.size + 2, i, none⟩ = false) ∧ Below w.heap.size w w1 := keep8_1 (by first | assumption | (exact hS) | (refine ⟨?_, ?_, ?_, ?_, ?_, ?_, ?_, ?_, ?_, ?_⟩ <;> (first | (simp [go_sem]; done) | (simp [go_sem, *]; done) | (go_grown; done)))) hb; (try clear hS); have hS := hT; clear hT; have hB := hS.2.2.2.2.2.2.2.2.2; have hzw := hB.size; have hz1 : w.heap.size < w1.heap.size := World.block_lt_of_cell? w1 _ (hS.1); have hz2 : w.heap.size + 1 < w1.heap.size := World.block_lt_of_cell? w1 _ (hS.2.2.2.1); have hz3 : w.heap.size + 2 < w1.heap.size := World.block_lt_of_cell? w1 _ (hS.2.2.2.2.2.2.1); clear hb))
    refine bodyPost_ret (v := .tuple #[.agg #[.int .i64 0, .int .i64 0], .bool false]) (by simp [results, Try.results24, go_sem, *]) rfl ⟨ret_eq (by simp [dpX, dpY, dpK, h1, h2]), by go_grown⟩
  obtain ⟨⟨a10, a11⟩, b10, b11⟩ := vR_bd h1
  obtain ⟨⟨a20, a21⟩, b20, b21⟩ := vR_bd99 h2
  go_enter Try.func24, Try.ntmps24
  go_wp2_with (first | (go_at_call 19; refine (validRep_c _ _ _ _).mono ?_; rintro e w1 ⟨rfl, hb⟩; have hT : w1.cell? ⟨w.heap.size, 0, none⟩ = some (.bool false) ∧ w1.cell? ⟨w.heap.size, 1, none⟩ = some (.int .i64 a1) ∧ w1.cell? ⟨w.heap.size, 2, none⟩ = some (.int .i64 b1) ∧ w1.cell? ⟨w.heap.size + 1, 0, none⟩ = some (.bool true) ∧ w1.cell? ⟨w.heap.size + 1, 1, none⟩ = some (.int .i64 a2) ∧ w1.cell? ⟨w.heap.size + 1, 2, none⟩ = some (.int .i64 b2) ∧ w1.cell? ⟨w.heap.size + 2, 0, none⟩ = some (.int .i64 0) ∧ w1.cell? ⟨w.heap.size + 2, 1, none⟩ = some (.int .i64 0) ∧ (w.heap.size + 2 < w1.heap.size ∧ ∀ i, w1.frozen? ⟨w.heap.size + 2, i, none⟩ = false) ∧ Below w.heap.size w w1 := keep8_1 (by first | assumption | (exact hS) | (refine ⟨?_, ?_, ?_, ?_, ?_, ?_, ?_, ?_, ?_, ?_⟩ <;> (first | (simp [go_sem]; done) | (simp [go_sem, *]; done) | (go_grown; done)))) hb; (try clear hS); have hS := hT; clear hT; have hB := hS.2.2.2.2.2.2.2.2.2; have hzw := hB.size; have hz1 : w.heap.size < w1.heap.size := World.block_lt_of_cell? w1 _ (hS.1); have hz2 : w.heap.size + 1 < w1.heap.size := World.block_lt_of_cell? w1 _ (hS.2.2.2.1); have hz3 : w.heap.size + 2 < w1.heap.size := World.block_lt_of_cell? w1 _ (hS.2.2.2.2.2.2.1); clear hb))
  refine wp_region_ph [] (fun p w' => w'.cell? ⟨w.heap.size, 0, none⟩ = some (.bool false) ∧ w'.cell? ⟨w.heap.size, 1, none⟩ = some (.int .i64 a1) ∧ w'.cell? ⟨w.heap.size, 2, none⟩ = some (.int .i64 b1) ∧ w'.cell? ⟨w.heap.size + 1, 0, none⟩ = some (.bool true) ∧ w'.cell? ⟨w.heap.size + 1, 1, none⟩ = some (.int .i64 a2) ∧ w'.cell? ⟨w.heap.size + 1, 2, none⟩ = some (.int .i64 b2) ∧ w'.cell? ⟨w.heap.size + 2, 0, none⟩ = some (if p = 0 then .int .i64 0 else .int .i64 (bo a1 a2)) ∧ w'.cell? ⟨w.heap.size + 2, 1, none⟩ = some (if p = 0 then .int .i64 0 else .int .i64 (bo b1 b2)) ∧ (w.heap.size + 2 < w'.heap.size ∧ ∀ i, w'.frozen? ⟨w.heap.size + 2, i, none⟩ = false) ∧ Below w.heap.size w w') (by kernel_rfl) (by kernel_rfl) (by kernel_rfl) (by first | assumption | (exact hS) | (refine ⟨?_, ?_, ?_, ?_, ?_, ?_, ?_, ?_, ?_, ?_⟩ <;> (first | (simp [go_sem]; done) | (simp [go_sem, *]; done) | (go_grown; done)))) ?_
  repeat (first
    | ((refine wpPh_skip (by rfl) (by rfl) ?_); simp only [Act.put, List.setIfInBounds_toArray, List.set_cons_zero, List.set_cons_succ])
    | ((refine wpPh_pure (v := ?_) (by rfl) (by rfl) (by rfl) (fun w => ?_) ?_); rotate_left; (focus (go_simp; (try (with_reducible rfl)); done)); simp only [Act.put, List.setIfInBounds_toArray, List.set_cons_zero, List.set_cons_succ])
    | ((refine wpPh_val (v := ?_) (by rfl) (by rfl) (by rfl) (fun w hS => ?_) ?_); rotate_left; (focus ((try dsimp only at hS); go_simp; (try (with_reducible rfl)); done)); simp only [Act.put, List.setIfInBounds_toArray, List.set_cons_zero, List.set_cons_succ])
    | ((refine wpPh_call (v := ?_) (f := ?_) (args := ?_) (by rfl) (by rfl) (by rfl) (fun w => ?_) (fun w hS => ?_) ?_); rotate_left; rotate_left; rotate_left; (focus (go_simp; (constructor <;> (with_reducible rfl)); done)); (focus (first | (go_at_call 57; refine (both_c _ _ (by omega) (by omega) (by omega) (by omega) _).mono ?_; intro e w' h; refine ⟨h.1.trans ?_, h.2 ▸ hS⟩; with_reducible rfl))); simp only [Act.put, List.setIfInBounds_toArray, List.set_cons_zero, List.set_cons_succ])
    | ((refine wpPh_store (by rfl) (by rfl) (by rfl) (fun w hS => ?_) ?_); (focus ((try dsimp only at hS); obtain ⟨c0, c1, c2, c3, c4, c5, c6, c7, c8, hB⟩ := hS; apply Exists.intro; refine And.intro ?_ ?_; (focus (go_simp; (with_reducible rfl))); ((try dsimp only); refine ⟨by simp [go_sem, *], by simp [go_sem, *], by simp [go_sem, *], by simp [go_sem, *], by simp [go_sem, *], by simp [go_sem, *], by simp [go_sem, *], by simp [go_sem, *], by simp [go_sem, *], by go_grown⟩)))))
  refine wpPh_nil ?_
  intro w2 hS
  have hT : w2.cell? ⟨w.heap.size, 0, none⟩ = some (.bool false) ∧ w2.cell? ⟨w.heap.size, 1, none⟩ = some (.int .i64 a1) ∧ w2.cell? ⟨w.heap.size, 2, none⟩ = some (.int .i64 b1) ∧ w2.cell? ⟨w.heap.size + 1, 0, none⟩ = some (.bool true) ∧ w2.cell? ⟨w.heap.size + 1, 1, none⟩ = some (.int .i64 a2) ∧ w2.cell? ⟨w.heap.size + 1, 2, none⟩ = some (.int .i64 b2) ∧ w2.cell? ⟨w.heap.size + 2, 0, none⟩ = some (.int .i64 (bo a1 a2)) ∧ w2.cell? ⟨w.heap.size + 2, 1, none⟩ = some (.int .i64 (bo b1 b2)) ∧ (w.heap.size + 2 < w2.heap.size ∧ ∀ i, w2.frozen? ⟨w.heap.size + 2, i, none⟩ = false) ∧ Below w.heap.size w w2 := hS
  clear hS
  have hS := hT
  obtain ⟨c0, c1, c2, c3, c4, c5, c6, c7, c8, hB⟩ := hT
  go_wp2
  refine bodyPost_ret (v := .tuple #[.agg #[.int .i64 (bo a1 a2), .int .i64 (bo b1 b2)], .bool true]) (by simp [results, Try.results24, go_sem, *]) rfl ⟨ret_eq (by simp [dpX, dpY, dpK, h1, h2]), by go_grown⟩

theorem sDecodePair_c (o1 : Bool) (a1 b1 : Int) (o2 : Bool) (a2 b2 : Int) (w : World) : Calls Try.prog 32 #[.agg #[.bool o1, .int .i64 a1, .int .i64 b1], .agg #[.bool o2, .int .i64 a2, .int .i64 b2]] w (Gives w (.tuple #[.agg #[.int .i64 (dpX o1 a1 b1 o2 a2 b2), .int .i64 (dpY o1 a1 b1 o2 a2 b2)], .bool (dpK o1 a1 b1 o2 a2 b2)])) := by
  rcases h1 : vR o1 a1 b1 with _ | _
  · go_enter Try.func32, Try.ntmps32
    go_wp2_with (first | (go_at_call 51; refine (l7Report_c _ _ _ _).mono ?_; rintro e w1 ⟨rfl, hb⟩; have hT : w1.cell? ⟨w.heap.size, 0, none⟩ = some (.bool o1) ∧ w1.cell? ⟨w.heap.size, 1, none⟩ = some (.int .i64 a1) ∧ w1.cell? ⟨w.heap.size, 2, none⟩ = some (.int .i64 b1) ∧ w1.cell? ⟨w.heap.size + 1, 0, none⟩ = some (.bool o2) ∧ w1.cell? ⟨w.heap.size + 1, 1, none⟩ = some (.int .i64 a2) ∧ w1.cell? ⟨w.heap.size + 1, 2, none⟩ = some (.int .i64 b2) ∧ w1.cell? ⟨w.heap.size + 2, 0, none⟩ = some (.int .i64 0) ∧ w1.cell? ⟨w.heap.size + 2, 1, none⟩ = some (.int .i64 0) ∧ (w.heap.size + 2 < w1.heap.size ∧ ∀ i, w1.frozen? ⟨w.heap.size + 2, i, none⟩ = false) ∧ Below w.heap.size w w1 := keep8_1 (by first | assumption | (exact hS) | (refine ⟨?_, ?_, ?_, ?_, ?_, ?_, ?_, ?_, ?_, ?_⟩ <;> (first | (simp [go_sem]; done) | (simp [go_sem, *]; done) | (go_grown; done)))) hb; (try clear hS); have hS := hT; clear hT; have hB := hS.2.2.2.2.2.2.2.2.2; have hzw := hB.size; have hz1 : w.heap.size < w1.heap.size := World.block_lt_of_cell? w1 _ (hS.1); have hz2 : w.heap.size + 1 < w1.heap.size := World.block_lt_of_cell? w1 _ (hS.2.2.2.1); have hz3 : w.heap.size + 2 < w1.heap.size := World.block_lt_of_cell? w1 _ (hS.2.2.2.2.2.2.1); clear hb))
    refine bodyPost_ret (v := .tuple #[.agg #[.int .i64 0, .int .i64 0], .bool false]) (by simp [results, Try.results32, go_sem, *]) rfl ⟨ret_eq (by simp [dpX, dpY, dpK, h1]), by go_grown⟩
  rcases h2 : vR o2 a2 b2 with _ | _
  · go_enter Try.func32, Try.ntmps32
    go_wp2_with (first | (go_at_call 51; refine (l7Report_c _ _ _ _).mono ?_; rintro e w1 ⟨rfl, hb⟩; have hT : w1.cell? ⟨w.heap.size, 0, none⟩ = some (.bool o1) ∧ w1.cell? ⟨w.heap.size, 1, none⟩ = some (.int .i64 a1) ∧ w1.cell? ⟨w.heap.size, 2, none⟩ = some (.int .i64 b1) ∧ w1.cell? ⟨w.heap.size + 1, 0, none⟩ = some (.bool o2) ∧ w1.cell? ⟨w.heap.size + 1, 1, none⟩ = some (.int .i64 a2) ∧ w1.cell? ⟨w.heap.size + 1, 2, none⟩ = some (.int .i64 b2) ∧ w1.cell? ⟨w.heap.size + 2, 0, none⟩ = some (.int .i64 0) ∧ w1.cell? ⟨w.heap.size + 2, 1, none⟩ = some (.int .i64 0) ∧ (w.heap.size + 2 < w1.heap.size ∧ ∀ i, w1.frozen? ⟨w.heap.size + 2, i, none⟩ = false) ∧ Below w.heap.size w w1 := keep8_1 (by first | assumption | (exact hS) | (refine ⟨?_, ?_, ?_, ?_, ?_, ?_, ?_, ?_, ?_, ?_⟩ <;> (first | (simp [go_sem]; done) | (simp [go_sem, *]; done) | (go_grown; done)))) hb; (try clear hS); have hS := hT; clear hT; have hB := hS.2.2.2.2.2.2.2.2.2; have hzw := hB.size; have hz1 : w.heap.size < w1.heap.size := World.block_lt_of_cell? w1 _ (hS.1); have hz2 : w.heap.size + 1 < w1.heap.size := World.block_lt_of_cell? w1 _ (hS.2.2.2.1); have hz3 : w.heap.size + 2 < w1.heap.size := World.block_lt_of_cell? w1 _ (hS.2.2.2.2.2.2.1); clear hb))
    refine bodyPost_ret (v := .tuple #[.agg #[.int .i64 0, .int .i64 0], .bool false]) (by simp [results, Try.results32, go_sem, *]) rfl ⟨ret_eq (by simp [dpX, dpY, dpK, h1, h2]), by go_grown⟩
  cases o1
  rotate_left
  · go_enter Try.func32, Try.ntmps32
    go_wp2_with (first | (go_at_call 51; refine (l7Report_c _ _ _ _).mono ?_; rintro e w1 ⟨rfl, hb⟩; have hT : w1.cell? ⟨w.heap.size, 0, none⟩ = some (.bool true) ∧ w1.cell? ⟨w.heap.size, 1, none⟩ = some (.int .i64 a1) ∧ w1.cell? ⟨w.heap.size, 2, none⟩ = some (.int .i64 b1) ∧ w1.cell? ⟨w.heap.size + 1, 0, none⟩ = some (.bool o2) ∧ w1.cell? ⟨w.heap.size + 1, 1, none⟩ = some (.int .i64 a2) ∧ w1.cell? ⟨w.heap.size + 1, 2, none⟩ = some (.int .i64 b2) ∧ w1.cell? ⟨w.heap.size + 2, 0, none⟩ = some (.int .i64 0) ∧ w1.cell? ⟨w.heap.size + 2, 1, none⟩ = some (.int .i64 0) ∧ (w.heap.size + 2 < w1.heap.size ∧ ∀ i, w1.frozen? ⟨w.heap.size + 2, i, none⟩ = false) ∧ Below w.heap.size w w1 := keep8_1 (by first | assumption | (exact hS) | (refine ⟨?_, ?_, ?_, ?_, ?_, ?_, ?_, ?_, ?_, ?_⟩ <;> (first | (simp [go_sem]; done) | (simp [go_sem, *]; done) | (go_grown; done)))) hb; (try clear hS); have hS := hT; clear hT; have hB := hS.2.2.2.2.2.2.2.2.2; have hzw := hB.size; have hz1 : w.heap.size < w1.heap.size := World.block_lt_of_cell? w1 _ (hS.1); have hz2 : w.heap.size + 1 < w1.heap.size := World.block_lt_of_cell? w1 _ (hS.2.2.2.1); have hz3 : w.heap.size + 2 < w1.heap.size := World.block_lt_of_cell? w1 _ (hS.2.2.2.2.2.2.1); clear hb))
    refine bodyPost_ret (v := .tuple #[.agg #[.int .i64 0, .int .i64 0], .bool false]) (by simp [results, Try.results32, go_sem, *]) rfl ⟨ret_eq (by simp [dpX, dpY, dpK, h1, h2]), by go_grown⟩
  cases o2
  · go_enter Try.func32, Try.ntmps32
    go_wp2_with (first | (go_at_call 51; refine (l7Report_c _ _ _ _).mono ?_; rintro e w1 ⟨rfl, hb⟩; have hT : w1.cell? ⟨w.heap.size, 0, none⟩ = some (.bool false) ∧ w1.cell? ⟨w.heap.size, 1, none⟩ = some (.int .i64 a1) ∧ w1.cell? ⟨w.heap.size, 2, none⟩ = some (.int .i64 b1) ∧ w1.cell? ⟨w.heap.size + 1, 0, none⟩ = some (.bool false) ∧ w1.cell? ⟨w.heap.size + 1, 1, none⟩ = some (.int .i64 a2) ∧ w1.cell? ⟨w.heap.size + 1, 2, none⟩ = some (.int .i64 b2) ∧ w1.cell? ⟨w.heap.size + 2, 0, none⟩ = some (.int .i64 0) ∧ w1.cell? ⟨w.heap.size + 2, 1, none⟩ = some (.int .i64 0) ∧ (w.heap.size + 2 < w1.heap.size ∧ ∀ i, w1.frozen? ⟨w.heap.size + 2, i, none⟩ = false) ∧ Below w.heap.size w w1 := keep8_1 (by first | assumption | (exact hS) | (refine ⟨?_, ?_, ?_, ?_, ?_, ?_, ?_, ?_, ?_, ?_⟩ <;> (first | (simp [go_sem]; done) | (simp [go_sem, *]; done) | (go_grown; done)))) hb; (try clear hS); have hS := hT; clear hT; have hB := hS.2.2.2.2.2.2.2.2.2; have hzw := hB.size; have hz1 : w.heap.size < w1.heap.size := World.block_lt_of_cell? w1 _ (hS.1); have hz2 : w.heap.size + 1 < w1.heap.size := World.block_lt_of_cell? w1 _ (hS.2.2.2.1); have hz3 : w.heap.size + 2 < w1.heap.size := World.block_lt_of_cell? w1 _ (hS.2.2.2.2.2.2.1); clear hb))
    refine bodyPost_ret (v := .tuple #[.agg #[.int .i64 0, .int .i64 0], .bool false]) (by simp [results, Try.results32, go_sem, *]) rfl ⟨ret_eq (by simp [dpX, dpY, dpK, h1, h2]), by go_grown⟩
  obtain ⟨⟨a10, a11⟩, b10, b11⟩ := vR_bd h1
  obtain ⟨⟨a20, a21⟩, b20, b21⟩ := vR_bd99 h2
  go_enter Try.func32, Try.ntmps32
  go_wp2_with (first | (go_at_call 51; refine (l7Report_c _ _ _ _).mono ?_; rintro e w1 ⟨rfl, hb⟩; have hT : w1.cell? ⟨w.heap.size, 0, none⟩ = some (.bool false) ∧ w1.cell? ⟨w.heap.size, 1, none⟩ = some (.int .i64 a1) ∧ w1.cell? ⟨w.heap.size, 2, none⟩ = some (.int .i64 b1) ∧ w1.cell? ⟨w.heap.size + 1, 0, none⟩ = some (.bool true) ∧ w1.cell? ⟨w.heap.size + 1, 1, none⟩ = some (.int .i64 a2) ∧ w1.cell? ⟨w.heap.size + 1, 2, none⟩ = some (.int .i64 b2) ∧ w1.cell? ⟨w.heap.size + 2, 0, none⟩ = some (.int .i64 0) ∧ w1.cell? ⟨w.heap.size + 2, 1, none⟩ = some (.int .i64 0) ∧ (w.heap.size + 2 < w1.heap.size ∧ ∀ i, w1.frozen? ⟨w.heap.size + 2, i, none⟩ = false) ∧ Below w.heap.size w w1 := keep8_1 (by first | assumption | (exact hS) | (refine ⟨?_, ?_, ?_, ?_, ?_, ?_, ?_, ?_, ?_, ?_⟩ <;> (first | (simp [go_sem]; done) | (simp [go_sem, *]; done) | (go_grown; done)))) hb; (try clear hS); have hS := hT; clear hT; have hB := hS.2.2.2.2.2.2.2.2.2; have hzw := hB.size; have hz1 : w.heap.size < w1.heap.size := World.block_lt_of_cell? w1 _ (hS.1); have hz2 : w.heap.size + 1 < w1.heap.size := World.block_lt_of_cell? w1 _ (hS.2.2.2.1); have hz3 : w.heap.size + 2 < w1.heap.size := World.block_lt_of_cell? w1 _ (hS.2.2.2.2.2.2.1); clear hb))
  refine wp_region_ph [] (fun p w' => w'.cell? ⟨w.heap.size, 0, none⟩ = some (.bool false) ∧ w'.cell? ⟨w.heap.size, 1, none⟩ = some (.int .i64 a1) ∧ w'.cell? ⟨w.heap.size, 2, none⟩ = some (.int .i64 b1) ∧ w'.cell? ⟨w.heap.size + 1, 0, none⟩ = some (.bool true) ∧ w'.cell? ⟨w.heap.size + 1, 1, none⟩ = some (.int .i64 a2) ∧ w'.cell? ⟨w.heap.size + 1, 2, none⟩ = some (.int .i64 b2) ∧ w'.cell? ⟨w.heap.size + 2, 0, none⟩ = some (if p = 0 then .int .i64 0 else .int .i64 (bo a1 a2)) ∧ w'.cell? ⟨w.heap.size + 2, 1, none⟩ = some (if p = 0 then .int .i64 0 else .int .i64 (bo b1 b2)) ∧ (w.heap.size + 2 < w'.heap.size ∧ ∀ i, w'.frozen? ⟨w.heap.size + 2, i, none⟩ = false) ∧ Below w.heap.size w w') (by kernel_rfl) (by kernel_rfl) (by kernel_rfl) (by first | assumption | (exact hS) | (refine ⟨?_, ?_, ?_, ?_, ?_, ?_, ?_, ?_, ?_, ?_⟩ <;> (first | (simp [go_sem]; done) | (simp [go_sem, *]; done) | (go_grown; done)))) ?_
  repeat (first
    | ((refine wpPh_skip (by rfl) (by rfl) ?_); simp only [Act.put, List.setIfInBounds_toArray, List.set_cons_zero, List.set_cons_succ])
    | ((refine wpPh_pure (v := ?_) (by rfl) (by rfl) (by rfl) (fun w => ?_) ?_); rotate_left; (focus (go_simp; (try (with_reducible rfl)); done)); simp only [Act.put, List.setIfInBounds_toArray, List.set_cons_zero, List.set_cons_succ])
    | ((refine wpPh_val (v := ?_) (by rfl) (by rfl) (by rfl) (fun w hS => ?_) ?_); rotate_left; (focus ((try dsimp only at hS); go_simp; (try (with_reducible rfl)); done)); simp only [Act.put, List.setIfInBounds_toArray, List.set_cons_zero, List.set_cons_succ])
    | ((refine wpPh_call (v := ?_) (f := ?_) (args := ?_) (by rfl) (by rfl) (by rfl) (fun w => ?_) (fun w hS => ?_) ?_); rotate_left; rotate_left; rotate_left; (focus (go_simp; (constructor <;> (with_reducible rfl)); done)); (focus (first | (go_at_call 68; refine (l7Both_c _ _ (by omega) (by omega) (by omega) (by omega) _).mono ?_; intro e w' h; refine ⟨h.1.trans ?_, h.2 ▸ hS⟩; with_reducible rfl))); simp only [Act.put, List.setIfInBounds_toArray, List.set_cons_zero, List.set_cons_succ])
    | ((refine wpPh_store (by rfl) (by rfl) (by rfl) (fun w hS => ?_) ?_); (focus ((try dsimp only at hS); obtain ⟨c0, c1, c2, c3, c4, c5, c6, c7, c8, hB⟩ := hS; apply Exists.intro; refine And.intro ?_ ?_; (focus (go_simp; (with_reducible rfl))); ((try dsimp only); refine ⟨by simp [go_sem, *], by simp [go_sem, *], by simp [go_sem, *], by simp [go_sem, *], by simp [go_sem, *], by simp [go_sem, *], by simp [go_sem, *], by simp [go_sem, *], by simp [go_sem, *], by go_grown⟩)))))
  refine wpPh_nil ?_
  intro w2 hS
  have hT : w2.cell? ⟨w.heap.size, 0, none⟩ = some (.bool false) ∧ w2.cell? ⟨w.heap.size, 1, none⟩ = some (.int .i64 a1) ∧ w2.cell? ⟨w.heap.size, 2, none⟩ = some (.int .i64 b1) ∧ w2.cell? ⟨w.heap.size + 1, 0, none⟩ = some (.bool true) ∧ w2.cell? ⟨w.heap.size + 1, 1, none⟩ = some (.int .i64 a2) ∧ w2.cell? ⟨w.heap.size + 1, 2, none⟩ = some (.int .i64 b2) ∧ w2.cell? ⟨w.heap.size + 2, 0, none⟩ = some (.int .i64 (bo a1 a2)) ∧ w2.cell? ⟨w.heap.size + 2, 1, none⟩ = some (.int .i64 (bo b1 b2)) ∧ (w.heap.size + 2 < w2.heap.size ∧ ∀ i, w2.frozen? ⟨w.heap.size + 2, i, none⟩ = false) ∧ Below w.heap.size w w2 := hS
  clear hS
  have hS := hT
  obtain ⟨c0, c1, c2, c3, c4, c5, c6, c7, c8, hB⟩ := hT
  go_wp2
  refine bodyPost_ret (v := .tuple #[.agg #[.int .i64 (bo a1 a2), .int .i64 (bo b1 b2)], .bool true]) (by simp [results, Try.results32, go_sem, *]) rfl ⟨ret_eq (by simp [dpX, dpY, dpK, h1, h2]), by go_grown⟩

end Go.Proofs.Ytpabfkodlgglcaa
