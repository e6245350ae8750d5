/- Contracts: the text of a velocity by the program. -/
import Derived.Test.YtpcabjjmphcpeaaSpN
namespace Go.Proofs.Ytpcabjjmphcpeaa
open Go.RowKit

theorem infoStr : (Try.prog.info? 9).map (fun i => (i.zero, i.size, i.bytes)) = some (some (.string ByteArray.empty), 1, 16) := by kernel_rfl

set_option maxHeartbeats 4000000 in
theorem velText_c (x y : Int) (h1 : vV x y = true) (w : World) : Calls Try.prog 59 #[.agg #[.int .i64 x, .int .i64 y]] w (Gives w (.string (vtext x y))) := by
  obtain ⟨⟨ka0, ka1⟩, kb0, kb1⟩ := vV_iff.1 h1
  rcases Int.lt_trichotomy y 0 with gy | gy | gy
  · rcases Int.lt_trichotomy x 0 with gx | gx | gx
    · obtain ⟨i0, hi, iz0, iz1, iz2⟩ := info_parts infoStr
      have hy : y ≠ 0 := by omega
      obtain ⟨N, hN⟩ : ∃ N, vp y 78 83 = N := ⟨_, rfl⟩
      obtain ⟨n0, n1⟩ := hN ▸ vp_size (x := y) 78 83 hy kb0 kb1
      have n2 : ¬ N.toList = [] := toList_ne (by omega)
      have n3 : N.toList.isEmpty = false := by simpa using n2
      clear n2 n3
      have hadd1 : ∀ W : World, (Op.stringOp .add (decS (-y)) (⟨#[83]⟩)).run Try.prog W = .ok (.string (N)) W := fun W => by rw [run_string_add_sum W _ _ (by have h9 := decS_size (n := -y) (by omega); simp only [ByteArray.size_append, size32, size0]; omega), ← hN, vp_neg _ _ gy]
      have hx : x ≠ 0 := by omega
      obtain ⟨E, hE⟩ : ∃ E, vp x 69 87 = E := ⟨_, rfl⟩
      obtain ⟨m0, m1⟩ := hE ▸ vp_size (x := x) 69 87 hx ka0 ka1
      have m2 : ¬ E.toList = [] := toList_ne (by omega)
      have m3 : E.toList.isEmpty = false := by simpa using m2
      clear m2 m3
      have hadd2 : ∀ W : World, (Op.stringOp .add (decS (-x)) (⟨#[87]⟩)).run Try.prog W = .ok (.string (E)) W := fun W => by rw [run_string_add_sum W _ _ (by have h9 := decS_size (n := -x) (by omega); simp only [ByteArray.size_append, size32, size0]; omega), ← hE, vp_neg _ _ gx]
      have HS := hide (show vtext x y = N ++ ⟨#[32]⟩ ++ E from by unfold vtext; rw [if_neg hy, if_neg hx, hN, hE])
      go_enter Try.func59, Try.ntmps59
      go_wp2_with fail
      refine (text_c _ (by omega) (by omega) _).mono ?_
      rintro e w1 ⟨rfl, hb⟩
      have hT : w1.cell? ⟨w.heap.size, 0, none⟩ = some (.int .i64 x) ∧ w1.cell? ⟨w.heap.size, 1, none⟩ = some (.int .i64 y) ∧ Below w.heap.size w w1 := keep2 (by first | assumption | (exact hS) | (refine ⟨?_, ?_, ?_⟩ <;> (first | (simp [go_sem]; done) | (simp [go_sem, *]; done) | (go_grown; done)))) hb
      (try clear hS)
      have hS := hT
      clear hT
      have hB := hS.2.2
      have hzw : w.heap.size ≤ w1.heap.size := hB.size
      have hz1 : w.heap.size < w1.heap.size := World.block_lt_of_cell? w1 _ (hS.1)
      clear hb
      go_wp2_with (first | (at_builtin; refine wpList_append_own _ rfl _ _ 63 rfl (w.heap.size + 1) 9 i0 (.string ByteArray.empty) 1 16 Try.underlying63 hi iz0 iz1 iz2 rfl (by decide) _ _ _ rfl (World.ownsRow_nil _ (w.heap.size + 1) 9 1) ⟨w1.heap.size, 0, none⟩ 1 1 [.string N] rfl rfl (news_one (by simp [go_sem])) (by intro u hu; simp at hu; subst hu; rfl) (by unfold maxLen; omega) (by omega) (by simp [go_sem]; omega) ?_; intro v1 w2 hown1 hgrow _; have hT : w2.cell? ⟨w.heap.size, 0, none⟩ = some (.int .i64 x) ∧ w2.cell? ⟨w.heap.size, 1, none⟩ = some (.int .i64 y) ∧ Below w.heap.size w w2 := app_keeps2 (w := w) (World.ownsRow_nil _ (w.heap.size + 1) 9 1) hgrow (by refine ⟨?_, ?_, ?_⟩ <;> (first | (simp [go_sem, *]; done) | (go_grown; done))) (by omega); (try clear hS hB hzw hgrow); have hS := hT; obtain ⟨c0, c1, hB⟩ := hT; have hzw : w.heap.size ≤ w2.heap.size := hB.size; have hz1 : w.heap.size < w2.heap.size := World.block_lt_of_cell? w2 _ c0; simp only [List.cons_append, List.nil_append, Nat.reduceAdd, Nat.zero_add] at hown1; obtain ⟨g1, cap1, rfl, _, _, hcs⟩ := own_head hown1 (by omega); have hc0 := hcs 0 _ rfl; clear hcs))
      refine (text_c _ (by omega) (by omega) _).mono ?_
      rintro e w3 ⟨rfl, hb⟩
      have hT : w3.cell? ⟨w.heap.size, 0, none⟩ = some (.int .i64 x) ∧ w3.cell? ⟨w.heap.size, 1, none⟩ = some (.int .i64 y) ∧ Below w.heap.size w w3 := keep2 (by first | assumption | (exact hS) | (refine ⟨?_, ?_, ?_⟩ <;> (first | (simp [go_sem]; done) | (simp [go_sem, *]; done) | (go_grown; done)))) hb
      (try clear hS)
      have hS := hT
      clear hT
      have hB := hS.2.2
      have hzw : w.heap.size ≤ w3.heap.size := hB.size
      have hz1 : w.heap.size < w3.heap.size := World.block_lt_of_cell? w3 _ (hS.1)
      have hown2 := own_below hown1 hb
      clear hb
      go_wp2_with (first | (at_builtin; refine wpList_append_own _ rfl _ _ 63 rfl (w.heap.size + 1) 9 i0 (.string ByteArray.empty) 1 16 Try.underlying63 hi iz0 iz1 iz2 rfl (by decide) _ _ _ rfl (hown2.alloc _) ⟨w3.heap.size, 0, none⟩ 1 1 [.string E] rfl rfl (news_one (by simp [go_sem])) (by intro u hu; simp at hu; subst hu; rfl) (by unfold maxLen; omega) (by omega) (by simp [go_sem]; omega) ?_; intro v2 w4 hown3 hgrow _; have hT : w4.cell? ⟨w.heap.size, 0, none⟩ = some (.int .i64 x) ∧ w4.cell? ⟨w.heap.size, 1, none⟩ = some (.int .i64 y) ∧ Below w.heap.size w w4 := app_keeps2 (w := w) (hown2.alloc _) hgrow (by refine ⟨?_, ?_, ?_⟩ <;> (first | (simp [go_sem, *]; done) | (go_grown; done))) (by omega); (try clear hS hB hzw hgrow); have hS := hT; obtain ⟨c0, c1, hB⟩ := hT; have hzw : w.heap.size ≤ w4.heap.size := hB.size; have hz1 : w.heap.size < w4.heap.size := World.block_lt_of_cell? w4 _ c0; simp only [List.cons_append, List.nil_append, Nat.reduceAdd, Nat.zero_add] at hown3; obtain ⟨g2, cap2, rfl, _, _, hcs⟩ := own_head hown3 (by omega); have hc0 := hcs 0 _ rfl; have hc1 := hcs 1 _ rfl; clear hcs))
      refine (join2_c g2 cap2 _ _ _ hc0 hc1 (by omega) (by omega)).mono ?_
      rintro e w9 ⟨rfl, rfl⟩
      go_wp2
      go_returns
      exact ⟨ret_eq (by rw [HS.out]; simp), hB⟩
    · obtain ⟨i0, hi, iz0, iz1, iz2⟩ := info_parts infoStr
      subst gx
      have hy : y ≠ 0 := by omega
      obtain ⟨N, hN⟩ : ∃ N, vp y 78 83 = N := ⟨_, rfl⟩
      obtain ⟨n0, n1⟩ := hN ▸ vp_size (x := y) 78 83 hy kb0 kb1
      have n2 : ¬ N.toList = [] := toList_ne (by omega)
      have n3 : N.toList.isEmpty = false := by simpa using n2
      clear n2 n3
      have hadd1 : ∀ W : World, (Op.stringOp .add (decS (-y)) (⟨#[83]⟩)).run Try.prog W = .ok (.string (N)) W := fun W => by rw [run_string_add_sum W _ _ (by have h9 := decS_size (n := -y) (by omega); simp only [ByteArray.size_append, size32, size0]; omega), ← hN, vp_neg _ _ gy]
      have HS := hide (show vtext 0 y = N from by unfold vtext; rw [if_neg hy, if_pos rfl, hN])
      go_enter Try.func59, Try.ntmps59
      go_wp2_with fail
      refine (text_c _ (by omega) (by omega) _).mono ?_
      rintro e w1 ⟨rfl, hb⟩
      have hT : w1.cell? ⟨w.heap.size, 0, none⟩ = some (.int .i64 0) ∧ w1.cell? ⟨w.heap.size, 1, none⟩ = some (.int .i64 y) ∧ Below w.heap.size w w1 := keep2 (by first | assumption | (exact hS) | (refine ⟨?_, ?_, ?_⟩ <;> (first | (simp [go_sem]; done) | (simp [go_sem, *]; done) | (go_grown; done)))) hb
      (try clear hS)
      have hS := hT
      clear hT
      have hB := hS.2.2
      have hzw : w.heap.size ≤ w1.heap.size := hB.size
      have hz1 : w.heap.size < w1.heap.size := World.block_lt_of_cell? w1 _ (hS.1)
      clear hb
      go_wp2_with (first | (at_builtin; refine wpList_append_own _ rfl _ _ 63 rfl (w.heap.size + 1) 9 i0 (.string ByteArray.empty) 1 16 Try.underlying63 hi iz0 iz1 iz2 rfl (by decide) _ _ _ rfl (World.ownsRow_nil _ (w.heap.size + 1) 9 1) ⟨w1.heap.size, 0, none⟩ 1 1 [.string N] rfl rfl (news_one (by simp [go_sem])) (by intro u hu; simp at hu; subst hu; rfl) (by unfold maxLen; omega) (by omega) (by simp [go_sem]; omega) ?_; intro v1 w2 hown1 hgrow _; have hT : w2.cell? ⟨w.heap.size, 0, none⟩ = some (.int .i64 0) ∧ w2.cell? ⟨w.heap.size, 1, none⟩ = some (.int .i64 y) ∧ Below w.heap.size w w2 := app_keeps2 (w := w) (World.ownsRow_nil _ (w.heap.size + 1) 9 1) hgrow (by refine ⟨?_, ?_, ?_⟩ <;> (first | (simp [go_sem, *]; done) | (go_grown; done))) (by omega); (try clear hS hB hzw hgrow); have hS := hT; obtain ⟨c0, c1, hB⟩ := hT; have hzw : w.heap.size ≤ w2.heap.size := hB.size; have hz1 : w.heap.size < w2.heap.size := World.block_lt_of_cell? w2 _ c0; simp only [List.cons_append, List.nil_append, Nat.reduceAdd, Nat.zero_add] at hown1; obtain ⟨g1, cap1, rfl, _, _, hcs⟩ := own_head hown1 (by omega); have hc0 := hcs 0 _ rfl; clear hcs))
      refine (join1_c g1 cap1 _ _ hc0 (by omega)).mono ?_
      rintro e w9 ⟨rfl, rfl⟩
      go_wp2
      go_returns
      exact ⟨ret_eq (by rw [HS.out]; simp), hB⟩
    · obtain ⟨i0, hi, iz0, iz1, iz2⟩ := info_parts infoStr
      have hy : y ≠ 0 := by omega
      obtain ⟨N, hN⟩ : ∃ N, vp y 78 83 = N := ⟨_, rfl⟩
      obtain ⟨n0, n1⟩ := hN ▸ vp_size (x := y) 78 83 hy kb0 kb1
      have n2 : ¬ N.toList = [] := toList_ne (by omega)
      have n3 : N.toList.isEmpty = false := by simpa using n2
      clear n2 n3
      have hadd1 : ∀ W : World, (Op.stringOp .add (decS (-y)) (⟨#[83]⟩)).run Try.prog W = .ok (.string (N)) W := fun W => by rw [run_string_add_sum W _ _ (by have h9 := decS_size (n := -y) (by omega); simp only [ByteArray.size_append, size32, size0]; omega), ← hN, vp_neg _ _ gy]
      have hx : x ≠ 0 := by omega
      obtain ⟨E, hE⟩ : ∃ E, vp x 69 87 = E := ⟨_, rfl⟩
      obtain ⟨m0, m1⟩ := hE ▸ vp_size (x := x) 69 87 hx ka0 ka1
      have m2 : ¬ E.toList = [] := toList_ne (by omega)
      have m3 : E.toList.isEmpty = false := by simpa using m2
      clear m2 m3
      have hadd2 : ∀ W : World, (Op.stringOp .add (decS (x)) (⟨#[69]⟩)).run Try.prog W = .ok (.string (E)) W := fun W => by rw [run_string_add_sum W _ _ (by have h9 := decS_size (n := x) (by omega); simp only [ByteArray.size_append, size32, size0]; omega), ← hE, vp_pos _ _ gx]
      have HS := hide (show vtext x y = N ++ ⟨#[32]⟩ ++ E from by unfold vtext; rw [if_neg hy, if_neg hx, hN, hE])
      go_enter Try.func59, Try.ntmps59
      go_wp2_with fail
      refine (text_c _ (by omega) (by omega) _).mono ?_
      rintro e w1 ⟨rfl, hb⟩
      have hT : w1.cell? ⟨w.heap.size, 0, none⟩ = some (.int .i64 x) ∧ w1.cell? ⟨w.heap.size, 1, none⟩ = some (.int .i64 y) ∧ Below w.heap.size w w1 := keep2 (by first | assumption | (exact hS) | (refine ⟨?_, ?_, ?_⟩ <;> (first | (simp [go_sem]; done) | (simp [go_sem, *]; done) | (go_grown; done)))) hb
      (try clear hS)
      have hS := hT
      clear hT
      have hB := hS.2.2
      have hzw : w.heap.size ≤ w1.heap.size := hB.size
      have hz1 : w.heap.size < w1.heap.size := World.block_lt_of_cell? w1 _ (hS.1)
      clear hb
      go_wp2_with (first | (at_builtin; refine wpList_append_own _ rfl _ _ 63 rfl (w.heap.size + 1) 9 i0 (.string ByteArray.empty) 1 16 Try.underlying63 hi iz0 iz1 iz2 rfl (by decide) _ _ _ rfl (World.ownsRow_nil _ (w.heap.size + 1) 9 1) ⟨w1.heap.size, 0, none⟩ 1 1 [.string N] rfl rfl (news_one (by simp [go_sem])) (by intro u hu; simp at hu; subst hu; rfl) (by unfold maxLen; omega) (by omega) (by simp [go_sem]; omega) ?_; intro v1 w2 hown1 hgrow _; have hT : w2.cell? ⟨w.heap.size, 0, none⟩ = some (.int .i64 x) ∧ w2.cell? ⟨w.heap.size, 1, none⟩ = some (.int .i64 y) ∧ Below w.heap.size w w2 := app_keeps2 (w := w) (World.ownsRow_nil _ (w.heap.size + 1) 9 1) hgrow (by refine ⟨?_, ?_, ?_⟩ <;> (first | (simp [go_sem, *]; done) | (go_grown; done))) (by omega); (try clear hS hB hzw hgrow); have hS := hT; obtain ⟨c0, c1, hB⟩ := hT; have hzw : w.heap.size ≤ w2.heap.size := hB.size; have hz1 : w.heap.size < w2.heap.size := World.block_lt_of_cell? w2 _ c0; simp only [List.cons_append, List.nil_append, Nat.reduceAdd, Nat.zero_add] at hown1; obtain ⟨g1, cap1, rfl, _, _, hcs⟩ := own_head hown1 (by omega); have hc0 := hcs 0 _ rfl; clear hcs))
      refine (text_c _ (by omega) (by omega) _).mono ?_
      rintro e w3 ⟨rfl, hb⟩
      have hT : w3.cell? ⟨w.heap.size, 0, none⟩ = some (.int .i64 x) ∧ w3.cell? ⟨w.heap.size, 1, none⟩ = some (.int .i64 y) ∧ Below w.heap.size w w3 := keep2 (by first | assumption | (exact hS) | (refine ⟨?_, ?_, ?_⟩ <;> (first | (simp [go_sem]; done) | (simp [go_sem, *]; done) | (go_grown; done)))) hb
      (try clear hS)
      have hS := hT
      clear hT
      have hB := hS.2.2
      have hzw : w.heap.size ≤ w3.heap.size := hB.size
      have hz1 : w.heap.size < w3.heap.size := World.block_lt_of_cell? w3 _ (hS.1)
      have hown2 := own_below hown1 hb
      clear hb
      go_wp2_with (first | (at_builtin; refine wpList_append_own _ rfl _ _ 63 rfl (w.heap.size + 1) 9 i0 (.string ByteArray.empty) 1 16 Try.underlying63 hi iz0 iz1 iz2 rfl (by decide) _ _ _ rfl (hown2.alloc _) ⟨w3.heap.size, 0, none⟩ 1 1 [.string E] rfl rfl (news_one (by simp [go_sem])) (by intro u hu; simp at hu; subst hu; rfl) (by unfold maxLen; omega) (by omega) (by simp [go_sem]; omega) ?_; intro v2 w4 hown3 hgrow _; have hT : w4.cell? ⟨w.heap.size, 0, none⟩ = some (.int .i64 x) ∧ w4.cell? ⟨w.heap.size, 1, none⟩ = some (.int .i64 y) ∧ Below w.heap.size w w4 := app_keeps2 (w := w) (hown2.alloc _) hgrow (by refine ⟨?_, ?_, ?_⟩ <;> (first | (simp [go_sem, *]; done) | (go_grown; done))) (by omega); (try clear hS hB hzw hgrow); have hS := hT; obtain ⟨c0, c1, hB⟩ := hT; have hzw : w.heap.size ≤ w4.heap.size := hB.size; have hz1 : w.heap.size < w4.heap.size := World.block_lt_of_cell? w4 _ c0; simp only [List.cons_append, List.nil_append, Nat.reduceAdd, Nat.zero_add] at hown3; obtain ⟨g2, cap2, rfl, _, _, hcs⟩ := own_head hown3 (by omega); have hc0 := hcs 0 _ rfl; have hc1 := hcs 1 _ rfl; clear hcs))
      refine (join2_c g2 cap2 _ _ _ hc0 hc1 (by omega) (by omega)).mono ?_
      rintro e w9 ⟨rfl, rfl⟩
      go_wp2
      go_returns
      exact ⟨ret_eq (by rw [HS.out]; simp), hB⟩
  · subst gy
    rcases Int.lt_trichotomy x 0 with gx | gx | gx
    · obtain ⟨i0, hi, iz0, iz1, iz2⟩ := info_parts infoStr
      have hx : x ≠ 0 := by omega
      obtain ⟨E, hE⟩ : ∃ E, vp x 69 87 = E := ⟨_, rfl⟩
      obtain ⟨m0, m1⟩ := hE ▸ vp_size (x := x) 69 87 hx ka0 ka1
      have m2 : ¬ E.toList = [] := toList_ne (by omega)
      have m3 : E.toList.isEmpty = false := by simpa using m2
      clear m2 m3
      have hadd2 : ∀ W : World, (Op.stringOp .add (decS (-x)) (⟨#[87]⟩)).run Try.prog W = .ok (.string (E)) W := fun W => by rw [run_string_add_sum W _ _ (by have h9 := decS_size (n := -x) (by omega); simp only [ByteArray.size_append, size32, size0]; omega), ← hE, vp_neg _ _ gx]
      have HS := hide (show vtext x 0 = E from by unfold vtext; rw [if_pos rfl, if_neg hx, hE])
      go_enter Try.func59, Try.ntmps59
      go_wp2_with fail
      refine (text_c _ (by omega) (by omega) _).mono ?_
      rintro e w3 ⟨rfl, hb⟩
      have hT : w3.cell? ⟨w.heap.size, 0, none⟩ = some (.int .i64 x) ∧ w3.cell? ⟨w.heap.size, 1, none⟩ = some (.int .i64 0) ∧ Below w.heap.size w w3 := keep2 (by first | assumption | (exact hS) | (refine ⟨?_, ?_, ?_⟩ <;> (first | (simp [go_sem]; done) | (simp [go_sem, *]; done) | (go_grown; done)))) hb
      (try clear hS)
      have hS := hT
      clear hT
      have hB := hS.2.2
      have hzw : w.heap.size ≤ w3.heap.size := hB.size
      have hz1 : w.heap.size < w3.heap.size := World.block_lt_of_cell? w3 _ (hS.1)
      clear hb
      go_wp2_with (first | (at_builtin; refine wpList_append_own _ rfl _ _ 63 rfl (w.heap.size + 1) 9 i0 (.string ByteArray.empty) 1 16 Try.underlying63 hi iz0 iz1 iz2 rfl (by decide) _ _ _ rfl (World.ownsRow_nil _ (w.heap.size + 1) 9 1) ⟨w3.heap.size, 0, none⟩ 1 1 [.string E] rfl rfl (news_one (by simp [go_sem])) (by intro u hu; simp at hu; subst hu; rfl) (by unfold maxLen; omega) (by omega) (by simp [go_sem]; omega) ?_; intro v1 w4 hown1 hgrow _; have hT : w4.cell? ⟨w.heap.size, 0, none⟩ = some (.int .i64 x) ∧ w4.cell? ⟨w.heap.size, 1, none⟩ = some (.int .i64 0) ∧ Below w.heap.size w w4 := app_keeps2 (w := w) (World.ownsRow_nil _ (w.heap.size + 1) 9 1) hgrow (by refine ⟨?_, ?_, ?_⟩ <;> (first | (simp [go_sem, *]; done) | (go_grown; done))) (by omega); (try clear hS hB hzw hgrow); have hS := hT; obtain ⟨c0, c1, hB⟩ := hT; have hzw : w.heap.size ≤ w4.heap.size := hB.size; have hz1 : w.heap.size < w4.heap.size := World.block_lt_of_cell? w4 _ c0; simp only [List.cons_append, List.nil_append, Nat.reduceAdd, Nat.zero_add] at hown1; obtain ⟨g1, cap1, rfl, _, _, hcs⟩ := own_head hown1 (by omega); have hc0 := hcs 0 _ rfl; clear hcs))
      refine (join1_c g1 cap1 _ _ hc0 (by omega)).mono ?_
      rintro e w9 ⟨rfl, rfl⟩
      go_wp2
      go_returns
      exact ⟨ret_eq (by rw [HS.out]; simp), hB⟩
    · obtain ⟨i0, hi, iz0, iz1, iz2⟩ := info_parts infoStr
      subst gx
      have HS := hide (show vtext 0 0 = ⟨#[48]⟩ from rfl)
      go_enter Try.func59, Try.ntmps59
      go_wp2
      go_returns
      exact ⟨ret_eq (by rw [HS.out]; simp), by go_grown⟩
    · obtain ⟨i0, hi, iz0, iz1, iz2⟩ := info_parts infoStr
      have hx : x ≠ 0 := by omega
      obtain ⟨E, hE⟩ : ∃ E, vp x 69 87 = E := ⟨_, rfl⟩
      obtain ⟨m0, m1⟩ := hE ▸ vp_size (x := x) 69 87 hx ka0 ka1
      have m2 : ¬ E.toList = [] := toList_ne (by omega)
      have m3 : E.toList.isEmpty = false := by simpa using m2
      clear m2 m3
      have hadd2 : ∀ W : World, (Op.stringOp .add (decS (x)) (⟨#[69]⟩)).run Try.prog W = .ok (.string (E)) W := fun W => by rw [run_string_add_sum W _ _ (by have h9 := decS_size (n := x) (by omega); simp only [ByteArray.size_append, size32, size0]; omega), ← hE, vp_pos _ _ gx]
      have HS := hide (show vtext x 0 = E from by unfold vtext; rw [if_pos rfl, if_neg hx, hE])
      go_enter Try.func59, Try.ntmps59
      go_wp2_with fail
      refine (text_c _ (by omega) (by omega) _).mono ?_
      rintro e w3 ⟨rfl, hb⟩
      have hT : w3.cell? ⟨w.heap.size, 0, none⟩ = some (.int .i64 x) ∧ w3.cell? ⟨w.heap.size, 1, none⟩ = some (.int .i64 0) ∧ Below w.heap.size w w3 := keep2 (by first | assumption | (exact hS) | (refine ⟨?_, ?_, ?_⟩ <;> (first | (simp [go_sem]; done) | (simp [go_sem, *]; done) | (go_grown; done)))) hb
      (try clear hS)
      have hS := hT
      clear hT
      have hB := hS.2.2
      have hzw : w.heap.size ≤ w3.heap.size := hB.size
      have hz1 : w.heap.size < w3.heap.size := World.block_lt_of_cell? w3 _ (hS.1)
      clear hb
      go_wp2_with (first | (at_builtin; refine wpList_append_own _ rfl _ _ 63 rfl (w.heap.size + 1) 9 i0 (.string ByteArray.empty) 1 16 Try.underlying63 hi iz0 iz1 iz2 rfl (by decide) _ _ _ rfl (World.ownsRow_nil _ (w.heap.size + 1) 9 1) ⟨w3.heap.size, 0, none⟩ 1 1 [.string E] rfl rfl (news_one (by simp [go_sem])) (by intro u hu; simp at hu; subst hu; rfl) (by unfold maxLen; omega) (by omega) (by simp [go_sem]; omega) ?_; intro v1 w4 hown1 hgrow _; have hT : w4.cell? ⟨w.heap.size, 0, none⟩ = some (.int .i64 x) ∧ w4.cell? ⟨w.heap.size, 1, none⟩ = some (.int .i64 0) ∧ Below w.heap.size w w4 := app_keeps2 (w := w) (World.ownsRow_nil _ (w.heap.size + 1) 9 1) hgrow (by refine ⟨?_, ?_, ?_⟩ <;> (first | (simp [go_sem, *]; done) | (go_grown; done))) (by omega); (try clear hS hB hzw hgrow); have hS := hT; obtain ⟨c0, c1, hB⟩ := hT; have hzw : w.heap.size ≤ w4.heap.size := hB.size; have hz1 : w.heap.size < w4.heap.size := World.block_lt_of_cell? w4 _ c0; simp only [List.cons_append, List.nil_append, Nat.reduceAdd, Nat.zero_add] at hown1; obtain ⟨g1, cap1, rfl, _, _, hcs⟩ := own_head hown1 (by omega); have hc0 := hcs 0 _ rfl; clear hcs))
      refine (join1_c g1 cap1 _ _ hc0 (by omega)).mono ?_
      rintro e w9 ⟨rfl, rfl⟩
      go_wp2
      go_returns
      exact ⟨ret_eq (by rw [HS.out]; simp), hB⟩
  · rcases Int.lt_trichotomy x 0 with gx | gx | gx
    · obtain ⟨i0, hi, iz0, iz1, iz2⟩ := info_parts infoStr
      have hy : y ≠ 0 := by omega
      obtain ⟨N, hN⟩ : ∃ N, vp y 78 83 = N := ⟨_, rfl⟩
      obtain ⟨n0, n1⟩ := hN ▸ vp_size (x := y) 78 83 hy kb0 kb1
      have n2 : ¬ N.toList = [] := toList_ne (by omega)
      have n3 : N.toList.isEmpty = false := by simpa using n2
      clear n2 n3
      have hadd1 : ∀ W : World, (Op.stringOp .add (decS (y)) (⟨#[78]⟩)).run Try.prog W = .ok (.string (N)) W := fun W => by rw [run_string_add_sum W _ _ (by have h9 := decS_size (n := y) (by omega); simp only [ByteArray.size_append, size32, size0]; omega), ← hN, vp_pos _ _ gy]
      have hx : x ≠ 0 := by omega
      obtain ⟨E, hE⟩ : ∃ E, vp x 69 87 = E := ⟨_, rfl⟩
      obtain ⟨m0, m1⟩ := hE ▸ vp_size (x := x) 69 87 hx ka0 ka1
      have m2 : ¬ E.toList = [] := toList_ne (by omega)
      have m3 : E.toList.isEmpty = false := by simpa using m2
      clear m2 m3
      have hadd2 : ∀ W : World, (Op.stringOp .add (decS (-x)) (⟨#[87]⟩)).run Try.prog W = .ok (.string (E)) W := fun W => by rw [run_string_add_sum W _ _ (by have h9 := decS_size (n := -x) (by omega); simp only [ByteArray.size_append, size32, size0]; omega), ← hE, vp_neg _ _ gx]
      have HS := hide (show vtext x y = N ++ ⟨#[32]⟩ ++ E from by unfold vtext; rw [if_neg hy, if_neg hx, hN, hE])
      go_enter Try.func59, Try.ntmps59
      go_wp2_with fail
      refine (text_c _ (by omega) (by omega) _).mono ?_
      rintro e w1 ⟨rfl, hb⟩
      have hT : w1.cell? ⟨w.heap.size, 0, none⟩ = some (.int .i64 x) ∧ w1.cell? ⟨w.heap.size, 1, none⟩ = some (.int .i64 y) ∧ Below w.heap.size w w1 := keep2 (by first | assumption | (exact hS) | (refine ⟨?_, ?_, ?_⟩ <;> (first | (simp [go_sem]; done) | (simp [go_sem, *]; done) | (go_grown; done)))) hb
      (try clear hS)
      have hS := hT
      clear hT
      have hB := hS.2.2
      have hzw : w.heap.size ≤ w1.heap.size := hB.size
      have hz1 : w.heap.size < w1.heap.size := World.block_lt_of_cell? w1 _ (hS.1)
      clear hb
      go_wp2_with (first | (at_builtin; refine wpList_append_own _ rfl _ _ 63 rfl (w.heap.size + 1) 9 i0 (.string ByteArray.empty) 1 16 Try.underlying63 hi iz0 iz1 iz2 rfl (by decide) _ _ _ rfl (World.ownsRow_nil _ (w.heap.size + 1) 9 1) ⟨w1.heap.size, 0, none⟩ 1 1 [.string N] rfl rfl (news_one (by simp [go_sem])) (by intro u hu; simp at hu; subst hu; rfl) (by unfold maxLen; omega) (by omega) (by simp [go_sem]; omega) ?_; intro v1 w2 hown1 hgrow _; have hT : w2.cell? ⟨w.heap.size, 0, none⟩ = some (.int .i64 x) ∧ w2.cell? ⟨w.heap.size, 1, none⟩ = some (.int .i64 y) ∧ Below w.heap.size w w2 := app_keeps2 (w := w) (World.ownsRow_nil _ (w.heap.size + 1) 9 1) hgrow (by refine ⟨?_, ?_, ?_⟩ <;> (first | (simp [go_sem, *]; done) | (go_grown; done))) (by omega); (try clear hS hB hzw hgrow); have hS := hT; obtain ⟨c0, c1, hB⟩ := hT; have hzw : w.heap.size ≤ w2.heap.size := hB.size; have hz1 : w.heap.size < w2.heap.size := World.block_lt_of_cell? w2 _ c0; simp only [List.cons_append, List.nil_append, Nat.reduceAdd, Nat.zero_add] at hown1; obtain ⟨g1, cap1, rfl, _, _, hcs⟩ := own_head hown1 (by omega); have hc0 := hcs 0 _ rfl; clear hcs))
      refine (text_c _ (by omega) (by omega) _).mono ?_
      rintro e w3 ⟨rfl, hb⟩
      have hT : w3.cell? ⟨w.heap.size, 0, none⟩ = some (.int .i64 x) ∧ w3.cell? ⟨w.heap.size, 1, none⟩ = some (.int .i64 y) ∧ Below w.heap.size w w3 := keep2 (by first | assumption | (exact hS) | (refine ⟨?_, ?_, ?_⟩ <;> (first | (simp [go_sem]; done) | (simp [go_sem, *]; done) | (go_grown; done)))) hb
      (try clear hS)
      have hS := hT
      clear hT
      have hB := hS.2.2
      have hzw : w.heap.size ≤ w3.heap.size := hB.size
      have hz1 : w.heap.size < w3.heap.size := World.block_lt_of_cell? w3 _ (hS.1)
      have hown2 := own_below hown1 hb
      clear hb
      go_wp2_with (first | (at_builtin; refine wpList_append_own _ rfl _ _ 63 rfl (w.heap.size + 1) 9 i0 (.string ByteArray.empty) 1 16 Try.underlying63 hi iz0 iz1 iz2 rfl (by decide) _ _ _ rfl (hown2.alloc _) ⟨w3.heap.size, 0, none⟩ 1 1 [.string E] rfl rfl (news_one (by simp [go_sem])) (by intro u hu; simp at hu; subst hu; rfl) (by unfold maxLen; omega) (by omega) (by simp [go_sem]; omega) ?_; intro v2 w4 hown3 hgrow _; have hT : w4.cell? ⟨w.heap.size, 0, none⟩ = some (.int .i64 x) ∧ w4.cell? ⟨w.heap.size, 1, none⟩ = some (.int .i64 y) ∧ Below w.heap.size w w4 := app_keeps2 (w := w) (hown2.alloc _) hgrow (by refine ⟨?_, ?_, ?_⟩ <;> (first | (simp [go_sem, *]; done) | (go_grown; done))) (by omega); (try clear hS hB hzw hgrow); have hS := hT; obtain ⟨c0, c1, hB⟩ := hT; have hzw : w.heap.size ≤ w4.heap.size := hB.size; have hz1 : w.heap.size < w4.heap.size := World.block_lt_of_cell? w4 _ c0; simp only [List.cons_append, List.nil_append, Nat.reduceAdd, Nat.zero_add] at hown3; obtain ⟨g2, cap2, rfl, _, _, hcs⟩ := own_head hown3 (by omega); have hc0 := hcs 0 _ rfl; have hc1 := hcs 1 _ rfl; clear hcs))
      refine (join2_c g2 cap2 _ _ _ hc0 hc1 (by omega) (by omega)).mono ?_
      rintro e w9 ⟨rfl, rfl⟩
      go_wp2
      go_returns
      exact ⟨ret_eq (by rw [HS.out]; simp), hB⟩
    · obtain ⟨i0, hi, iz0, iz1, iz2⟩ := info_parts infoStr
      subst gx
      have hy : y ≠ 0 := by omega
      obtain ⟨N, hN⟩ : ∃ N, vp y 78 83 = N := ⟨_, rfl⟩
      obtain ⟨n0, n1⟩ := hN ▸ vp_size (x := y) 78 83 hy kb0 kb1
      have n2 : ¬ N.toList = [] := toList_ne (by omega)
      have n3 : N.toList.isEmpty = false := by simpa using n2
      clear n2 n3
      have hadd1 : ∀ W : World, (Op.stringOp .add (decS (y)) (⟨#[78]⟩)).run Try.prog W = .ok (.string (N)) W := fun W => by rw [run_string_add_sum W _ _ (by have h9 := decS_size (n := y) (by omega); simp only [ByteArray.size_append, size32, size0]; omega), ← hN, vp_pos _ _ gy]
      have HS := hide (show vtext 0 y = N from by unfold vtext; rw [if_neg hy, if_pos rfl, hN])
      go_enter Try.func59, Try.ntmps59
      go_wp2_with fail
      refine (text_c _ (by omega) (by omega) _).mono ?_
      rintro e w1 ⟨rfl, hb⟩
      have hT : w1.cell? ⟨w.heap.size, 0, none⟩ = some (.int .i64 0) ∧ w1.cell? ⟨w.heap.size, 1, none⟩ = some (.int .i64 y) ∧ Below w.heap.size w w1 := keep2 (by first | assumption | (exact hS) | (refine ⟨?_, ?_, ?_⟩ <;> (first | (simp [go_sem]; done) | (simp [go_sem, *]; done) | (go_grown; done)))) hb
      (try clear hS)
      have hS := hT
      clear hT
      have hB := hS.2.2
      have hzw : w.heap.size ≤ w1.heap.size := hB.size
      have hz1 : w.heap.size < w1.heap.size := World.block_lt_of_cell? w1 _ (hS.1)
      clear hb
      go_wp2_with (first | (at_builtin; refine wpList_append_own _ rfl _ _ 63 rfl (w.heap.size + 1) 9 i0 (.string ByteArray.empty) 1 16 Try.underlying63 hi iz0 iz1 iz2 rfl (by decide) _ _ _ rfl (World.ownsRow_nil _ (w.heap.size + 1) 9 1) ⟨w1.heap.size, 0, none⟩ 1 1 [.string N] rfl rfl (news_one (by simp [go_sem])) (by intro u hu; simp at hu; subst hu; rfl) (by unfold maxLen; omega) (by omega) (by simp [go_sem]; omega) ?_; intro v1 w2 hown1 hgrow _; have hT : w2.cell? ⟨w.heap.size, 0, none⟩ = some (.int .i64 0) ∧ w2.cell? ⟨w.heap.size, 1, none⟩ = some (.int .i64 y) ∧ Below w.heap.size w w2 := app_keeps2 (w := w) (World.ownsRow_nil _ (w.heap.size + 1) 9 1) hgrow (by refine ⟨?_, ?_, ?_⟩ <;> (first | (simp [go_sem, *]; done) | (go_grown; done))) (by omega); (try clear hS hB hzw hgrow); have hS := hT; obtain ⟨c0, c1, hB⟩ := hT; have hzw : w.heap.size ≤ w2.heap.size := hB.size; have hz1 : w.heap.size < w2.heap.size := World.block_lt_of_cell? w2 _ c0; simp only [List.cons_append, List.nil_append, Nat.reduceAdd, Nat.zero_add] at hown1; obtain ⟨g1, cap1, rfl, _, _, hcs⟩ := own_head hown1 (by omega); have hc0 := hcs 0 _ rfl; clear hcs))
      refine (join1_c g1 cap1 _ _ hc0 (by omega)).mono ?_
      rintro e w9 ⟨rfl, rfl⟩
      go_wp2
      go_returns
      exact ⟨ret_eq (by rw [HS.out]; simp), hB⟩
    · obtain ⟨i0, hi, iz0, iz1, iz2⟩ := info_parts infoStr
      have hy : y ≠ 0 := by omega
      obtain ⟨N, hN⟩ : ∃ N, vp y 78 83 = N := ⟨_, rfl⟩
      obtain ⟨n0, n1⟩ := hN ▸ vp_size (x := y) 78 83 hy kb0 kb1
      have n2 : ¬ N.toList = [] := toList_ne (by omega)
      have n3 : N.toList.isEmpty = false := by simpa using n2
      clear n2 n3
      have hadd1 : ∀ W : World, (Op.stringOp .add (decS (y)) (⟨#[78]⟩)).run Try.prog W = .ok (.string (N)) W := fun W => by rw [run_string_add_sum W _ _ (by have h9 := decS_size (n := y) (by omega); simp only [ByteArray.size_append, size32, size0]; omega), ← hN, vp_pos _ _ gy]
      have hx : x ≠ 0 := by omega
      obtain ⟨E, hE⟩ : ∃ E, vp x 69 87 = E := ⟨_, rfl⟩
      obtain ⟨m0, m1⟩ := hE ▸ vp_size (x := x) 69 87 hx ka0 ka1
      have m2 : ¬ E.toList = [] := toList_ne (by omega)
      have m3 : E.toList.isEmpty = false := by simpa using m2
      clear m2 m3
      have hadd2 : ∀ W : World, (Op.stringOp .add (decS (x)) (⟨#[69]⟩)).run Try.prog W = .ok (.string (E)) W := fun W => by rw [run_string_add_sum W _ _ (by have h9 := decS_size (n := x) (by omega); simp only [ByteArray.size_append, size32, size0]; omega), ← hE, vp_pos _ _ gx]
      have HS := hide (show vtext x y = N ++ ⟨#[32]⟩ ++ E from by unfold vtext; rw [if_neg hy, if_neg hx, hN, hE])
      go_enter Try.func59, Try.ntmps59
      go_wp2_with fail
      refine (text_c _ (by omega) (by omega) _).mono ?_
      rintro e w1 ⟨rfl, hb⟩
      have hT : w1.cell? ⟨w.heap.size, 0, none⟩ = some (.int .i64 x) ∧ w1.cell? ⟨w.heap.size, 1, none⟩ = some (.int .i64 y) ∧ Below w.heap.size w w1 := keep2 (by first | assumption | (exact hS) | (refine ⟨?_, ?_, ?_⟩ <;> (first | (simp [go_sem]; done) | (simp [go_sem, *]; done) | (go_grown; done)))) hb
      (try clear hS)
      have hS := hT
      clear hT
      have hB := hS.2.2
      have hzw : w.heap.size ≤ w1.heap.size := hB.size
      have hz1 : w.heap.size < w1.heap.size := World.block_lt_of_cell? w1 _ (hS.1)
      clear hb
      go_wp2_with (first | (at_builtin; refine wpList_append_own _ rfl _ _ 63 rfl (w.heap.size + 1) 9 i0 (.string ByteArray.empty) 1 16 Try.underlying63 hi iz0 iz1 iz2 rfl (by decide) _ _ _ rfl (World.ownsRow_nil _ (w.heap.size + 1) 9 1) ⟨w1.heap.size, 0, none⟩ 1 1 [.string N] rfl rfl (news_one (by simp [go_sem])) (by intro u hu; simp at hu; subst hu; rfl) (by unfold maxLen; omega) (by omega) (by simp [go_sem]; omega) ?_; intro v1 w2 hown1 hgrow _; have hT : w2.cell? ⟨w.heap.size, 0, none⟩ = some (.int .i64 x) ∧ w2.cell? ⟨w.heap.size, 1, none⟩ = some (.int .i64 y) ∧ Below w.heap.size w w2 := app_keeps2 (w := w) (World.ownsRow_nil _ (w.heap.size + 1) 9 1) hgrow (by refine ⟨?_, ?_, ?_⟩ <;> (first | (simp [go_sem, *]; done) | (go_grown; done))) (by omega); (try clear hS hB hzw hgrow); have hS := hT; obtain ⟨c0, c1, hB⟩ := hT; have hzw : w.heap.size ≤ w2.heap.size := hB.size; have hz1 : w.heap.size < w2.heap.size := World.block_lt_of_cell? w2 _ c0; simp only [List.cons_append, List.nil_append, Nat.reduceAdd, Nat.zero_add] at hown1; obtain ⟨g1, cap1, rfl, _, _, hcs⟩ := own_head hown1 (by omega); have hc0 := hcs 0 _ rfl; clear hcs))
      refine (text_c _ (by omega) (by omega) _).mono ?_
      rintro e w3 ⟨rfl, hb⟩
      have hT : w3.cell? ⟨w.heap.size, 0, none⟩ = some (.int .i64 x) ∧ w3.cell? ⟨w.heap.size, 1, none⟩ = some (.int .i64 y) ∧ Below w.heap.size w w3 := keep2 (by first | assumption | (exact hS) | (refine ⟨?_, ?_, ?_⟩ <;> (first | (simp [go_sem]; done) | (simp [go_sem, *]; done) | (go_grown; done)))) hb
      (try clear hS)
      have hS := hT
      clear hT
      have hB := hS.2.2
      have hzw : w.heap.size ≤ w3.heap.size := hB.size
      have hz1 : w.heap.size < w3.heap.size := World.block_lt_of_cell? w3 _ (hS.1)
      have hown2 := own_below hown1 hb
      clear hb
      go_wp2_with (first | (at_builtin; refine wpList_append_own _ rfl _ _ 63 rfl (w.heap.size + 1) 9 i0 (.string ByteArray.empty) 1 16 Try.underlying63 hi iz0 iz1 iz2 rfl (by decide) _ _ _ rfl (hown2.alloc _) ⟨w3.heap.size, 0, none⟩ 1 1 [.string E] rfl rfl (news_one (by simp [go_sem])) (by intro u hu; simp at hu; subst hu; rfl) (by unfold maxLen; omega) (by omega) (by simp [go_sem]; omega) ?_; intro v2 w4 hown3 hgrow _; have hT : w4.cell? ⟨w.heap.size, 0, none⟩ = some (.int .i64 x) ∧ w4.cell? ⟨w.heap.size, 1, none⟩ = some (.int .i64 y) ∧ Below w.heap.size w w4 := app_keeps2 (w := w) (hown2.alloc _) hgrow (by refine ⟨?_, ?_, ?_⟩ <;> (first | (simp [go_sem, *]; done) | (go_grown; done))) (by omega); (try clear hS hB hzw hgrow); have hS := hT; obtain ⟨c0, c1, hB⟩ := hT; have hzw : w.heap.size ≤ w4.heap.size := hB.size; have hz1 : w.heap.size < w4.heap.size := World.block_lt_of_cell? w4 _ c0; simp only [List.cons_append, List.nil_append, Nat.reduceAdd, Nat.zero_add] at hown3; obtain ⟨g2, cap2, rfl, _, _, hcs⟩ := own_head hown3 (by omega); have hc0 := hcs 0 _ rfl; have hc1 := hcs 1 _ rfl; clear hcs))
      refine (join2_c g2 cap2 _ _ _ hc0 hc1 (by omega) (by omega)).mono ?_
      rintro e w9 ⟨rfl, rfl⟩
      go_wp2
      go_returns
      exact ⟨ret_eq (by rw [HS.out]; simp), hB⟩
end Go.Proofs.Ytpcabjjmphcpeaa
