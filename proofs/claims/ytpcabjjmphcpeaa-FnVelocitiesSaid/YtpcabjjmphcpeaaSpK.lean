/- Contracts: how a velocity is received, by the reference. -/
import Derived.Test.YtpcabjjmphcpeaaSpI
namespace Go.Proofs.Ytpcabjjmphcpeaa
open Go.RowKit

set_option maxHeartbeats 4000000 in
theorem sDec_c (n : Int) (w : World) : Calls Try.prog 31 #[.int .i64 n] w (Gives w (.tuple #[.agg #[.int .i64 (decX n), .int .i64 (decY n)], .bool (decK n)])) := by
  rcases h1 : wi n 0 16777215 with _ | _
  · go_enter Try.func31, Try.ntmps31
    go_wp2_with (first | (go_at_call 55; refine (l1In_c _ _ _ _).mono ?_; rintro e w1 ⟨rfl, rfl⟩) | (go_at_call 56; refine (l2Of_c _ 24 (by omega) (by omega) (by omega) _).mono ?_; rintro e w1 ⟨rfl, rfl⟩))
    refine bodyPost_ret (v := .tuple #[.agg #[.int .i64 0, .int .i64 0], .bool false]) (by simp [results, Try.results31, go_sem, *]) rfl ⟨ret_eq (by simp [decX, decY, decK, h1]), by go_grown⟩
  obtain ⟨n0, n1⟩ := wi_iff.1 h1
  obtain ⟨s, A, B, es, hsz, eA, eB, a1, a2, a3, b1, b2, b3, t0, t1⟩ := dec_parts n n0
  have hp0 : 0 < s.size := by omega
  have hp1 : 11 < s.size := by omega
  have HA := hide a3
  have HB := hide b3
  have pu := uX_at n0 n1
  have pv := uY_at (n := n)
  have T0 := t0 hp0
  have T1 := t1 hp1
  clear t0 t1 a3 b3
  by_cases sx : n / 8388608 % 2 = 1
  · by_cases sy : n / 4096 % 2 = 1
    · obtain ⟨v0, v1⟩ := us_bd (m := n / 8192) (by omega) (by omega)
      obtain ⟨v2, v3⟩ := us_bd (m := n / 4 % 2048) (by omega) (by omega)
      change -1023 ≤ uX n at v0
      change uX n ≤ 1023 at v1
      change -1023 ≤ uY n at v2
      change uY n ≤ 1023 at v3
      have v4 : IntKind.i64.wrap (uX n) = uX n := IntWalk.i64_in _ (by omega)
      have v5 : IntKind.i64.wrap (uY n) = uY n := IntWalk.i64_in _ (by omega)
      have u1 : -numL A.data.toList = uX n := by have := HA.out; rw [pu, if_pos sx]; omega
      have u2 : -numL B.data.toList = uY n := by have := HB.out; rw [pv, if_pos sy]; omega
      have d0 : ((s[0]).toNat : Int) = 49 := by rw [T0, bit_one _ |>.2 sx]; rfl
      have d1 : ((s[11]).toNat : Int) = 49 := by rw [T1, bit_one _ |>.2 sy]; rfl
      clear pu pv T0 T1 sx sy
      rcases h2 : vV (uX n) (uY n) with _ | _
      · go_enter Try.func31, Try.ntmps31
        go_wp2_with (first | (go_at_call 55; refine (l1In_c _ _ _ _).mono ?_; rintro e w1 ⟨rfl, rfl⟩) | (go_at_call 56; refine (l2Of_c _ 24 (by omega) (by omega) (by omega) _).mono ?_; rintro e w1 ⟨rfl, rfl⟩))
        refine wp_region_new [] 7 (fun w' => w'.cell? ⟨w.heap.size, 0, none⟩ = some (.int .i64 0) ∧ w'.cell? ⟨w.heap.size, 1, none⟩ = some (.int .i64 0) ∧ (w.heap.size < w'.heap.size ∧ ∀ i, w'.frozen? ⟨w.heap.size, i, none⟩ = false) ∧ Below w.heap.size w w') (fun g p w' => w'.cell? ⟨w.heap.size, 0, none⟩ = some (.int .i64 0) ∧ w'.cell? ⟨w.heap.size, 1, none⟩ = some (.int .i64 0) ∧ w'.cell? ⟨g, 0, none⟩ = some (if p = 0 then .int .i64 0 else .int .i64 (numL A.data.toList)) ∧ w'.cell? ⟨g, 1, none⟩ = some (if p = 0 then .int .i64 0 else .int .i64 (numL B.data.toList)) ∧ (w.heap.size < w'.heap.size ∧ ∀ i, w'.frozen? ⟨w.heap.size, i, none⟩ = false) ∧ (g < w'.heap.size ∧ ∀ i, w'.frozen? ⟨g, i, none⟩ = false) ∧ (w.heap.size < g ∧ w.heap.size ≤ g) ∧ Below w.heap.size w w') (by kernel_rfl) (by kernel_rfl) (by kernel_rfl) (by kernel_rfl) rfl rfl rfl (by first | assumption | (exact hS) | (refine ⟨?_, ?_, ?_, ?_⟩ <;> (first | (simp [go_sem]; done) | (simp [go_sem, *]; done) | (go_grown; done)))) ?_ ?_
        focus
          intro ρ w hS
          (try dsimp only at hS)
          obtain ⟨c0, c1, c2, hB⟩ := hS
          have hzw : _ ≤ w.heap.size := hB.size
          have hzn1 := World.block_lt_of_cell? w _ c0
          simp only [] at hzn1
          apply Exists.intro
          refine And.intro ?_ ?_
          focus (go_simp; (with_reducible rfl))
          (try dsimp only)
          refine ⟨?_, ?_, ?_, ?_, ?_, ?_, ?_, ?_⟩ <;> (first | (simp [go_sem]; done) | (simp [go_sem, *]; done) | (go_grown; done) | (refine ⟨?_, ?_⟩ <;> omega) | omega)
        dsimp only [List.take, List.drop]
        repeat (first
          | ((refine wpPre_skip (by rfl) (by rfl) ?_); simp only [Act.put, List.setIfInBounds_toArray, List.set_cons_zero, List.set_cons_succ])
          | ((refine wpPre_pure (v := ?_) (by rfl) (by rfl) (fun w => ?_) ?_); rotate_left; (focus (go_simp; (try (with_reducible rfl)); done)); simp only [Act.put, List.setIfInBounds_toArray, List.set_cons_zero, List.set_cons_succ])
          | ((refine wpPre_val (v := ?_) (by rfl) (by rfl) (by rfl) (fun w hS => ?_) (fun g w hS => ?_) ?_); rotate_left; (focus ((try dsimp only at hS); go_simp; (try (with_reducible rfl)); done)); (focus ((try dsimp only at hS); go_simp; (try (with_reducible rfl)); done)); simp only [Act.put, List.setIfInBounds_toArray, List.set_cons_zero, List.set_cons_succ])
          | ((refine wpPre_call (v := ?_) (f := ?_) (args := ?_) (by rfl) (by rfl) (by rfl) (fun w => ?_) (fun w hS => ?_) (fun g w hS => ?_) ?_); rotate_left; rotate_left; rotate_left; (focus (go_simp; (constructor <;> (with_reducible rfl)); done)); (focus (first | (go_at_call 49; refine (l2Number_c _ (by assumption) (by assumption) _).mono ?_; intro e w' h; refine ⟨h.1.trans ?_, h.2 ▸ hS⟩; with_reducible rfl))); (focus (first | (go_at_call 49; refine (l2Number_c _ (by assumption) (by assumption) _).mono ?_; intro e w' h; refine ⟨h.1.trans ?_, h.2 ▸ hS⟩; with_reducible rfl))); simp only [Act.put, List.setIfInBounds_toArray, List.set_cons_zero, List.set_cons_succ]))
        refine wpPre_nil ?_
        intro g1
        simp only [List.setIfInBounds_toArray, List.set_cons_zero, List.set_cons_succ]
        repeat (first
          | ((refine wpPh_pure (v := ?_) (by rfl) (by rfl) (by rfl) (fun w => ?_) ?_); rotate_left; (focus (go_simp; (try (with_reducible rfl)); done)); simp only [Act.put, List.setIfInBounds_toArray, List.set_cons_zero, List.set_cons_succ])
          | ((refine wpPh_store (by rfl) (by rfl) (by rfl) (fun wq hS => ?_) ?_); (focus ((try dsimp only at hS); obtain ⟨c0, c1, c2, c3, c4, c5, c6, hB⟩ := hS; have hst : (w.heap.size < g1 ∧ w.heap.size ≤ g1) := c6; have hne : ¬ w.heap.size = g1 ∧ ¬ g1 = w.heap.size := ⟨by omega, by omega⟩; apply Exists.intro; refine And.intro ?_ ?_; (focus (go_simp; (with_reducible rfl))); ((try dsimp only); refine ⟨?_, ?_, ?_, ?_, ?_, ?_, ?_, ?_⟩ <;> (first | (simp [go_sem]; done) | (simp [go_sem, *]; done) | (go_grown; done) | (refine ⟨?_, ?_⟩ <;> omega) | omega))))))
        refine wpPh_nil ?_
        intro w1 hS
        have hT : w1.cell? ⟨w.heap.size, 0, none⟩ = some (.int .i64 0) ∧ w1.cell? ⟨w.heap.size, 1, none⟩ = some (.int .i64 0) ∧ w1.cell? ⟨g1, 0, none⟩ = some (.int .i64 (numL A.data.toList)) ∧ w1.cell? ⟨g1, 1, none⟩ = some (.int .i64 (numL B.data.toList)) ∧ (w.heap.size < w1.heap.size ∧ ∀ i, w1.frozen? ⟨w.heap.size, i, none⟩ = false) ∧ (g1 < w1.heap.size ∧ ∀ i, w1.frozen? ⟨g1, i, none⟩ = false) ∧ (w.heap.size < g1 ∧ w.heap.size ≤ g1) ∧ Below w.heap.size w w1 := hS
        clear hS
        have hS := hT
        obtain ⟨c0, c1, c2, c3, c4, c5, c6, hB⟩ := hT
        have hzw : w.heap.size ≤ w1.heap.size := hB.size
        have hz1 : w.heap.size < w1.heap.size := World.block_lt_of_cell? w1 _ c0
        have hz2 : g1 < w1.heap.size := World.block_lt_of_cell? w1 _ c2
        go_wp2_with (first | (go_at_call 27; refine (sEnc_c _ _ _).mono ?_; rintro e w1 ⟨rfl, hb⟩; have hT : w1.cell? ⟨w.heap.size, 0, none⟩ = some (.int .i64 0) ∧ w1.cell? ⟨w.heap.size, 1, none⟩ = some (.int .i64 0) ∧ w1.cell? ⟨g1, 0, none⟩ = some (.int .i64 (uX n)) ∧ w1.cell? ⟨g1, 1, none⟩ = some (.int .i64 (uY n)) ∧ (w.heap.size < w1.heap.size ∧ ∀ i, w1.frozen? ⟨w.heap.size, i, none⟩ = false) ∧ Below w.heap.size w w1 := keep4_1 (by first | assumption | (exact hS) | (refine ⟨?_, ?_, ?_, ?_, ?_, ?_⟩ <;> (first | (simp [go_sem]; done) | (simp [go_sem, *]; done) | (go_grown; done)))) hb; (try clear hS); have hS := hT; clear hT; have hB := hS.2.2.2.2.2; have hzw := hB.size; have hz1 : w.heap.size < w1.heap.size := World.block_lt_of_cell? w1 _ (hS.1); have hz2 : g1 < w1.heap.size := World.block_lt_of_cell? w1 _ (hS.2.2.1); clear hb))
        refine bodyPost_ret (v := .tuple #[.agg #[.int .i64 0, .int .i64 0], .bool false]) (by simp [results, Try.results31, go_sem, *]) rfl ⟨ret_eq (by simp [decX, decY, decK, h1, h2]), by go_grown⟩
      by_cases h3 : enc (uX n) (uY n) = n
      · go_enter Try.func31, Try.ntmps31
        go_wp2_with (first | (go_at_call 55; refine (l1In_c _ _ _ _).mono ?_; rintro e w1 ⟨rfl, rfl⟩) | (go_at_call 56; refine (l2Of_c _ 24 (by omega) (by omega) (by omega) _).mono ?_; rintro e w1 ⟨rfl, rfl⟩))
        refine wp_region_new [] 7 (fun w' => w'.cell? ⟨w.heap.size, 0, none⟩ = some (.int .i64 0) ∧ w'.cell? ⟨w.heap.size, 1, none⟩ = some (.int .i64 0) ∧ (w.heap.size < w'.heap.size ∧ ∀ i, w'.frozen? ⟨w.heap.size, i, none⟩ = false) ∧ Below w.heap.size w w') (fun g p w' => w'.cell? ⟨w.heap.size, 0, none⟩ = some (.int .i64 0) ∧ w'.cell? ⟨w.heap.size, 1, none⟩ = some (.int .i64 0) ∧ w'.cell? ⟨g, 0, none⟩ = some (if p = 0 then .int .i64 0 else .int .i64 (numL A.data.toList)) ∧ w'.cell? ⟨g, 1, none⟩ = some (if p = 0 then .int .i64 0 else .int .i64 (numL B.data.toList)) ∧ (w.heap.size < w'.heap.size ∧ ∀ i, w'.frozen? ⟨w.heap.size, i, none⟩ = false) ∧ (g < w'.heap.size ∧ ∀ i, w'.frozen? ⟨g, i, none⟩ = false) ∧ (w.heap.size < g ∧ w.heap.size ≤ g) ∧ Below w.heap.size w w') (by kernel_rfl) (by kernel_rfl) (by kernel_rfl) (by kernel_rfl) rfl rfl rfl (by first | assumption | (exact hS) | (refine ⟨?_, ?_, ?_, ?_⟩ <;> (first | (simp [go_sem]; done) | (simp [go_sem, *]; done) | (go_grown; done)))) ?_ ?_
        focus
          intro ρ w hS
          (try dsimp only at hS)
          obtain ⟨c0, c1, c2, hB⟩ := hS
          have hzw : _ ≤ w.heap.size := hB.size
          have hzn1 := World.block_lt_of_cell? w _ c0
          simp only [] at hzn1
          apply Exists.intro
          refine And.intro ?_ ?_
          focus (go_simp; (with_reducible rfl))
          (try dsimp only)
          refine ⟨?_, ?_, ?_, ?_, ?_, ?_, ?_, ?_⟩ <;> (first | (simp [go_sem]; done) | (simp [go_sem, *]; done) | (go_grown; done) | (refine ⟨?_, ?_⟩ <;> omega) | omega)
        dsimp only [List.take, List.drop]
        repeat (first
          | ((refine wpPre_skip (by rfl) (by rfl) ?_); simp only [Act.put, List.setIfInBounds_toArray, List.set_cons_zero, List.set_cons_succ])
          | ((refine wpPre_pure (v := ?_) (by rfl) (by rfl) (fun w => ?_) ?_); rotate_left; (focus (go_simp; (try (with_reducible rfl)); done)); simp only [Act.put, List.setIfInBounds_toArray, List.set_cons_zero, List.set_cons_succ])
          | ((refine wpPre_val (v := ?_) (by rfl) (by rfl) (by rfl) (fun w hS => ?_) (fun g w hS => ?_) ?_); rotate_left; (focus ((try dsimp only at hS); go_simp; (try (with_reducible rfl)); done)); (focus ((try dsimp only at hS); go_simp; (try (with_reducible rfl)); done)); simp only [Act.put, List.setIfInBounds_toArray, List.set_cons_zero, List.set_cons_succ])
          | ((refine wpPre_call (v := ?_) (f := ?_) (args := ?_) (by rfl) (by rfl) (by rfl) (fun w => ?_) (fun w hS => ?_) (fun g w hS => ?_) ?_); rotate_left; rotate_left; rotate_left; (focus (go_simp; (constructor <;> (with_reducible rfl)); done)); (focus (first | (go_at_call 49; refine (l2Number_c _ (by assumption) (by assumption) _).mono ?_; intro e w' h; refine ⟨h.1.trans ?_, h.2 ▸ hS⟩; with_reducible rfl))); (focus (first | (go_at_call 49; refine (l2Number_c _ (by assumption) (by assumption) _).mono ?_; intro e w' h; refine ⟨h.1.trans ?_, h.2 ▸ hS⟩; with_reducible rfl))); simp only [Act.put, List.setIfInBounds_toArray, List.set_cons_zero, List.set_cons_succ]))
        refine wpPre_nil ?_
        intro g1
        simp only [List.setIfInBounds_toArray, List.set_cons_zero, List.set_cons_succ]
        repeat (first
          | ((refine wpPh_pure (v := ?_) (by rfl) (by rfl) (by rfl) (fun w => ?_) ?_); rotate_left; (focus (go_simp; (try (with_reducible rfl)); done)); simp only [Act.put, List.setIfInBounds_toArray, List.set_cons_zero, List.set_cons_succ])
          | ((refine wpPh_store (by rfl) (by rfl) (by rfl) (fun wq hS => ?_) ?_); (focus ((try dsimp only at hS); obtain ⟨c0, c1, c2, c3, c4, c5, c6, hB⟩ := hS; have hst : (w.heap.size < g1 ∧ w.heap.size ≤ g1) := c6; have hne : ¬ w.heap.size = g1 ∧ ¬ g1 = w.heap.size := ⟨by omega, by omega⟩; apply Exists.intro; refine And.intro ?_ ?_; (focus (go_simp; (with_reducible rfl))); ((try dsimp only); refine ⟨?_, ?_, ?_, ?_, ?_, ?_, ?_, ?_⟩ <;> (first | (simp [go_sem]; done) | (simp [go_sem, *]; done) | (go_grown; done) | (refine ⟨?_, ?_⟩ <;> omega) | omega))))))
        refine wpPh_nil ?_
        intro w1 hS
        have hT : w1.cell? ⟨w.heap.size, 0, none⟩ = some (.int .i64 0) ∧ w1.cell? ⟨w.heap.size, 1, none⟩ = some (.int .i64 0) ∧ w1.cell? ⟨g1, 0, none⟩ = some (.int .i64 (numL A.data.toList)) ∧ w1.cell? ⟨g1, 1, none⟩ = some (.int .i64 (numL B.data.toList)) ∧ (w.heap.size < w1.heap.size ∧ ∀ i, w1.frozen? ⟨w.heap.size, i, none⟩ = false) ∧ (g1 < w1.heap.size ∧ ∀ i, w1.frozen? ⟨g1, i, none⟩ = false) ∧ (w.heap.size < g1 ∧ w.heap.size ≤ g1) ∧ Below w.heap.size w w1 := hS
        clear hS
        have hS := hT
        obtain ⟨c0, c1, c2, c3, c4, c5, c6, hB⟩ := hT
        have hzw : w.heap.size ≤ w1.heap.size := hB.size
        have hz1 : w.heap.size < w1.heap.size := World.block_lt_of_cell? w1 _ c0
        have hz2 : g1 < w1.heap.size := World.block_lt_of_cell? w1 _ c2
        go_wp2_with (first | (go_at_call 27; refine (sEnc_c _ _ _).mono ?_; rintro e w1 ⟨rfl, hb⟩; have hT : w1.cell? ⟨w.heap.size, 0, none⟩ = some (.int .i64 0) ∧ w1.cell? ⟨w.heap.size, 1, none⟩ = some (.int .i64 0) ∧ w1.cell? ⟨g1, 0, none⟩ = some (.int .i64 (uX n)) ∧ w1.cell? ⟨g1, 1, none⟩ = some (.int .i64 (uY n)) ∧ (w.heap.size < w1.heap.size ∧ ∀ i, w1.frozen? ⟨w.heap.size, i, none⟩ = false) ∧ Below w.heap.size w w1 := keep4_1 (by first | assumption | (exact hS) | (refine ⟨?_, ?_, ?_, ?_, ?_, ?_⟩ <;> (first | (simp [go_sem]; done) | (simp [go_sem, *]; done) | (go_grown; done)))) hb; (try clear hS); have hS := hT; clear hT; have hB := hS.2.2.2.2.2; have hzw := hB.size; have hz1 : w.heap.size < w1.heap.size := World.block_lt_of_cell? w1 _ (hS.1); have hz2 : g1 < w1.heap.size := World.block_lt_of_cell? w1 _ (hS.2.2.1); clear hb))
        refine bodyPost_ret (v := .tuple #[.agg #[.int .i64 (uX n), .int .i64 (uY n)], .bool true]) (by simp [results, Try.results31, go_sem, *]) rfl ⟨ret_eq (by simp [decX, decY, decK, h1, h2, h3]), by go_grown⟩
      go_enter Try.func31, Try.ntmps31
      go_wp2_with (first | (go_at_call 55; refine (l1In_c _ _ _ _).mono ?_; rintro e w1 ⟨rfl, rfl⟩) | (go_at_call 56; refine (l2Of_c _ 24 (by omega) (by omega) (by omega) _).mono ?_; rintro e w1 ⟨rfl, rfl⟩))
      refine wp_region_new [] 7 (fun w' => w'.cell? ⟨w.heap.size, 0, none⟩ = some (.int .i64 0) ∧ w'.cell? ⟨w.heap.size, 1, none⟩ = some (.int .i64 0) ∧ (w.heap.size < w'.heap.size ∧ ∀ i, w'.frozen? ⟨w.heap.size, i, none⟩ = false) ∧ Below w.heap.size w w') (fun g p w' => w'.cell? ⟨w.heap.size, 0, none⟩ = some (.int .i64 0) ∧ w'.cell? ⟨w.heap.size, 1, none⟩ = some (.int .i64 0) ∧ w'.cell? ⟨g, 0, none⟩ = some (if p = 0 then .int .i64 0 else .int .i64 (numL A.data.toList)) ∧ w'.cell? ⟨g, 1, none⟩ = some (if p = 0 then .int .i64 0 else .int .i64 (numL B.data.toList)) ∧ (w.heap.size < w'.heap.size ∧ ∀ i, w'.frozen? ⟨w.heap.size, i, none⟩ = false) ∧ (g < w'.heap.size ∧ ∀ i, w'.frozen? ⟨g, i, none⟩ = false) ∧ (w.heap.size < g ∧ w.heap.size ≤ g) ∧ Below w.heap.size w w') (by kernel_rfl) (by kernel_rfl) (by kernel_rfl) (by kernel_rfl) rfl rfl rfl (by first | assumption | (exact hS) | (refine ⟨?_, ?_, ?_, ?_⟩ <;> (first | (simp [go_sem]; done) | (simp [go_sem, *]; done) | (go_grown; done)))) ?_ ?_
      focus
        intro ρ w hS
        (try dsimp only at hS)
        obtain ⟨c0, c1, c2, hB⟩ := hS
        have hzw : _ ≤ w.heap.size := hB.size
        have hzn1 := World.block_lt_of_cell? w _ c0
        simp only [] at hzn1
        apply Exists.intro
        refine And.intro ?_ ?_
        focus (go_simp; (with_reducible rfl))
        (try dsimp only)
        refine ⟨?_, ?_, ?_, ?_, ?_, ?_, ?_, ?_⟩ <;> (first | (simp [go_sem]; done) | (simp [go_sem, *]; done) | (go_grown; done) | (refine ⟨?_, ?_⟩ <;> omega) | omega)
      dsimp only [List.take, List.drop]
      repeat (first
        | ((refine wpPre_skip (by rfl) (by rfl) ?_); simp only [Act.put, List.setIfInBounds_toArray, List.set_cons_zero, List.set_cons_succ])
        | ((refine wpPre_pure (v := ?_) (by rfl) (by rfl) (fun w => ?_) ?_); rotate_left; (focus (go_simp; (try (with_reducible rfl)); done)); simp only [Act.put, List.setIfInBounds_toArray, List.set_cons_zero, List.set_cons_succ])
        | ((refine wpPre_val (v := ?_) (by rfl) (by rfl) (by rfl) (fun w hS => ?_) (fun g w hS => ?_) ?_); rotate_left; (focus ((try dsimp only at hS); go_simp; (try (with_reducible rfl)); done)); (focus ((try dsimp only at hS); go_simp; (try (with_reducible rfl)); done)); simp only [Act.put, List.setIfInBounds_toArray, List.set_cons_zero, List.set_cons_succ])
        | ((refine wpPre_call (v := ?_) (f := ?_) (args := ?_) (by rfl) (by rfl) (by rfl) (fun w => ?_) (fun w hS => ?_) (fun g w hS => ?_) ?_); rotate_left; rotate_left; rotate_left; (focus (go_simp; (constructor <;> (with_reducible rfl)); done)); (focus (first | (go_at_call 49; refine (l2Number_c _ (by assumption) (by assumption) _).mono ?_; intro e w' h; refine ⟨h.1.trans ?_, h.2 ▸ hS⟩; with_reducible rfl))); (focus (first | (go_at_call 49; refine (l2Number_c _ (by assumption) (by assumption) _).mono ?_; intro e w' h; refine ⟨h.1.trans ?_, h.2 ▸ hS⟩; with_reducible rfl))); simp only [Act.put, List.setIfInBounds_toArray, List.set_cons_zero, List.set_cons_succ]))
      refine wpPre_nil ?_
      intro g1
      simp only [List.setIfInBounds_toArray, List.set_cons_zero, List.set_cons_succ]
      repeat (first
        | ((refine wpPh_pure (v := ?_) (by rfl) (by rfl) (by rfl) (fun w => ?_) ?_); rotate_left; (focus (go_simp; (try (with_reducible rfl)); done)); simp only [Act.put, List.setIfInBounds_toArray, List.set_cons_zero, List.set_cons_succ])
        | ((refine wpPh_store (by rfl) (by rfl) (by rfl) (fun wq hS => ?_) ?_); (focus ((try dsimp only at hS); obtain ⟨c0, c1, c2, c3, c4, c5, c6, hB⟩ := hS; have hst : (w.heap.size < g1 ∧ w.heap.size ≤ g1) := c6; have hne : ¬ w.heap.size = g1 ∧ ¬ g1 = w.heap.size := ⟨by omega, by omega⟩; apply Exists.intro; refine And.intro ?_ ?_; (focus (go_simp; (with_reducible rfl))); ((try dsimp only); refine ⟨?_, ?_, ?_, ?_, ?_, ?_, ?_, ?_⟩ <;> (first | (simp [go_sem]; done) | (simp [go_sem, *]; done) | (go_grown; done) | (refine ⟨?_, ?_⟩ <;> omega) | omega))))))
      refine wpPh_nil ?_
      intro w1 hS
      have hT : w1.cell? ⟨w.heap.size, 0, none⟩ = some (.int .i64 0) ∧ w1.cell? ⟨w.heap.size, 1, none⟩ = some (.int .i64 0) ∧ w1.cell? ⟨g1, 0, none⟩ = some (.int .i64 (numL A.data.toList)) ∧ w1.cell? ⟨g1, 1, none⟩ = some (.int .i64 (numL B.data.toList)) ∧ (w.heap.size < w1.heap.size ∧ ∀ i, w1.frozen? ⟨w.heap.size, i, none⟩ = false) ∧ (g1 < w1.heap.size ∧ ∀ i, w1.frozen? ⟨g1, i, none⟩ = false) ∧ (w.heap.size < g1 ∧ w.heap.size ≤ g1) ∧ Below w.heap.size w w1 := hS
      clear hS
      have hS := hT
      obtain ⟨c0, c1, c2, c3, c4, c5, c6, hB⟩ := hT
      have hzw : w.heap.size ≤ w1.heap.size := hB.size
      have hz1 : w.heap.size < w1.heap.size := World.block_lt_of_cell? w1 _ c0
      have hz2 : g1 < w1.heap.size := World.block_lt_of_cell? w1 _ c2
      go_wp2_with (first | (go_at_call 27; refine (sEnc_c _ _ _).mono ?_; rintro e w1 ⟨rfl, hb⟩; have hT : w1.cell? ⟨w.heap.size, 0, none⟩ = some (.int .i64 0) ∧ w1.cell? ⟨w.heap.size, 1, none⟩ = some (.int .i64 0) ∧ w1.cell? ⟨g1, 0, none⟩ = some (.int .i64 (uX n)) ∧ w1.cell? ⟨g1, 1, none⟩ = some (.int .i64 (uY n)) ∧ (w.heap.size < w1.heap.size ∧ ∀ i, w1.frozen? ⟨w.heap.size, i, none⟩ = false) ∧ Below w.heap.size w w1 := keep4_1 (by first | assumption | (exact hS) | (refine ⟨?_, ?_, ?_, ?_, ?_, ?_⟩ <;> (first | (simp [go_sem]; done) | (simp [go_sem, *]; done) | (go_grown; done)))) hb; (try clear hS); have hS := hT; clear hT; have hB := hS.2.2.2.2.2; have hzw := hB.size; have hz1 : w.heap.size < w1.heap.size := World.block_lt_of_cell? w1 _ (hS.1); have hz2 : g1 < w1.heap.size := World.block_lt_of_cell? w1 _ (hS.2.2.1); clear hb))
      refine bodyPost_ret (v := .tuple #[.agg #[.int .i64 0, .int .i64 0], .bool false]) (by simp [results, Try.results31, go_sem, *]) rfl ⟨ret_eq (by simp [decX, decY, decK, h1, h2, h3]), by go_grown⟩
    obtain ⟨v0, v1⟩ := us_bd (m := n / 8192) (by omega) (by omega)
    obtain ⟨v2, v3⟩ := us_bd (m := n / 4 % 2048) (by omega) (by omega)
    change -1023 ≤ uX n at v0
    change uX n ≤ 1023 at v1
    change -1023 ≤ uY n at v2
    change uY n ≤ 1023 at v3
    have v4 : IntKind.i64.wrap (uX n) = uX n := IntWalk.i64_in _ (by omega)
    have v5 : IntKind.i64.wrap (uY n) = uY n := IntWalk.i64_in _ (by omega)
    have u1 : -numL A.data.toList = uX n := by have := HA.out; rw [pu, if_pos sx]; omega
    have u2 : numL B.data.toList = uY n := by have := HB.out; rw [pv, if_neg sy]; omega
    have d0 : ((s[0]).toNat : Int) = 49 := by rw [T0, bit_one _ |>.2 sx]; rfl
    have d1 : ((s[11]).toNat : Int) = 48 := by rw [T1, (show bit _ = 48 from by unfold bit; rw [if_pos (by omega)])]; rfl
    clear pu pv T0 T1 sx sy
    rcases h2 : vV (uX n) (uY n) with _ | _
    · go_enter Try.func31, Try.ntmps31
      go_wp2_with (first | (go_at_call 55; refine (l1In_c _ _ _ _).mono ?_; rintro e w1 ⟨rfl, rfl⟩) | (go_at_call 56; refine (l2Of_c _ 24 (by omega) (by omega) (by omega) _).mono ?_; rintro e w1 ⟨rfl, rfl⟩))
      refine wp_region_new [] 7 (fun w' => w'.cell? ⟨w.heap.size, 0, none⟩ = some (.int .i64 0) ∧ w'.cell? ⟨w.heap.size, 1, none⟩ = some (.int .i64 0) ∧ (w.heap.size < w'.heap.size ∧ ∀ i, w'.frozen? ⟨w.heap.size, i, none⟩ = false) ∧ Below w.heap.size w w') (fun g p w' => w'.cell? ⟨w.heap.size, 0, none⟩ = some (.int .i64 0) ∧ w'.cell? ⟨w.heap.size, 1, none⟩ = some (.int .i64 0) ∧ w'.cell? ⟨g, 0, none⟩ = some (if p = 0 then .int .i64 0 else .int .i64 (numL A.data.toList)) ∧ w'.cell? ⟨g, 1, none⟩ = some (if p = 0 then .int .i64 0 else .int .i64 (numL B.data.toList)) ∧ (w.heap.size < w'.heap.size ∧ ∀ i, w'.frozen? ⟨w.heap.size, i, none⟩ = false) ∧ (g < w'.heap.size ∧ ∀ i, w'.frozen? ⟨g, i, none⟩ = false) ∧ (w.heap.size < g ∧ w.heap.size ≤ g) ∧ Below w.heap.size w w') (by kernel_rfl) (by kernel_rfl) (by kernel_rfl) (by kernel_rfl) rfl rfl rfl (by first | assumption | (exact hS) | (refine ⟨?_, ?_, ?_, ?_⟩ <;> (first | (simp [go_sem]; done) | (simp [go_sem, *]; done) | (go_grown; done)))) ?_ ?_
      focus
        intro ρ w hS
        (try dsimp only at hS)
        obtain ⟨c0, c1, c2, hB⟩ := hS
        have hzw : _ ≤ w.heap.size := hB.size
        have hzn1 := World.block_lt_of_cell? w _ c0
        simp only [] at hzn1
        apply Exists.intro
        refine And.intro ?_ ?_
        focus (go_simp; (with_reducible rfl))
        (try dsimp only)
        refine ⟨?_, ?_, ?_, ?_, ?_, ?_, ?_, ?_⟩ <;> (first | (simp [go_sem]; done) | (simp [go_sem, *]; done) | (go_grown; done) | (refine ⟨?_, ?_⟩ <;> omega) | omega)
      dsimp only [List.take, List.drop]
      repeat (first
        | ((refine wpPre_skip (by rfl) (by rfl) ?_); simp only [Act.put, List.setIfInBounds_toArray, List.set_cons_zero, List.set_cons_succ])
        | ((refine wpPre_pure (v := ?_) (by rfl) (by rfl) (fun w => ?_) ?_); rotate_left; (focus (go_simp; (try (with_reducible rfl)); done)); simp only [Act.put, List.setIfInBounds_toArray, List.set_cons_zero, List.set_cons_succ])
        | ((refine wpPre_val (v := ?_) (by rfl) (by rfl) (by rfl) (fun w hS => ?_) (fun g w hS => ?_) ?_); rotate_left; (focus ((try dsimp only at hS); go_simp; (try (with_reducible rfl)); done)); (focus ((try dsimp only at hS); go_simp; (try (with_reducible rfl)); done)); simp only [Act.put, List.setIfInBounds_toArray, List.set_cons_zero, List.set_cons_succ])
        | ((refine wpPre_call (v := ?_) (f := ?_) (args := ?_) (by rfl) (by rfl) (by rfl) (fun w => ?_) (fun w hS => ?_) (fun g w hS => ?_) ?_); rotate_left; rotate_left; rotate_left; (focus (go_simp; (constructor <;> (with_reducible rfl)); done)); (focus (first | (go_at_call 49; refine (l2Number_c _ (by assumption) (by assumption) _).mono ?_; intro e w' h; refine ⟨h.1.trans ?_, h.2 ▸ hS⟩; with_reducible rfl))); (focus (first | (go_at_call 49; refine (l2Number_c _ (by assumption) (by assumption) _).mono ?_; intro e w' h; refine ⟨h.1.trans ?_, h.2 ▸ hS⟩; with_reducible rfl))); simp only [Act.put, List.setIfInBounds_toArray, List.set_cons_zero, List.set_cons_succ]))
      refine wpPre_nil ?_
      intro g1
      simp only [List.setIfInBounds_toArray, List.set_cons_zero, List.set_cons_succ]
      repeat (first
        | ((refine wpPh_pure (v := ?_) (by rfl) (by rfl) (by rfl) (fun w => ?_) ?_); rotate_left; (focus (go_simp; (try (with_reducible rfl)); done)); simp only [Act.put, List.setIfInBounds_toArray, List.set_cons_zero, List.set_cons_succ])
        | ((refine wpPh_store (by rfl) (by rfl) (by rfl) (fun wq hS => ?_) ?_); (focus ((try dsimp only at hS); obtain ⟨c0, c1, c2, c3, c4, c5, c6, hB⟩ := hS; have hst : (w.heap.size < g1 ∧ w.heap.size ≤ g1) := c6; have hne : ¬ w.heap.size = g1 ∧ ¬ g1 = w.heap.size := ⟨by omega, by omega⟩; apply Exists.intro; refine And.intro ?_ ?_; (focus (go_simp; (with_reducible rfl))); ((try dsimp only); refine ⟨?_, ?_, ?_, ?_, ?_, ?_, ?_, ?_⟩ <;> (first | (simp [go_sem]; done) | (simp [go_sem, *]; done) | (go_grown; done) | (refine ⟨?_, ?_⟩ <;> omega) | omega))))))
      refine wpPh_nil ?_
      intro w1 hS
      have hT : w1.cell? ⟨w.heap.size, 0, none⟩ = some (.int .i64 0) ∧ w1.cell? ⟨w.heap.size, 1, none⟩ = some (.int .i64 0) ∧ w1.cell? ⟨g1, 0, none⟩ = some (.int .i64 (numL A.data.toList)) ∧ w1.cell? ⟨g1, 1, none⟩ = some (.int .i64 (numL B.data.toList)) ∧ (w.heap.size < w1.heap.size ∧ ∀ i, w1.frozen? ⟨w.heap.size, i, none⟩ = false) ∧ (g1 < w1.heap.size ∧ ∀ i, w1.frozen? ⟨g1, i, none⟩ = false) ∧ (w.heap.size < g1 ∧ w.heap.size ≤ g1) ∧ Below w.heap.size w w1 := hS
      clear hS
      have hS := hT
      obtain ⟨c0, c1, c2, c3, c4, c5, c6, hB⟩ := hT
      have hzw : w.heap.size ≤ w1.heap.size := hB.size
      have hz1 : w.heap.size < w1.heap.size := World.block_lt_of_cell? w1 _ c0
      have hz2 : g1 < w1.heap.size := World.block_lt_of_cell? w1 _ c2
      go_wp2_with (first | (go_at_call 27; refine (sEnc_c _ _ _).mono ?_; rintro e w1 ⟨rfl, hb⟩; have hT : w1.cell? ⟨w.heap.size, 0, none⟩ = some (.int .i64 0) ∧ w1.cell? ⟨w.heap.size, 1, none⟩ = some (.int .i64 0) ∧ w1.cell? ⟨g1, 0, none⟩ = some (.int .i64 (uX n)) ∧ w1.cell? ⟨g1, 1, none⟩ = some (.int .i64 (uY n)) ∧ (w.heap.size < w1.heap.size ∧ ∀ i, w1.frozen? ⟨w.heap.size, i, none⟩ = false) ∧ Below w.heap.size w w1 := keep4_1 (by first | assumption | (exact hS) | (refine ⟨?_, ?_, ?_, ?_, ?_, ?_⟩ <;> (first | (simp [go_sem]; done) | (simp [go_sem, *]; done) | (go_grown; done)))) hb; (try clear hS); have hS := hT; clear hT; have hB := hS.2.2.2.2.2; have hzw := hB.size; have hz1 : w.heap.size < w1.heap.size := World.block_lt_of_cell? w1 _ (hS.1); have hz2 : g1 < w1.heap.size := World.block_lt_of_cell? w1 _ (hS.2.2.1); clear hb))
      refine bodyPost_ret (v := .tuple #[.agg #[.int .i64 0, .int .i64 0], .bool false]) (by simp [results, Try.results31, go_sem, *]) rfl ⟨ret_eq (by simp [decX, decY, decK, h1, h2]), by go_grown⟩
    by_cases h3 : enc (uX n) (uY n) = n
    · go_enter Try.func31, Try.ntmps31
      go_wp2_with (first | (go_at_call 55; refine (l1In_c _ _ _ _).mono ?_; rintro e w1 ⟨rfl, rfl⟩) | (go_at_call 56; refine (l2Of_c _ 24 (by omega) (by omega) (by omega) _).mono ?_; rintro e w1 ⟨rfl, rfl⟩))
      refine wp_region_new [] 7 (fun w' => w'.cell? ⟨w.heap.size, 0, none⟩ = some (.int .i64 0) ∧ w'.cell? ⟨w.heap.size, 1, none⟩ = some (.int .i64 0) ∧ (w.heap.size < w'.heap.size ∧ ∀ i, w'.frozen? ⟨w.heap.size, i, none⟩ = false) ∧ Below w.heap.size w w') (fun g p w' => w'.cell? ⟨w.heap.size, 0, none⟩ = some (.int .i64 0) ∧ w'.cell? ⟨w.heap.size, 1, none⟩ = some (.int .i64 0) ∧ w'.cell? ⟨g, 0, none⟩ = some (if p = 0 then .int .i64 0 else .int .i64 (numL A.data.toList)) ∧ w'.cell? ⟨g, 1, none⟩ = some (if p = 0 then .int .i64 0 else .int .i64 (numL B.data.toList)) ∧ (w.heap.size < w'.heap.size ∧ ∀ i, w'.frozen? ⟨w.heap.size, i, none⟩ = false) ∧ (g < w'.heap.size ∧ ∀ i, w'.frozen? ⟨g, i, none⟩ = false) ∧ (w.heap.size < g ∧ w.heap.size ≤ g) ∧ Below w.heap.size w w') (by kernel_rfl) (by kernel_rfl) (by kernel_rfl) (by kernel_rfl) rfl rfl rfl (by first | assumption | (exact hS) | (refine ⟨?_, ?_, ?_, ?_⟩ <;> (first | (simp [go_sem]; done) | (simp [go_sem, *]; done) | (go_grown; done)))) ?_ ?_
      focus
        intro ρ w hS
        (try dsimp only at hS)
        obtain ⟨c0, c1, c2, hB⟩ := hS
        have hzw : _ ≤ w.heap.size := hB.size
        have hzn1 := World.block_lt_of_cell? w _ c0
        simp only [] at hzn1
        apply Exists.intro
        refine And.intro ?_ ?_
        focus (go_simp; (with_reducible rfl))
        (try dsimp only)
        refine ⟨?_, ?_, ?_, ?_, ?_, ?_, ?_, ?_⟩ <;> (first | (simp [go_sem]; done) | (simp [go_sem, *]; done) | (go_grown; done) | (refine ⟨?_, ?_⟩ <;> omega) | omega)
      dsimp only [List.take, List.drop]
      repeat (first
        | ((refine wpPre_skip (by rfl) (by rfl) ?_); simp only [Act.put, List.setIfInBounds_toArray, List.set_cons_zero, List.set_cons_succ])
        | ((refine wpPre_pure (v := ?_) (by rfl) (by rfl) (fun w => ?_) ?_); rotate_left; (focus (go_simp; (try (with_reducible rfl)); done)); simp only [Act.put, List.setIfInBounds_toArray, List.set_cons_zero, List.set_cons_succ])
        | ((refine wpPre_val (v := ?_) (by rfl) (by rfl) (by rfl) (fun w hS => ?_) (fun g w hS => ?_) ?_); rotate_left; (focus ((try dsimp only at hS); go_simp; (try (with_reducible rfl)); done)); (focus ((try dsimp only at hS); go_simp; (try (with_reducible rfl)); done)); simp only [Act.put, List.setIfInBounds_toArray, List.set_cons_zero, List.set_cons_succ])
        | ((refine wpPre_call (v := ?_) (f := ?_) (args := ?_) (by rfl) (by rfl) (by rfl) (fun w => ?_) (fun w hS => ?_) (fun g w hS => ?_) ?_); rotate_left; rotate_left; rotate_left; (focus (go_simp; (constructor <;> (with_reducible rfl)); done)); (focus (first | (go_at_call 49; refine (l2Number_c _ (by assumption) (by assumption) _).mono ?_; intro e w' h; refine ⟨h.1.trans ?_, h.2 ▸ hS⟩; with_reducible rfl))); (focus (first | (go_at_call 49; refine (l2Number_c _ (by assumption) (by assumption) _).mono ?_; intro e w' h; refine ⟨h.1.trans ?_, h.2 ▸ hS⟩; with_reducible rfl))); simp only [Act.put, List.setIfInBounds_toArray, List.set_cons_zero, List.set_cons_succ]))
      refine wpPre_nil ?_
      intro g1
      simp only [List.setIfInBounds_toArray, List.set_cons_zero, List.set_cons_succ]
      repeat (first
        | ((refine wpPh_pure (v := ?_) (by rfl) (by rfl) (by rfl) (fun w => ?_) ?_); rotate_left; (focus (go_simp; (try (with_reducible rfl)); done)); simp only [Act.put, List.setIfInBounds_toArray, List.set_cons_zero, List.set_cons_succ])
        | ((refine wpPh_store (by rfl) (by rfl) (by rfl) (fun wq hS => ?_) ?_); (focus ((try dsimp only at hS); obtain ⟨c0, c1, c2, c3, c4, c5, c6, hB⟩ := hS; have hst : (w.heap.size < g1 ∧ w.heap.size ≤ g1) := c6; have hne : ¬ w.heap.size = g1 ∧ ¬ g1 = w.heap.size := ⟨by omega, by omega⟩; apply Exists.intro; refine And.intro ?_ ?_; (focus (go_simp; (with_reducible rfl))); ((try dsimp only); refine ⟨?_, ?_, ?_, ?_, ?_, ?_, ?_, ?_⟩ <;> (first | (simp [go_sem]; done) | (simp [go_sem, *]; done) | (go_grown; done) | (refine ⟨?_, ?_⟩ <;> omega) | omega))))))
      refine wpPh_nil ?_
      intro w1 hS
      have hT : w1.cell? ⟨w.heap.size, 0, none⟩ = some (.int .i64 0) ∧ w1.cell? ⟨w.heap.size, 1, none⟩ = some (.int .i64 0) ∧ w1.cell? ⟨g1, 0, none⟩ = some (.int .i64 (numL A.data.toList)) ∧ w1.cell? ⟨g1, 1, none⟩ = some (.int .i64 (numL B.data.toList)) ∧ (w.heap.size < w1.heap.size ∧ ∀ i, w1.frozen? ⟨w.heap.size, i, none⟩ = false) ∧ (g1 < w1.heap.size ∧ ∀ i, w1.frozen? ⟨g1, i, none⟩ = false) ∧ (w.heap.size < g1 ∧ w.heap.size ≤ g1) ∧ Below w.heap.size w w1 := hS
      clear hS
      have hS := hT
      obtain ⟨c0, c1, c2, c3, c4, c5, c6, hB⟩ := hT
      have hzw : w.heap.size ≤ w1.heap.size := hB.size
      have hz1 : w.heap.size < w1.heap.size := World.block_lt_of_cell? w1 _ c0
      have hz2 : g1 < w1.heap.size := World.block_lt_of_cell? w1 _ c2
      go_wp2_with (first | (go_at_call 27; refine (sEnc_c _ _ _).mono ?_; rintro e w1 ⟨rfl, hb⟩; have hT : w1.cell? ⟨w.heap.size, 0, none⟩ = some (.int .i64 0) ∧ w1.cell? ⟨w.heap.size, 1, none⟩ = some (.int .i64 0) ∧ w1.cell? ⟨g1, 0, none⟩ = some (.int .i64 (uX n)) ∧ w1.cell? ⟨g1, 1, none⟩ = some (.int .i64 (uY n)) ∧ (w.heap.size < w1.heap.size ∧ ∀ i, w1.frozen? ⟨w.heap.size, i, none⟩ = false) ∧ Below w.heap.size w w1 := keep4_1 (by first | assumption | (exact hS) | (refine ⟨?_, ?_, ?_, ?_, ?_, ?_⟩ <;> (first | (simp [go_sem]; done) | (simp [go_sem, *]; done) | (go_grown; done)))) hb; (try clear hS); have hS := hT; clear hT; have hB := hS.2.2.2.2.2; have hzw := hB.size; have hz1 : w.heap.size < w1.heap.size := World.block_lt_of_cell? w1 _ (hS.1); have hz2 : g1 < w1.heap.size := World.block_lt_of_cell? w1 _ (hS.2.2.1); clear hb))
      refine bodyPost_ret (v := .tuple #[.agg #[.int .i64 (uX n), .int .i64 (uY n)], .bool true]) (by simp [results, Try.results31, go_sem, *]) rfl ⟨ret_eq (by simp [decX, decY, decK, h1, h2, h3]), by go_grown⟩
    go_enter Try.func31, Try.ntmps31
    go_wp2_with (first | (go_at_call 55; refine (l1In_c _ _ _ _).mono ?_; rintro e w1 ⟨rfl, rfl⟩) | (go_at_call 56; refine (l2Of_c _ 24 (by omega) (by omega) (by omega) _).mono ?_; rintro e w1 ⟨rfl, rfl⟩))
    refine wp_region_new [] 7 (fun w' => w'.cell? ⟨w.heap.size, 0, none⟩ = some (.int .i64 0) ∧ w'.cell? ⟨w.heap.size, 1, none⟩ = some (.int .i64 0) ∧ (w.heap.size < w'.heap.size ∧ ∀ i, w'.frozen? ⟨w.heap.size, i, none⟩ = false) ∧ Below w.heap.size w w') (fun g p w' => w'.cell? ⟨w.heap.size, 0, none⟩ = some (.int .i64 0) ∧ w'.cell? ⟨w.heap.size, 1, none⟩ = some (.int .i64 0) ∧ w'.cell? ⟨g, 0, none⟩ = some (if p = 0 then .int .i64 0 else .int .i64 (numL A.data.toList)) ∧ w'.cell? ⟨g, 1, none⟩ = some (if p = 0 then .int .i64 0 else .int .i64 (numL B.data.toList)) ∧ (w.heap.size < w'.heap.size ∧ ∀ i, w'.frozen? ⟨w.heap.size, i, none⟩ = false) ∧ (g < w'.heap.size ∧ ∀ i, w'.frozen? ⟨g, i, none⟩ = false) ∧ (w.heap.size < g ∧ w.heap.size ≤ g) ∧ Below w.heap.size w w') (by kernel_rfl) (by kernel_rfl) (by kernel_rfl) (by kernel_rfl) rfl rfl rfl (by first | assumption | (exact hS) | (refine ⟨?_, ?_, ?_, ?_⟩ <;> (first | (simp [go_sem]; done) | (simp [go_sem, *]; done) | (go_grown; done)))) ?_ ?_
    focus
      intro ρ w hS
      (try dsimp only at hS)
      obtain ⟨c0, c1, c2, hB⟩ := hS
      have hzw : _ ≤ w.heap.size := hB.size
      have hzn1 := World.block_lt_of_cell? w _ c0
      simp only [] at hzn1
      apply Exists.intro
      refine And.intro ?_ ?_
      focus (go_simp; (with_reducible rfl))
      (try dsimp only)
      refine ⟨?_, ?_, ?_, ?_, ?_, ?_, ?_, ?_⟩ <;> (first | (simp [go_sem]; done) | (simp [go_sem, *]; done) | (go_grown; done) | (refine ⟨?_, ?_⟩ <;> omega) | omega)
    dsimp only [List.take, List.drop]
    repeat (first
      | ((refine wpPre_skip (by rfl) (by rfl) ?_); simp only [Act.put, List.setIfInBounds_toArray, List.set_cons_zero, List.set_cons_succ])
      | ((refine wpPre_pure (v := ?_) (by rfl) (by rfl) (fun w => ?_) ?_); rotate_left; (focus (go_simp; (try (with_reducible rfl)); done)); simp only [Act.put, List.setIfInBounds_toArray, List.set_cons_zero, List.set_cons_succ])
      | ((refine wpPre_val (v := ?_) (by rfl) (by rfl) (by rfl) (fun w hS => ?_) (fun g w hS => ?_) ?_); rotate_left; (focus ((try dsimp only at hS); go_simp; (try (with_reducible rfl)); done)); (focus ((try dsimp only at hS); go_simp; (try (with_reducible rfl)); done)); simp only [Act.put, List.setIfInBounds_toArray, List.set_cons_zero, List.set_cons_succ])
      | ((refine wpPre_call (v := ?_) (f := ?_) (args := ?_) (by rfl) (by rfl) (by rfl) (fun w => ?_) (fun w hS => ?_) (fun g w hS => ?_) ?_); rotate_left; rotate_left; rotate_left; (focus (go_simp; (constructor <;> (with_reducible rfl)); done)); (focus (first | (go_at_call 49; refine (l2Number_c _ (by assumption) (by assumption) _).mono ?_; intro e w' h; refine ⟨h.1.trans ?_, h.2 ▸ hS⟩; with_reducible rfl))); (focus (first | (go_at_call 49; refine (l2Number_c _ (by assumption) (by assumption) _).mono ?_; intro e w' h; refine ⟨h.1.trans ?_, h.2 ▸ hS⟩; with_reducible rfl))); simp only [Act.put, List.setIfInBounds_toArray, List.set_cons_zero, List.set_cons_succ]))
    refine wpPre_nil ?_
    intro g1
    simp only [List.setIfInBounds_toArray, List.set_cons_zero, List.set_cons_succ]
    repeat (first
      | ((refine wpPh_pure (v := ?_) (by rfl) (by rfl) (by rfl) (fun w => ?_) ?_); rotate_left; (focus (go_simp; (try (with_reducible rfl)); done)); simp only [Act.put, List.setIfInBounds_toArray, List.set_cons_zero, List.set_cons_succ])
      | ((refine wpPh_store (by rfl) (by rfl) (by rfl) (fun wq hS => ?_) ?_); (focus ((try dsimp only at hS); obtain ⟨c0, c1, c2, c3, c4, c5, c6, hB⟩ := hS; have hst : (w.heap.size < g1 ∧ w.heap.size ≤ g1) := c6; have hne : ¬ w.heap.size = g1 ∧ ¬ g1 = w.heap.size := ⟨by omega, by omega⟩; apply Exists.intro; refine And.intro ?_ ?_; (focus (go_simp; (with_reducible rfl))); ((try dsimp only); refine ⟨?_, ?_, ?_, ?_, ?_, ?_, ?_, ?_⟩ <;> (first | (simp [go_sem]; done) | (simp [go_sem, *]; done) | (go_grown; done) | (refine ⟨?_, ?_⟩ <;> omega) | omega))))))
    refine wpPh_nil ?_
    intro w1 hS
    have hT : w1.cell? ⟨w.heap.size, 0, none⟩ = some (.int .i64 0) ∧ w1.cell? ⟨w.heap.size, 1, none⟩ = some (.int .i64 0) ∧ w1.cell? ⟨g1, 0, none⟩ = some (.int .i64 (numL A.data.toList)) ∧ w1.cell? ⟨g1, 1, none⟩ = some (.int .i64 (numL B.data.toList)) ∧ (w.heap.size < w1.heap.size ∧ ∀ i, w1.frozen? ⟨w.heap.size, i, none⟩ = false) ∧ (g1 < w1.heap.size ∧ ∀ i, w1.frozen? ⟨g1, i, none⟩ = false) ∧ (w.heap.size < g1 ∧ w.heap.size ≤ g1) ∧ Below w.heap.size w w1 := hS
    clear hS
    have hS := hT
    obtain ⟨c0, c1, c2, c3, c4, c5, c6, hB⟩ := hT
    have hzw : w.heap.size ≤ w1.heap.size := hB.size
    have hz1 : w.heap.size < w1.heap.size := World.block_lt_of_cell? w1 _ c0
    have hz2 : g1 < w1.heap.size := World.block_lt_of_cell? w1 _ c2
    go_wp2_with (first | (go_at_call 27; refine (sEnc_c _ _ _).mono ?_; rintro e w1 ⟨rfl, hb⟩; have hT : w1.cell? ⟨w.heap.size, 0, none⟩ = some (.int .i64 0) ∧ w1.cell? ⟨w.heap.size, 1, none⟩ = some (.int .i64 0) ∧ w1.cell? ⟨g1, 0, none⟩ = some (.int .i64 (uX n)) ∧ w1.cell? ⟨g1, 1, none⟩ = some (.int .i64 (uY n)) ∧ (w.heap.size < w1.heap.size ∧ ∀ i, w1.frozen? ⟨w.heap.size, i, none⟩ = false) ∧ Below w.heap.size w w1 := keep4_1 (by first | assumption | (exact hS) | (refine ⟨?_, ?_, ?_, ?_, ?_, ?_⟩ <;> (first | (simp [go_sem]; done) | (simp [go_sem, *]; done) | (go_grown; done)))) hb; (try clear hS); have hS := hT; clear hT; have hB := hS.2.2.2.2.2; have hzw := hB.size; have hz1 : w.heap.size < w1.heap.size := World.block_lt_of_cell? w1 _ (hS.1); have hz2 : g1 < w1.heap.size := World.block_lt_of_cell? w1 _ (hS.2.2.1); clear hb))
    refine bodyPost_ret (v := .tuple #[.agg #[.int .i64 0, .int .i64 0], .bool false]) (by simp [results, Try.results31, go_sem, *]) rfl ⟨ret_eq (by simp [decX, decY, decK, h1, h2, h3]), by go_grown⟩
  by_cases sy : n / 4096 % 2 = 1
  · obtain ⟨v0, v1⟩ := us_bd (m := n / 8192) (by omega) (by omega)
    obtain ⟨v2, v3⟩ := us_bd (m := n / 4 % 2048) (by omega) (by omega)
    change -1023 ≤ uX n at v0
    change uX n ≤ 1023 at v1
    change -1023 ≤ uY n at v2
    change uY n ≤ 1023 at v3
    have v4 : IntKind.i64.wrap (uX n) = uX n := IntWalk.i64_in _ (by omega)
    have v5 : IntKind.i64.wrap (uY n) = uY n := IntWalk.i64_in _ (by omega)
    have u1 : numL A.data.toList = uX n := by have := HA.out; rw [pu, if_neg sx]; omega
    have u2 : -numL B.data.toList = uY n := by have := HB.out; rw [pv, if_pos sy]; omega
    have d0 : ((s[0]).toNat : Int) = 48 := by rw [T0, (show bit _ = 48 from by unfold bit; rw [if_pos (by omega)])]; rfl
    have d1 : ((s[11]).toNat : Int) = 49 := by rw [T1, bit_one _ |>.2 sy]; rfl
    clear pu pv T0 T1 sx sy
    rcases h2 : vV (uX n) (uY n) with _ | _
    · go_enter Try.func31, Try.ntmps31
      go_wp2_with (first | (go_at_call 55; refine (l1In_c _ _ _ _).mono ?_; rintro e w1 ⟨rfl, rfl⟩) | (go_at_call 56; refine (l2Of_c _ 24 (by omega) (by omega) (by omega) _).mono ?_; rintro e w1 ⟨rfl, rfl⟩))
      refine wp_region_new [] 7 (fun w' => w'.cell? ⟨w.heap.size, 0, none⟩ = some (.int .i64 0) ∧ w'.cell? ⟨w.heap.size, 1, none⟩ = some (.int .i64 0) ∧ (w.heap.size < w'.heap.size ∧ ∀ i, w'.frozen? ⟨w.heap.size, i, none⟩ = false) ∧ Below w.heap.size w w') (fun g p w' => w'.cell? ⟨w.heap.size, 0, none⟩ = some (.int .i64 0) ∧ w'.cell? ⟨w.heap.size, 1, none⟩ = some (.int .i64 0) ∧ w'.cell? ⟨g, 0, none⟩ = some (if p = 0 then .int .i64 0 else .int .i64 (numL A.data.toList)) ∧ w'.cell? ⟨g, 1, none⟩ = some (if p = 0 then .int .i64 0 else .int .i64 (numL B.data.toList)) ∧ (w.heap.size < w'.heap.size ∧ ∀ i, w'.frozen? ⟨w.heap.size, i, none⟩ = false) ∧ (g < w'.heap.size ∧ ∀ i, w'.frozen? ⟨g, i, none⟩ = false) ∧ (w.heap.size < g ∧ w.heap.size ≤ g) ∧ Below w.heap.size w w') (by kernel_rfl) (by kernel_rfl) (by kernel_rfl) (by kernel_rfl) rfl rfl rfl (by first | assumption | (exact hS) | (refine ⟨?_, ?_, ?_, ?_⟩ <;> (first | (simp [go_sem]; done) | (simp [go_sem, *]; done) | (go_grown; done)))) ?_ ?_
      focus
        intro ρ w hS
        (try dsimp only at hS)
        obtain ⟨c0, c1, c2, hB⟩ := hS
        have hzw : _ ≤ w.heap.size := hB.size
        have hzn1 := World.block_lt_of_cell? w _ c0
        simp only [] at hzn1
        apply Exists.intro
        refine And.intro ?_ ?_
        focus (go_simp; (with_reducible rfl))
        (try dsimp only)
        refine ⟨?_, ?_, ?_, ?_, ?_, ?_, ?_, ?_⟩ <;> (first | (simp [go_sem]; done) | (simp [go_sem, *]; done) | (go_grown; done) | (refine ⟨?_, ?_⟩ <;> omega) | omega)
      dsimp only [List.take, List.drop]
      repeat (first
        | ((refine wpPre_skip (by rfl) (by rfl) ?_); simp only [Act.put, List.setIfInBounds_toArray, List.set_cons_zero, List.set_cons_succ])
        | ((refine wpPre_pure (v := ?_) (by rfl) (by rfl) (fun w => ?_) ?_); rotate_left; (focus (go_simp; (try (with_reducible rfl)); done)); simp only [Act.put, List.setIfInBounds_toArray, List.set_cons_zero, List.set_cons_succ])
        | ((refine wpPre_val (v := ?_) (by rfl) (by rfl) (by rfl) (fun w hS => ?_) (fun g w hS => ?_) ?_); rotate_left; (focus ((try dsimp only at hS); go_simp; (try (with_reducible rfl)); done)); (focus ((try dsimp only at hS); go_simp; (try (with_reducible rfl)); done)); simp only [Act.put, List.setIfInBounds_toArray, List.set_cons_zero, List.set_cons_succ])
        | ((refine wpPre_call (v := ?_) (f := ?_) (args := ?_) (by rfl) (by rfl) (by rfl) (fun w => ?_) (fun w hS => ?_) (fun g w hS => ?_) ?_); rotate_left; rotate_left; rotate_left; (focus (go_simp; (constructor <;> (with_reducible rfl)); done)); (focus (first | (go_at_call 49; refine (l2Number_c _ (by assumption) (by assumption) _).mono ?_; intro e w' h; refine ⟨h.1.trans ?_, h.2 ▸ hS⟩; with_reducible rfl))); (focus (first | (go_at_call 49; refine (l2Number_c _ (by assumption) (by assumption) _).mono ?_; intro e w' h; refine ⟨h.1.trans ?_, h.2 ▸ hS⟩; with_reducible rfl))); simp only [Act.put, List.setIfInBounds_toArray, List.set_cons_zero, List.set_cons_succ]))
      refine wpPre_nil ?_
      intro g1
      simp only [List.setIfInBounds_toArray, List.set_cons_zero, List.set_cons_succ]
      repeat (first
        | ((refine wpPh_pure (v := ?_) (by rfl) (by rfl) (by rfl) (fun w => ?_) ?_); rotate_left; (focus (go_simp; (try (with_reducible rfl)); done)); simp only [Act.put, List.setIfInBounds_toArray, List.set_cons_zero, List.set_cons_succ])
        | ((refine wpPh_store (by rfl) (by rfl) (by rfl) (fun wq hS => ?_) ?_); (focus ((try dsimp only at hS); obtain ⟨c0, c1, c2, c3, c4, c5, c6, hB⟩ := hS; have hst : (w.heap.size < g1 ∧ w.heap.size ≤ g1) := c6; have hne : ¬ w.heap.size = g1 ∧ ¬ g1 = w.heap.size := ⟨by omega, by omega⟩; apply Exists.intro; refine And.intro ?_ ?_; (focus (go_simp; (with_reducible rfl))); ((try dsimp only); refine ⟨?_, ?_, ?_, ?_, ?_, ?_, ?_, ?_⟩ <;> (first | (simp [go_sem]; done) | (simp [go_sem, *]; done) | (go_grown; done) | (refine ⟨?_, ?_⟩ <;> omega) | omega))))))
      refine wpPh_nil ?_
      intro w1 hS
      have hT : w1.cell? ⟨w.heap.size, 0, none⟩ = some (.int .i64 0) ∧ w1.cell? ⟨w.heap.size, 1, none⟩ = some (.int .i64 0) ∧ w1.cell? ⟨g1, 0, none⟩ = some (.int .i64 (numL A.data.toList)) ∧ w1.cell? ⟨g1, 1, none⟩ = some (.int .i64 (numL B.data.toList)) ∧ (w.heap.size < w1.heap.size ∧ ∀ i, w1.frozen? ⟨w.heap.size, i, none⟩ = false) ∧ (g1 < w1.heap.size ∧ ∀ i, w1.frozen? ⟨g1, i, none⟩ = false) ∧ (w.heap.size < g1 ∧ w.heap.size ≤ g1) ∧ Below w.heap.size w w1 := hS
      clear hS
      have hS := hT
      obtain ⟨c0, c1, c2, c3, c4, c5, c6, hB⟩ := hT
      have hzw : w.heap.size ≤ w1.heap.size := hB.size
      have hz1 : w.heap.size < w1.heap.size := World.block_lt_of_cell? w1 _ c0
      have hz2 : g1 < w1.heap.size := World.block_lt_of_cell? w1 _ c2
      go_wp2_with (first | (go_at_call 27; refine (sEnc_c _ _ _).mono ?_; rintro e w1 ⟨rfl, hb⟩; have hT : w1.cell? ⟨w.heap.size, 0, none⟩ = some (.int .i64 0) ∧ w1.cell? ⟨w.heap.size, 1, none⟩ = some (.int .i64 0) ∧ w1.cell? ⟨g1, 0, none⟩ = some (.int .i64 (uX n)) ∧ w1.cell? ⟨g1, 1, none⟩ = some (.int .i64 (uY n)) ∧ (w.heap.size < w1.heap.size ∧ ∀ i, w1.frozen? ⟨w.heap.size, i, none⟩ = false) ∧ Below w.heap.size w w1 := keep4_1 (by first | assumption | (exact hS) | (refine ⟨?_, ?_, ?_, ?_, ?_, ?_⟩ <;> (first | (simp [go_sem]; done) | (simp [go_sem, *]; done) | (go_grown; done)))) hb; (try clear hS); have hS := hT; clear hT; have hB := hS.2.2.2.2.2; have hzw := hB.size; have hz1 : w.heap.size < w1.heap.size := World.block_lt_of_cell? w1 _ (hS.1); have hz2 : g1 < w1.heap.size := World.block_lt_of_cell? w1 _ (hS.2.2.1); clear hb))
      refine bodyPost_ret (v := .tuple #[.agg #[.int .i64 0, .int .i64 0], .bool false]) (by simp [results, Try.results31, go_sem, *]) rfl ⟨ret_eq (by simp [decX, decY, decK, h1, h2]), by go_grown⟩
    by_cases h3 : enc (uX n) (uY n) = n
    · go_enter Try.func31, Try.ntmps31
      go_wp2_with (first | (go_at_call 55; refine (l1In_c _ _ _ _).mono ?_; rintro e w1 ⟨rfl, rfl⟩) | (go_at_call 56; refine (l2Of_c _ 24 (by omega) (by omega) (by omega) _).mono ?_; rintro e w1 ⟨rfl, rfl⟩))
      refine wp_region_new [] 7 (fun w' => w'.cell? ⟨w.heap.size, 0, none⟩ = some (.int .i64 0) ∧ w'.cell? ⟨w.heap.size, 1, none⟩ = some (.int .i64 0) ∧ (w.heap.size < w'.heap.size ∧ ∀ i, w'.frozen? ⟨w.heap.size, i, none⟩ = false) ∧ Below w.heap.size w w') (fun g p w' => w'.cell? ⟨w.heap.size, 0, none⟩ = some (.int .i64 0) ∧ w'.cell? ⟨w.heap.size, 1, none⟩ = some (.int .i64 0) ∧ w'.cell? ⟨g, 0, none⟩ = some (if p = 0 then .int .i64 0 else .int .i64 (numL A.data.toList)) ∧ w'.cell? ⟨g, 1, none⟩ = some (if p = 0 then .int .i64 0 else .int .i64 (numL B.data.toList)) ∧ (w.heap.size < w'.heap.size ∧ ∀ i, w'.frozen? ⟨w.heap.size, i, none⟩ = false) ∧ (g < w'.heap.size ∧ ∀ i, w'.frozen? ⟨g, i, none⟩ = false) ∧ (w.heap.size < g ∧ w.heap.size ≤ g) ∧ Below w.heap.size w w') (by kernel_rfl) (by kernel_rfl) (by kernel_rfl) (by kernel_rfl) rfl rfl rfl (by first | assumption | (exact hS) | (refine ⟨?_, ?_, ?_, ?_⟩ <;> (first | (simp [go_sem]; done) | (simp [go_sem, *]; done) | (go_grown; done)))) ?_ ?_
      focus
        intro ρ w hS
        (try dsimp only at hS)
        obtain ⟨c0, c1, c2, hB⟩ := hS
        have hzw : _ ≤ w.heap.size := hB.size
        have hzn1 := World.block_lt_of_cell? w _ c0
        simp only [] at hzn1
        apply Exists.intro
        refine And.intro ?_ ?_
        focus (go_simp; (with_reducible rfl))
        (try dsimp only)
        refine ⟨?_, ?_, ?_, ?_, ?_, ?_, ?_, ?_⟩ <;> (first | (simp [go_sem]; done) | (simp [go_sem, *]; done) | (go_grown; done) | (refine ⟨?_, ?_⟩ <;> omega) | omega)
      dsimp only [List.take, List.drop]
      repeat (first
        | ((refine wpPre_skip (by rfl) (by rfl) ?_); simp only [Act.put, List.setIfInBounds_toArray, List.set_cons_zero, List.set_cons_succ])
        | ((refine wpPre_pure (v := ?_) (by rfl) (by rfl) (fun w => ?_) ?_); rotate_left; (focus (go_simp; (try (with_reducible rfl)); done)); simp only [Act.put, List.setIfInBounds_toArray, List.set_cons_zero, List.set_cons_succ])
        | ((refine wpPre_val (v := ?_) (by rfl) (by rfl) (by rfl) (fun w hS => ?_) (fun g w hS => ?_) ?_); rotate_left; (focus ((try dsimp only at hS); go_simp; (try (with_reducible rfl)); done)); (focus ((try dsimp only at hS); go_simp; (try (with_reducible rfl)); done)); simp only [Act.put, List.setIfInBounds_toArray, List.set_cons_zero, List.set_cons_succ])
        | ((refine wpPre_call (v := ?_) (f := ?_) (args := ?_) (by rfl) (by rfl) (by rfl) (fun w => ?_) (fun w hS => ?_) (fun g w hS => ?_) ?_); rotate_left; rotate_left; rotate_left; (focus (go_simp; (constructor <;> (with_reducible rfl)); done)); (focus (first | (go_at_call 49; refine (l2Number_c _ (by assumption) (by assumption) _).mono ?_; intro e w' h; refine ⟨h.1.trans ?_, h.2 ▸ hS⟩; with_reducible rfl))); (focus (first | (go_at_call 49; refine (l2Number_c _ (by assumption) (by assumption) _).mono ?_; intro e w' h; refine ⟨h.1.trans ?_, h.2 ▸ hS⟩; with_reducible rfl))); simp only [Act.put, List.setIfInBounds_toArray, List.set_cons_zero, List.set_cons_succ]))
      refine wpPre_nil ?_
      intro g1
      simp only [List.setIfInBounds_toArray, List.set_cons_zero, List.set_cons_succ]
      repeat (first
        | ((refine wpPh_pure (v := ?_) (by rfl) (by rfl) (by rfl) (fun w => ?_) ?_); rotate_left; (focus (go_simp; (try (with_reducible rfl)); done)); simp only [Act.put, List.setIfInBounds_toArray, List.set_cons_zero, List.set_cons_succ])
        | ((refine wpPh_store (by rfl) (by rfl) (by rfl) (fun wq hS => ?_) ?_); (focus ((try dsimp only at hS); obtain ⟨c0, c1, c2, c3, c4, c5, c6, hB⟩ := hS; have hst : (w.heap.size < g1 ∧ w.heap.size ≤ g1) := c6; have hne : ¬ w.heap.size = g1 ∧ ¬ g1 = w.heap.size := ⟨by omega, by omega⟩; apply Exists.intro; refine And.intro ?_ ?_; (focus (go_simp; (with_reducible rfl))); ((try dsimp only); refine ⟨?_, ?_, ?_, ?_, ?_, ?_, ?_, ?_⟩ <;> (first | (simp [go_sem]; done) | (simp [go_sem, *]; done) | (go_grown; done) | (refine ⟨?_, ?_⟩ <;> omega) | omega))))))
      refine wpPh_nil ?_
      intro w1 hS
      have hT : w1.cell? ⟨w.heap.size, 0, none⟩ = some (.int .i64 0) ∧ w1.cell? ⟨w.heap.size, 1, none⟩ = some (.int .i64 0) ∧ w1.cell? ⟨g1, 0, none⟩ = some (.int .i64 (numL A.data.toList)) ∧ w1.cell? ⟨g1, 1, none⟩ = some (.int .i64 (numL B.data.toList)) ∧ (w.heap.size < w1.heap.size ∧ ∀ i, w1.frozen? ⟨w.heap.size, i, none⟩ = false) ∧ (g1 < w1.heap.size ∧ ∀ i, w1.frozen? ⟨g1, i, none⟩ = false) ∧ (w.heap.size < g1 ∧ w.heap.size ≤ g1) ∧ Below w.heap.size w w1 := hS
      clear hS
      have hS := hT
      obtain ⟨c0, c1, c2, c3, c4, c5, c6, hB⟩ := hT
      have hzw : w.heap.size ≤ w1.heap.size := hB.size
      have hz1 : w.heap.size < w1.heap.size := World.block_lt_of_cell? w1 _ c0
      have hz2 : g1 < w1.heap.size := World.block_lt_of_cell? w1 _ c2
      go_wp2_with (first | (go_at_call 27; refine (sEnc_c _ _ _).mono ?_; rintro e w1 ⟨rfl, hb⟩; have hT : w1.cell? ⟨w.heap.size, 0, none⟩ = some (.int .i64 0) ∧ w1.cell? ⟨w.heap.size, 1, none⟩ = some (.int .i64 0) ∧ w1.cell? ⟨g1, 0, none⟩ = some (.int .i64 (uX n)) ∧ w1.cell? ⟨g1, 1, none⟩ = some (.int .i64 (uY n)) ∧ (w.heap.size < w1.heap.size ∧ ∀ i, w1.frozen? ⟨w.heap.size, i, none⟩ = false) ∧ Below w.heap.size w w1 := keep4_1 (by first | assumption | (exact hS) | (refine ⟨?_, ?_, ?_, ?_, ?_, ?_⟩ <;> (first | (simp [go_sem]; done) | (simp [go_sem, *]; done) | (go_grown; done)))) hb; (try clear hS); have hS := hT; clear hT; have hB := hS.2.2.2.2.2; have hzw := hB.size; have hz1 : w.heap.size < w1.heap.size := World.block_lt_of_cell? w1 _ (hS.1); have hz2 : g1 < w1.heap.size := World.block_lt_of_cell? w1 _ (hS.2.2.1); clear hb))
      refine bodyPost_ret (v := .tuple #[.agg #[.int .i64 (uX n), .int .i64 (uY n)], .bool true]) (by simp [results, Try.results31, go_sem, *]) rfl ⟨ret_eq (by simp [decX, decY, decK, h1, h2, h3]), by go_grown⟩
    go_enter Try.func31, Try.ntmps31
    go_wp2_with (first | (go_at_call 55; refine (l1In_c _ _ _ _).mono ?_; rintro e w1 ⟨rfl, rfl⟩) | (go_at_call 56; refine (l2Of_c _ 24 (by omega) (by omega) (by omega) _).mono ?_; rintro e w1 ⟨rfl, rfl⟩))
    refine wp_region_new [] 7 (fun w' => w'.cell? ⟨w.heap.size, 0, none⟩ = some (.int .i64 0) ∧ w'.cell? ⟨w.heap.size, 1, none⟩ = some (.int .i64 0) ∧ (w.heap.size < w'.heap.size ∧ ∀ i, w'.frozen? ⟨w.heap.size, i, none⟩ = false) ∧ Below w.heap.size w w') (fun g p w' => w'.cell? ⟨w.heap.size, 0, none⟩ = some (.int .i64 0) ∧ w'.cell? ⟨w.heap.size, 1, none⟩ = some (.int .i64 0) ∧ w'.cell? ⟨g, 0, none⟩ = some (if p = 0 then .int .i64 0 else .int .i64 (numL A.data.toList)) ∧ w'.cell? ⟨g, 1, none⟩ = some (if p = 0 then .int .i64 0 else .int .i64 (numL B.data.toList)) ∧ (w.heap.size < w'.heap.size ∧ ∀ i, w'.frozen? ⟨w.heap.size, i, none⟩ = false) ∧ (g < w'.heap.size ∧ ∀ i, w'.frozen? ⟨g, i, none⟩ = false) ∧ (w.heap.size < g ∧ w.heap.size ≤ g) ∧ Below w.heap.size w w') (by kernel_rfl) (by kernel_rfl) (by kernel_rfl) (by kernel_rfl) rfl rfl rfl (by first | assumption | (exact hS) | (refine ⟨?_, ?_, ?_, ?_⟩ <;> (first | (simp [go_sem]; done) | (simp [go_sem, *]; done) | (go_grown; done)))) ?_ ?_
    focus
      intro ρ w hS
      (try dsimp only at hS)
      obtain ⟨c0, c1, c2, hB⟩ := hS
      have hzw : _ ≤ w.heap.size := hB.size
      have hzn1 := World.block_lt_of_cell? w _ c0
      simp only [] at hzn1
      apply Exists.intro
      refine And.intro ?_ ?_
      focus (go_simp; (with_reducible rfl))
      (try dsimp only)
      refine ⟨?_, ?_, ?_, ?_, ?_, ?_, ?_, ?_⟩ <;> (first | (simp [go_sem]; done) | (simp [go_sem, *]; done) | (go_grown; done) | (refine ⟨?_, ?_⟩ <;> omega) | omega)
    dsimp only [List.take, List.drop]
    repeat (first
      | ((refine wpPre_skip (by rfl) (by rfl) ?_); simp only [Act.put, List.setIfInBounds_toArray, List.set_cons_zero, List.set_cons_succ])
      | ((refine wpPre_pure (v := ?_) (by rfl) (by rfl) (fun w => ?_) ?_); rotate_left; (focus (go_simp; (try (with_reducible rfl)); done)); simp only [Act.put, List.setIfInBounds_toArray, List.set_cons_zero, List.set_cons_succ])
      | ((refine wpPre_val (v := ?_) (by rfl) (by rfl) (by rfl) (fun w hS => ?_) (fun g w hS => ?_) ?_); rotate_left; (focus ((try dsimp only at hS); go_simp; (try (with_reducible rfl)); done)); (focus ((try dsimp only at hS); go_simp; (try (with_reducible rfl)); done)); simp only [Act.put, List.setIfInBounds_toArray, List.set_cons_zero, List.set_cons_succ])
      | ((refine wpPre_call (v := ?_) (f := ?_) (args := ?_) (by rfl) (by rfl) (by rfl) (fun w => ?_) (fun w hS => ?_) (fun g w hS => ?_) ?_); rotate_left; rotate_left; rotate_left; (focus (go_simp; (constructor <;> (with_reducible rfl)); done)); (focus (first | (go_at_call 49; refine (l2Number_c _ (by assumption) (by assumption) _).mono ?_; intro e w' h; refine ⟨h.1.trans ?_, h.2 ▸ hS⟩; with_reducible rfl))); (focus (first | (go_at_call 49; refine (l2Number_c _ (by assumption) (by assumption) _).mono ?_; intro e w' h; refine ⟨h.1.trans ?_, h.2 ▸ hS⟩; with_reducible rfl))); simp only [Act.put, List.setIfInBounds_toArray, List.set_cons_zero, List.set_cons_succ]))
    refine wpPre_nil ?_
    intro g1
    simp only [List.setIfInBounds_toArray, List.set_cons_zero, List.set_cons_succ]
    repeat (first
      | ((refine wpPh_pure (v := ?_) (by rfl) (by rfl) (by rfl) (fun w => ?_) ?_); rotate_left; (focus (go_simp; (try (with_reducible rfl)); done)); simp only [Act.put, List.setIfInBounds_toArray, List.set_cons_zero, List.set_cons_succ])
      | ((refine wpPh_store (by rfl) (by rfl) (by rfl) (fun wq hS => ?_) ?_); (focus ((try dsimp only at hS); obtain ⟨c0, c1, c2, c3, c4, c5, c6, hB⟩ := hS; have hst : (w.heap.size < g1 ∧ w.heap.size ≤ g1) := c6; have hne : ¬ w.heap.size = g1 ∧ ¬ g1 = w.heap.size := ⟨by omega, by omega⟩; apply Exists.intro; refine And.intro ?_ ?_; (focus (go_simp; (with_reducible rfl))); ((try dsimp only); refine ⟨?_, ?_, ?_, ?_, ?_, ?_, ?_, ?_⟩ <;> (first | (simp [go_sem]; done) | (simp [go_sem, *]; done) | (go_grown; done) | (refine ⟨?_, ?_⟩ <;> omega) | omega))))))
    refine wpPh_nil ?_
    intro w1 hS
    have hT : w1.cell? ⟨w.heap.size, 0, none⟩ = some (.int .i64 0) ∧ w1.cell? ⟨w.heap.size, 1, none⟩ = some (.int .i64 0) ∧ w1.cell? ⟨g1, 0, none⟩ = some (.int .i64 (numL A.data.toList)) ∧ w1.cell? ⟨g1, 1, none⟩ = some (.int .i64 (numL B.data.toList)) ∧ (w.heap.size < w1.heap.size ∧ ∀ i, w1.frozen? ⟨w.heap.size, i, none⟩ = false) ∧ (g1 < w1.heap.size ∧ ∀ i, w1.frozen? ⟨g1, i, none⟩ = false) ∧ (w.heap.size < g1 ∧ w.heap.size ≤ g1) ∧ Below w.heap.size w w1 := hS
    clear hS
    have hS := hT
    obtain ⟨c0, c1, c2, c3, c4, c5, c6, hB⟩ := hT
    have hzw : w.heap.size ≤ w1.heap.size := hB.size
    have hz1 : w.heap.size < w1.heap.size := World.block_lt_of_cell? w1 _ c0
    have hz2 : g1 < w1.heap.size := World.block_lt_of_cell? w1 _ c2
    go_wp2_with (first | (go_at_call 27; refine (sEnc_c _ _ _).mono ?_; rintro e w1 ⟨rfl, hb⟩; have hT : w1.cell? ⟨w.heap.size, 0, none⟩ = some (.int .i64 0) ∧ w1.cell? ⟨w.heap.size, 1, none⟩ = some (.int .i64 0) ∧ w1.cell? ⟨g1, 0, none⟩ = some (.int .i64 (uX n)) ∧ w1.cell? ⟨g1, 1, none⟩ = some (.int .i64 (uY n)) ∧ (w.heap.size < w1.heap.size ∧ ∀ i, w1.frozen? ⟨w.heap.size, i, none⟩ = false) ∧ Below w.heap.size w w1 := keep4_1 (by first | assumption | (exact hS) | (refine ⟨?_, ?_, ?_, ?_, ?_, ?_⟩ <;> (first | (simp [go_sem]; done) | (simp [go_sem, *]; done) | (go_grown; done)))) hb; (try clear hS); have hS := hT; clear hT; have hB := hS.2.2.2.2.2; have hzw := hB.size; have hz1 : w.heap.size < w1.heap.size := World.block_lt_of_cell? w1 _ (hS.1); have hz2 : g1 < w1.heap.size := World.block_lt_of_cell? w1 _ (hS.2.2.1); clear hb))
    refine bodyPost_ret (v := .tuple #[.agg #[.int .i64 0, .int .i64 0], .bool false]) (by simp [results, Try.results31, go_sem, *]) rfl ⟨ret_eq (by simp [decX, decY, decK, h1, h2, h3]), by go_grown⟩
  obtain ⟨v0, v1⟩ := us_bd (m := n / 8192) (by omega) (by omega)
  obtain ⟨v2, v3⟩ := us_bd (m := n / 4 % 2048) (by omega) (by omega)
  change -1023 ≤ uX n at v0
  change uX n ≤ 1023 at v1
  change -1023 ≤ uY n at v2
  change uY n ≤ 1023 at v3
  have v4 : IntKind.i64.wrap (uX n) = uX n := IntWalk.i64_in _ (by omega)
  have v5 : IntKind.i64.wrap (uY n) = uY n := IntWalk.i64_in _ (by omega)
  have u1 : numL A.data.toList = uX n := by have := HA.out; rw [pu, if_neg sx]; omega
  have u2 : numL B.data.toList = uY n := by have := HB.out; rw [pv, if_neg sy]; omega
  have d0 : ((s[0]).toNat : Int) = 48 := by rw [T0, (show bit _ = 48 from by unfold bit; rw [if_pos (by omega)])]; rfl
  have d1 : ((s[11]).toNat : Int) = 48 := by rw [T1, (show bit _ = 48 from by unfold bit; rw [if_pos (by omega)])]; rfl
  clear pu pv T0 T1 sx sy
  rcases h2 : vV (uX n) (uY n) with _ | _
  · go_enter Try.func31, Try.ntmps31
    go_wp2_with (first | (go_at_call 55; refine (l1In_c _ _ _ _).mono ?_; rintro e w1 ⟨rfl, rfl⟩) | (go_at_call 56; refine (l2Of_c _ 24 (by omega) (by omega) (by omega) _).mono ?_; rintro e w1 ⟨rfl, rfl⟩))
    refine wp_region_new [] 7 (fun w' => w'.cell? ⟨w.heap.size, 0, none⟩ = some (.int .i64 0) ∧ w'.cell? ⟨w.heap.size, 1, none⟩ = some (.int .i64 0) ∧ (w.heap.size < w'.heap.size ∧ ∀ i, w'.frozen? ⟨w.heap.size, i, none⟩ = false) ∧ Below w.heap.size w w') (fun g p w' => w'.cell? ⟨w.heap.size, 0, none⟩ = some (.int .i64 0) ∧ w'.cell? ⟨w.heap.size, 1, none⟩ = some (.int .i64 0) ∧ w'.cell? ⟨g, 0, none⟩ = some (if p = 0 then .int .i64 0 else .int .i64 (numL A.data.toList)) ∧ w'.cell? ⟨g, 1, none⟩ = some (if p = 0 then .int .i64 0 else .int .i64 (numL B.data.toList)) ∧ (w.heap.size < w'.heap.size ∧ ∀ i, w'.frozen? ⟨w.heap.size, i, none⟩ = false) ∧ (g < w'.heap.size ∧ ∀ i, w'.frozen? ⟨g, i, none⟩ = false) ∧ (w.heap.size < g ∧ w.heap.size ≤ g) ∧ Below w.heap.size w w') (by kernel_rfl) (by kernel_rfl) (by kernel_rfl) (by kernel_rfl) rfl rfl rfl (by first | assumption | (exact hS) | (refine ⟨?_, ?_, ?_, ?_⟩ <;> (first | (simp [go_sem]; done) | (simp [go_sem, *]; done) | (go_grown; done)))) ?_ ?_
    focus
      intro ρ w hS
      (try dsimp only at hS)
      obtain ⟨c0, c1, c2, hB⟩ := hS
      have hzw : _ ≤ w.heap.size := hB.size
      have hzn1 := World.block_lt_of_cell? w _ c0
      simp only [] at hzn1
      apply Exists.intro
      refine And.intro ?_ ?_
      focus (go_simp; (with_reducible rfl))
      (try dsimp only)
      refine ⟨?_, ?_, ?_, ?_, ?_, ?_, ?_, ?_⟩ <;> (first | (simp [go_sem]; done) | (simp [go_sem, *]; done) | (go_grown; done) | (refine ⟨?_, ?_⟩ <;> omega) | omega)
    dsimp only [List.take, List.drop]
    repeat (first
      | ((refine wpPre_skip (by rfl) (by rfl) ?_); simp only [Act.put, List.setIfInBounds_toArray, List.set_cons_zero, List.set_cons_succ])
      | ((refine wpPre_pure (v := ?_) (by rfl) (by rfl) (fun w => ?_) ?_); rotate_left; (focus (go_simp; (try (with_reducible rfl)); done)); simp only [Act.put, List.setIfInBounds_toArray, List.set_cons_zero, List.set_cons_succ])
      | ((refine wpPre_val (v := ?_) (by rfl) (by rfl) (by rfl) (fun w hS => ?_) (fun g w hS => ?_) ?_); rotate_left; (focus ((try dsimp only at hS); go_simp; (try (with_reducible rfl)); done)); (focus ((try dsimp only at hS); go_simp; (try (with_reducible rfl)); done)); simp only [Act.put, List.setIfInBounds_toArray, List.set_cons_zero, List.set_cons_succ])
      | ((refine wpPre_call (v := ?_) (f := ?_) (args := ?_) (by rfl) (by rfl) (by rfl) (fun w => ?_) (fun w hS => ?_) (fun g w hS => ?_) ?_); rotate_left; rotate_left; rotate_left; (focus (go_simp; (constructor <;> (with_reducible rfl)); done)); (focus (first | (go_at_call 49; refine (l2Number_c _ (by assumption) (by assumption) _).mono ?_; intro e w' h; refine ⟨h.1.trans ?_, h.2 ▸ hS⟩; with_reducible rfl))); (focus (first | (go_at_call 49; refine (l2Number_c _ (by assumption) (by assumption) _).mono ?_; intro e w' h; refine ⟨h.1.trans ?_, h.2 ▸ hS⟩; with_reducible rfl))); simp only [Act.put, List.setIfInBounds_toArray, List.set_cons_zero, List.set_cons_succ]))
    refine wpPre_nil ?_
    intro g1
    simp only [List.setIfInBounds_toArray, List.set_cons_zero, List.set_cons_succ]
    repeat (first
      | ((refine wpPh_pure (v := ?_) (by rfl) (by rfl) (by rfl) (fun w => ?_) ?_); rotate_left; (focus (go_simp; (try (with_reducible rfl)); done)); simp only [Act.put, List.setIfInBounds_toArray, List.set_cons_zero, List.set_cons_succ])
      | ((refine wpPh_store (by rfl) (by rfl) (by rfl) (fun wq hS => ?_) ?_); (focus ((try dsimp only at hS); obtain ⟨c0, c1, c2, c3, c4, c5, c6, hB⟩ := hS; have hst : (w.heap.size < g1 ∧ w.heap.size ≤ g1) := c6; have hne : ¬ w.heap.size = g1 ∧ ¬ g1 = w.heap.size := ⟨by omega, by omega⟩; apply Exists.intro; refine And.intro ?_ ?_; (focus (go_simp; (with_reducible rfl))); ((try dsimp only); refine ⟨?_, ?_, ?_, ?_, ?_, ?_, ?_, ?_⟩ <;> (first | (simp [go_sem]; done) | (simp [go_sem, *]; done) | (go_grown; done) | (refine ⟨?_, ?_⟩ <;> omega) | omega))))))
    refine wpPh_nil ?_
    intro w1 hS
    have hT : w1.cell? ⟨w.heap.size, 0, none⟩ = some (.int .i64 0) ∧ w1.cell? ⟨w.heap.size, 1, none⟩ = some (.int .i64 0) ∧ w1.cell? ⟨g1, 0, none⟩ = some (.int .i64 (numL A.data.toList)) ∧ w1.cell? ⟨g1, 1, none⟩ = some (.int .i64 (numL B.data.toList)) ∧ (w.heap.size < w1.heap.size ∧ ∀ i, w1.frozen? ⟨w.heap.size, i, none⟩ = false) ∧ (g1 < w1.heap.size ∧ ∀ i, w1.frozen? ⟨g1, i, none⟩ = false) ∧ (w.heap.size < g1 ∧ w.heap.size ≤ g1) ∧ Below w.heap.size w w1 := hS
    clear hS
    have hS := hT
    obtain ⟨c0, c1, c2, c3, c4, c5, c6, hB⟩ := hT
    have hzw : w.heap.size ≤ w1.heap.size := hB.size
    have hz1 : w.heap.size < w1.heap.size := World.block_lt_of_cell? w1 _ c0
    have hz2 : g1 < w1.heap.size := World.block_lt_of_cell? w1 _ c2
    go_wp2_with (first | (go_at_call 27; refine (sEnc_c _ _ _).mono ?_; rintro e w1 ⟨rfl, hb⟩; have hT : w1.cell? ⟨w.heap.size, 0, none⟩ = some (.int .i64 0) ∧ w1.cell? ⟨w.heap.size, 1, none⟩ = some (.int .i64 0) ∧ w1.cell? ⟨g1, 0, none⟩ = some (.int .i64 (uX n)) ∧ w1.cell? ⟨g1, 1, none⟩ = some (.int .i64 (uY n)) ∧ (w.heap.size < w1.heap.size ∧ ∀ i, w1.frozen? ⟨w.heap.size, i, none⟩ = false) ∧ Below w.heap.size w w1 := keep4_1 (by first | assumption | (exact hS) | (refine ⟨?_, ?_, ?_, ?_, ?_, ?_⟩ <;> (first | (simp [go_sem]; done) | (simp [go_sem, *]; done) | (go_grown; done)))) hb; (try clear hS); have hS := hT; clear hT; have hB := hS.2.2.2.2.2; have hzw := hB.size; have hz1 : w.heap.size < w1.heap.size := World.block_lt_of_cell? w1 _ (hS.1); have hz2 : g1 < w1.heap.size := World.block_lt_of_cell? w1 _ (hS.2.2.1); clear hb))
    refine bodyPost_ret (v := .tuple #[.agg #[.int .i64 0, .int .i64 0], .bool false]) (by simp [results, Try.results31, go_sem, *]) rfl ⟨ret_eq (by simp [decX, decY, decK, h1, h2]), by go_grown⟩
  by_cases h3 : enc (uX n) (uY n) = n
  · go_enter Try.func31, Try.ntmps31
    go_wp2_with (first | (go_at_call 55; refine (l1In_c _ _ _ _).mono ?_; rintro e w1 ⟨rfl, rfl⟩) | (go_at_call 56; refine (l2Of_c _ 24 (by omega) (by omega) (by omega) _).mono ?_; rintro e w1 ⟨rfl, rfl⟩))
    refine wp_region_new [] 7 (fun w' => w'.cell? ⟨w.heap.size, 0, none⟩ = some (.int .i64 0) ∧ w'.cell? ⟨w.heap.size, 1, none⟩ = some (.int .i64 0) ∧ (w.heap.size < w'.heap.size ∧ ∀ i, w'.frozen? ⟨w.heap.size, i, none⟩ = false) ∧ Below w.heap.size w w') (fun g p w' => w'.cell? ⟨w.heap.size, 0, none⟩ = some (.int .i64 0) ∧ w'.cell? ⟨w.heap.size, 1, none⟩ = some (.int .i64 0) ∧ w'.cell? ⟨g, 0, none⟩ = some (if p = 0 then .int .i64 0 else .int .i64 (numL A.data.toList)) ∧ w'.cell? ⟨g, 1, none⟩ = some (if p = 0 then .int .i64 0 else .int .i64 (numL B.data.toList)) ∧ (w.heap.size < w'.heap.size ∧ ∀ i, w'.frozen? ⟨w.heap.size, i, none⟩ = false) ∧ (g < w'.heap.size ∧ ∀ i, w'.frozen? ⟨g, i, none⟩ = false) ∧ (w.heap.size < g ∧ w.heap.size ≤ g) ∧ Below w.heap.size w w') (by kernel_rfl) (by kernel_rfl) (by kernel_rfl) (by kernel_rfl) rfl rfl rfl (by first | assumption | (exact hS) | (refine ⟨?_, ?_, ?_, ?_⟩ <;> (first | (simp [go_sem]; done) | (simp [go_sem, *]; done) | (go_grown; done)))) ?_ ?_
    focus
      intro ρ w hS
      (try dsimp only at hS)
      obtain ⟨c0, c1, c2, hB⟩ := hS
      have hzw : _ ≤ w.heap.size := hB.size
      have hzn1 := World.block_lt_of_cell? w _ c0
      simp only [] at hzn1
      apply Exists.intro
      refine And.intro ?_ ?_
      focus (go_simp; (with_reducible rfl))
      (try dsimp only)
      refine ⟨?_, ?_, ?_, ?_, ?_, ?_, ?_, ?_⟩ <;> (first | (simp [go_sem]; done) | (simp [go_sem, *]; done) | (go_grown; done) | (refine ⟨?_, ?_⟩ <;> omega) | omega)
    dsimp only [List.take, List.drop]
    repeat (first
      | ((refine wpPre_skip (by rfl) (by rfl) ?_); simp only [Act.put, List.setIfInBounds_toArray, List.set_cons_zero, List.set_cons_succ])
      | ((refine wpPre_pure (v := ?_) (by rfl) (by rfl) (fun w => ?_) ?_); rotate_left; (focus (go_simp; (try (with_reducible rfl)); done)); simp only [Act.put, List.setIfInBounds_toArray, List.set_cons_zero, List.set_cons_succ])
      | ((refine wpPre_val (v := ?_) (by rfl) (by rfl) (by rfl) (fun w hS => ?_) (fun g w hS => ?_) ?_); rotate_left; (focus ((try dsimp only at hS); go_simp; (try (with_reducible rfl)); done)); (focus ((try dsimp only at hS); go_simp; (try (with_reducible rfl)); done)); simp only [Act.put, List.setIfInBounds_toArray, List.set_cons_zero, List.set_cons_succ])
      | ((refine wpPre_call (v := ?_) (f := ?_) (args := ?_) (by rfl) (by rfl) (by rfl) (fun w => ?_) (fun w hS => ?_) (fun g w hS => ?_) ?_); rotate_left; rotate_left; rotate_left; (focus (go_simp; (constructor <;> (with_reducible rfl)); done)); (focus (first | (go_at_call 49; refine (l2Number_c _ (by assumption) (by assumption) _).mono ?_; intro e w' h; refine ⟨h.1.trans ?_, h.2 ▸ hS⟩; with_reducible rfl))); (focus (first | (go_at_call 49; refine (l2Number_c _ (by assumption) (by assumption) _).mono ?_; intro e w' h; refine ⟨h.1.trans ?_, h.2 ▸ hS⟩; with_reducible rfl))); simp only [Act.put, List.setIfInBounds_toArray, List.set_cons_zero, List.set_cons_succ]))
    refine wpPre_nil ?_
    intro g1
    simp only [List.setIfInBounds_toArray, List.set_cons_zero, List.set_cons_succ]
    repeat (first
      | ((refine wpPh_pure (v := ?_) (by rfl) (by rfl) (by rfl) (fun w => ?_) ?_); rotate_left; (focus (go_simp; (try (with_reducible rfl)); done)); simp only [Act.put, List.setIfInBounds_toArray, List.set_cons_zero, List.set_cons_succ])
      | ((refine wpPh_store (by rfl) (by rfl) (by rfl) (fun wq hS => ?_) ?_); (focus ((try dsimp only at hS); obtain ⟨c0, c1, c2, c3, c4, c5, c6, hB⟩ := hS; have hst : (w.heap.size < g1 ∧ w.heap.size ≤ g1) := c6; have hne : ¬ w.heap.size = g1 ∧ ¬ g1 = w.heap.size := ⟨by omega, by omega⟩; apply Exists.intro; refine And.intro ?_ ?_; (focus (go_simp; (with_reducible rfl))); ((try dsimp only); refine ⟨?_, ?_, ?_, ?_, ?_, ?_, ?_, ?_⟩ <;> (first | (simp [go_sem]; done) | (simp [go_sem, *]; done) | (go_grown; done) | (refine ⟨?_, ?_⟩ <;> omega) | omega))))))
    refine wpPh_nil ?_
    intro w1 hS
    have hT : w1.cell? ⟨w.heap.size, 0, none⟩ = some (.int .i64 0) ∧ w1.cell? ⟨w.heap.size, 1, none⟩ = some (.int .i64 0) ∧ w1.cell? ⟨g1, 0, none⟩ = some (.int .i64 (numL A.data.toList)) ∧ w1.cell? ⟨g1, 1, none⟩ = some (.int .i64 (numL B.data.toList)) ∧ (w.heap.size < w1.heap.size ∧ ∀ i, w1.frozen? ⟨w.heap.size, i, none⟩ = false) ∧ (g1 < w1.heap.size ∧ ∀ i, w1.frozen? ⟨g1, i, none⟩ = false) ∧ (w.heap.size < g1 ∧ w.heap.size ≤ g1) ∧ Below w.heap.size w w1 := hS
    clear hS
    have hS := hT
    obtain ⟨c0, c1, c2, c3, c4, c5, c6, hB⟩ := hT
    have hzw : w.heap.size ≤ w1.heap.size := hB.size
    have hz1 : w.heap.size < w1.heap.size := World.block_lt_of_cell? w1 _ c0
    have hz2 : g1 < w1.heap.size := World.block_lt_of_cell? w1 _ c2
    go_wp2_with (first | (go_at_call 27; refine (sEnc_c _ _ _).mono ?_; rintro e w1 ⟨rfl, hb⟩; have hT : w1.cell? ⟨w.heap.size, 0, none⟩ = some (.int .i64 0) ∧ w1.cell? ⟨w.heap.size, 1, none⟩ = some (.int .i64 0) ∧ w1.cell? ⟨g1, 0, none⟩ = some (.int .i64 (uX n)) ∧ w1.cell? ⟨g1, 1, none⟩ = some (.int .i64 (uY n)) ∧ (w.heap.size < w1.heap.size ∧ ∀ i, w1.frozen? ⟨w.heap.size, i, none⟩ = false) ∧ Below w.heap.size w w1 := keep4_1 (by first | assumption | (exact hS) | (refine ⟨?_, ?_, ?_, ?_, ?_, ?_⟩ <;> (first | (simp [go_sem]; done) | (simp [go_sem, *]; done) | (go_grown; done)))) hb; (try clear hS); have hS := hT; clear hT; have hB := hS.2.2.2.2.2; have hzw := hB.size; have hz1 : w.heap.size < w1.heap.size := World.block_lt_of_cell? w1 _ (hS.1); have hz2 : g1 < w1.heap.size := World.block_lt_of_cell? w1 _ (hS.2.2.1); clear hb))
    refine bodyPost_ret (v := .tuple #[.agg #[.int .i64 (uX n), .int .i64 (uY n)], .bool true]) (by simp [results, Try.results31, go_sem, *]) rfl ⟨ret_eq (by simp [decX, decY, decK, h1, h2, h3]), by go_grown⟩
  go_enter Try.func31, Try.ntmps31
  go_wp2_with (first | (go_at_call 55; refine (l1In_c _ _ _ _).mono ?_; rintro e w1 ⟨rfl, rfl⟩) | (go_at_call 56; refine (l2Of_c _ 24 (by omega) (by omega) (by omega) _).mono ?_; rintro e w1 ⟨rfl, rfl⟩))
  refine wp_region_new [] 7 (fun w' => w'.cell? ⟨w.heap.size, 0, none⟩ = some (.int .i64 0) ∧ w'.cell? ⟨w.heap.size, 1, none⟩ = some (.int .i64 0) ∧ (w.heap.size < w'.heap.size ∧ ∀ i, w'.frozen? ⟨w.heap.size, i, none⟩ = false) ∧ Below w.heap.size w w') (fun g p w' => w'.cell? ⟨w.heap.size, 0, none⟩ = some (.int .i64 0) ∧ w'.cell? ⟨w.heap.size, 1, none⟩ = some (.int .i64 0) ∧ w'.cell? ⟨g, 0, none⟩ = some (if p = 0 then .int .i64 0 else .int .i64 (numL A.data.toList)) ∧ w'.cell? ⟨g, 1, none⟩ = some (if p = 0 then .int .i64 0 else .int .i64 (numL B.data.toList)) ∧ (w.heap.size < w'.heap.size ∧ ∀ i, w'.frozen? ⟨w.heap.size, i, none⟩ = false) ∧ (g < w'.heap.size ∧ ∀ i, w'.frozen? ⟨g, i, none⟩ = false) ∧ (w.heap.size < g ∧ w.heap.size ≤ g) ∧ Below w.heap.size w w') (by kernel_rfl) (by kernel_rfl) (by kernel_rfl) (by kernel_rfl) rfl rfl rfl (by first | assumption | (exact hS) | (refine ⟨?_, ?_, ?_, ?_⟩ <;> (first | (simp [go_sem]; done) | (simp [go_sem, *]; done) | (go_grown; done)))) ?_ ?_
  focus
    intro ρ w hS
    (try dsimp only at hS)
    obtain ⟨c0, c1, c2, hB⟩ := hS
    have hzw : _ ≤ w.heap.size := hB.size
    have hzn1 := World.block_lt_of_cell? w _ c0
    simp only [] at hzn1
    apply Exists.intro
    refine And.intro ?_ ?_
    focus (go_simp; (with_reducible rfl))
    (try dsimp only)
    refine ⟨?_, ?_, ?_, ?_, ?_, ?_, ?_, ?_⟩ <;> (first | (simp [go_sem]; done) | (simp [go_sem, *]; done) | (go_grown; done) | (refine ⟨?_, ?_⟩ <;> omega) | omega)
  dsimp only [List.take, List.drop]
  repeat (first
    | ((refine wpPre_skip (by rfl) (by rfl) ?_); simp only [Act.put, List.setIfInBounds_toArray, List.set_cons_zero, List.set_cons_succ])
    | ((refine wpPre_pure (v := ?_) (by rfl) (by rfl) (fun w => ?_) ?_); rotate_left; (focus (go_simp; (try (with_reducible rfl)); done)); simp only [Act.put, List.setIfInBounds_toArray, List.set_cons_zero, List.set_cons_succ])
    | ((refine wpPre_val (v := ?_) (by rfl) (by rfl) (by rfl) (fun w hS => ?_) (fun g w hS => ?_) ?_); rotate_left; (focus ((try dsimp only at hS); go_simp; (try (with_reducible rfl)); done)); (focus ((try dsimp only at hS); go_simp; (try (with_reducible rfl)); done)); simp only [Act.put, List.setIfInBounds_toArray, List.set_cons_zero, List.set_cons_succ])
    | ((refine wpPre_call (v := ?_) (f := ?_) (args := ?_) (by rfl) (by rfl) (by rfl) (fun w => ?_) (fun w hS => ?_) (fun g w hS => ?_) ?_); rotate_left; rotate_left; rotate_left; (focus (go_simp; (constructor <;> (with_reducible rfl)); done)); (focus (first | (go_at_call 49; refine (l2Number_c _ (by assumption) (by assumption) _).mono ?_; intro e w' h; refine ⟨h.1.trans ?_, h.2 ▸ hS⟩; with_reducible rfl))); (focus (first | (go_at_call 49; refine (l2Number_c _ (by assumption) (by assumption) _).mono ?_; intro e w' h; refine ⟨h.1.trans ?_, h.2 ▸ hS⟩; with_reducible rfl))); simp only [Act.put, List.setIfInBounds_toArray, List.set_cons_zero, List.set_cons_succ]))
  refine wpPre_nil ?_
  intro g1
  simp only [List.setIfInBounds_toArray, List.set_cons_zero, List.set_cons_succ]
  repeat (first
    | ((refine wpPh_pure (v := ?_) (by rfl) (by rfl) (by rfl) (fun w => ?_) ?_); rotate_left; (focus (go_simp; (try (with_reducible rfl)); done)); simp only [Act.put, List.setIfInBounds_toArray, List.set_cons_zero, List.set_cons_succ])
    | ((refine wpPh_store (by rfl) (by rfl) (by rfl) (fun wq hS => ?_) ?_); (focus ((try dsimp only at hS); obtain ⟨c0, c1, c2, c3, c4, c5, c6, hB⟩ := hS; have hst : (w.heap.size < g1 ∧ w.heap.size ≤ g1) := c6; have hne : ¬ w.heap.size = g1 ∧ ¬ g1 = w.heap.size := ⟨by omega, by omega⟩; apply Exists.intro; refine And.intro ?_ ?_; (focus (go_simp; (with_reducible rfl))); ((try dsimp only); refine ⟨?_, ?_, ?_, ?_, ?_, ?_, ?_, ?_⟩ <;> (first | (simp [go_sem]; done) | (simp [go_sem, *]; done) | (go_grown; done) | (refine ⟨?_, ?_⟩ <;> omega) | omega))))))
  refine wpPh_nil ?_
  intro w1 hS
  have hT : w1.cell? ⟨w.heap.size, 0, none⟩ = some (.int .i64 0) ∧ w1.cell? ⟨w.heap.size, 1, none⟩ = some (.int .i64 0) ∧ w1.cell? ⟨g1, 0, none⟩ = some (.int .i64 (numL A.data.toList)) ∧ w1.cell? ⟨g1, 1, none⟩ = some (.int .i64 (numL B.data.toList)) ∧ (w.heap.size < w1.heap.size ∧ ∀ i, w1.frozen? ⟨w.heap.size, i, none⟩ = false) ∧ (g1 < w1.heap.size ∧ ∀ i, w1.frozen? ⟨g1, i, none⟩ = false) ∧ (w.heap.size < g1 ∧ w.heap.size ≤ g1) ∧ Below w.heap.size w w1 := hS
  clear hS
  have hS := hT
  obtain ⟨c0, c1, c2, c3, c4, c5, c6, hB⟩ := hT
  have hzw : w.heap.size ≤ w1.heap.size := hB.size
  have hz1 : w.heap.size < w1.heap.size := World.block_lt_of_cell? w1 _ c0
  have hz2 : g1 < w1.heap.size := World.block_lt_of_cell? w1 _ c2
  go_wp2_with (first | (go_at_call 27; refine (sEnc_c _ _ _).mono ?_; rintro e w1 ⟨rfl, hb⟩; have hT : w1.cell? ⟨w.heap.size, 0, none⟩ = some (.int .i64 0) ∧ w1.cell? ⟨w.heap.size, 1, none⟩ = some (.int .i64 0) ∧ w1.cell? ⟨g1, 0, none⟩ = some (.int .i64 (uX n)) ∧ w1.cell? ⟨g1, 1, none⟩ = some (.int .i64 (uY n)) ∧ (w.heap.size < w1.heap.size ∧ ∀ i, w1.frozen? ⟨w.heap.size, i, none⟩ = false) ∧ Below w.heap.size w w1 := keep4_1 (by first | assumption | (exact hS) | (refine ⟨?_, ?_, ?_, ?_, ?_, ?_⟩ <;> (first | (simp [go_sem]; done) | (simp [go_sem, *]; done) | (go_grown; done)))) hb; (try clear hS); have hS := hT; clear hT; have hB := hS.2.2.2.2.2; have hzw := hB.size; have hz1 : w.heap.size < w1.heap.size := World.block_lt_of_cell? w1 _ (hS.1); have hz2 : g1 < w1.heap.size := World.block_lt_of_cell? w1 _ (hS.2.2.1); clear hb))
  refine bodyPost_ret (v := .tuple #[.agg #[.int .i64 0, .int .i64 0], .bool false]) (by simp [results, Try.results31, go_sem, *]) rfl ⟨ret_eq (by simp [decX, decY, decK, h1, h2, h3]), by go_grown⟩
end Go.Proofs.Ytpcabjjmphcpeaa
