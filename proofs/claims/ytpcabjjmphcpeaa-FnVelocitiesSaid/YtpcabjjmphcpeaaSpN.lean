/- Contracts: the text of a velocity by the reference. -/
import Derived.Test.YtpcabjjmphcpeaaSpM
import Derived.Test.YtpcabjjmphcpeaaRegion
namespace Go.Proofs.Ytpcabjjmphcpeaa
open Go.RowKit

theorem size32 (c : UInt8) : (ByteArray.mk #[c]).size = 1 := rfl
theorem size0 : (ByteArray.mk #[]).size = 0 := rfl

set_option maxHeartbeats 1600000 in
theorem l8Text_c (x y : Int) (h1 : vV x y = true) (w : World) : Calls Try.prog 58 #[.agg #[.int .i64 x, .int .i64 y]] w (Gives w (.string (vtext x y))) := by
  obtain ⟨⟨ka0, ka1⟩, kb0, kb1⟩ := vV_iff.1 h1
  by_cases hy : y = 0
  · subst hy
    by_cases hx : x = 0
    · subst hx
      have e1 : vp 0 78 83 = ⟨#[]⟩ := rfl
      have e2 : vp 0 69 87 = ⟨#[]⟩ := rfl
      have HS := hide (show vtext 0 0 = ⟨#[48]⟩ from rfl)
      go_enter Try.func58, Try.ntmps58
      go_wp2
      refine wp_region_det (fun w' => w'.cell? ⟨w.heap.size, 0, none⟩ = some (.int .i64 0) ∧ w'.cell? ⟨w.heap.size, 1, none⟩ = some (.int .i64 0) ∧ Below w.heap.size w w') (by kernel_rfl) (by kernel_rfl) (by first | assumption | (exact hS) | (refine ⟨?_, ?_, ?_⟩ <;> (first | (simp [go_sem]; done) | (simp [go_sem, *]; done) | (go_grown; done)))) ?_
      repeat (first
        | ((refine wpDet_skip (by rfl) ?_); simp only [Act.put, List.setIfInBounds_toArray, List.set_cons_zero, List.set_cons_succ])
        | ((refine wpDet_val (v := ?_) (by rfl) (fun w hS => ?_) ?_); rotate_left; (focus ((try dsimp only at hS); go_simp; (try (with_reducible rfl)); done)); simp only [Act.put, List.setIfInBounds_toArray, List.set_cons_zero, List.set_cons_succ])
        | ((refine wpDet_call (v := ?_) (f := ?_) (args := ?_) (by rfl) (fun w => ?_) (fun w hS => ?_) ?_); rotate_left; rotate_left; rotate_left; (focus (go_simp; (constructor <;> (with_reducible rfl)); done)); (focus (first | (go_at_call 71; refine (part_c _ _ _ (by omega) (by omega) _).mono ?_; intro e w' h; refine ⟨h.1.trans ?_, keep2 hS h.2⟩; with_reducible rfl))); simp only [Act.put, List.setIfInBounds_toArray, List.set_cons_zero, List.set_cons_succ]))
      refine wpDet_nil ?_
      intro w1 hS
      have hT : w1.cell? ⟨w.heap.size, 0, none⟩ = some (.int .i64 0) ∧ w1.cell? ⟨w.heap.size, 1, none⟩ = some (.int .i64 0) ∧ Below w.heap.size w w1 := hS
      clear hS
      have hS := hT
      obtain ⟨c0, c1, hB⟩ := hT
      go_wp2
      go_returns
      exact ⟨ret_eq (by rw [HS.out]; simp), by go_grown⟩
    have e1 : vp 0 78 83 = ⟨#[]⟩ := rfl
    obtain ⟨E, hE⟩ : ∃ E, vp x 69 87 = E := ⟨_, rfl⟩
    obtain ⟨m0, m1⟩ := hE ▸ vp_size (x := x) 69 87 hx ka0 ka1
    have m2 : ¬ E.toList = [] := toList_ne (by omega)
    have m3 : E.toList.isEmpty = false := by simpa using m2
    have HS := hide (show vtext x 0 = E from by unfold vtext; rw [if_pos rfl, if_neg hx, hE])
    have hadd1 : ∀ W : World, (Op.stringOp .add (⟨#[]⟩) (E)).run Try.prog W = .ok (.string (E)) W := fun W => by rw [run_string_add_sum W _ _ (by simp only [ByteArray.size_append, size32, size0]; omega), empty_app]
    go_enter Try.func58, Try.ntmps58
    go_wp2
    refine wp_region_det (fun w' => w'.cell? ⟨w.heap.size, 0, none⟩ = some (.int .i64 x) ∧ w'.cell? ⟨w.heap.size, 1, none⟩ = some (.int .i64 0) ∧ Below w.heap.size w w') (by kernel_rfl) (by kernel_rfl) (by first | assumption | (exact hS) | (refine ⟨?_, ?_, ?_⟩ <;> (first | (simp [go_sem]; done) | (simp [go_sem, *]; done) | (go_grown; done)))) ?_
    repeat (first
      | ((refine wpDet_skip (by rfl) ?_); simp only [Act.put, List.setIfInBounds_toArray, List.set_cons_zero, List.set_cons_succ])
      | ((refine wpDet_val (v := ?_) (by rfl) (fun w hS => ?_) ?_); rotate_left; (focus ((try dsimp only at hS); go_simp; (try (with_reducible rfl)); done)); simp only [Act.put, List.setIfInBounds_toArray, List.set_cons_zero, List.set_cons_succ])
      | ((refine wpDet_call (v := ?_) (f := ?_) (args := ?_) (by rfl) (fun w => ?_) (fun w hS => ?_) ?_); rotate_left; rotate_left; rotate_left; (focus (go_simp; (constructor <;> (with_reducible rfl)); done)); (focus (first | (go_at_call 71; refine (part_c _ _ _ (by omega) (by omega) _).mono ?_; intro e w' h; refine ⟨h.1.trans ?_, keep2 hS h.2⟩; with_reducible rfl))); simp only [Act.put, List.setIfInBounds_toArray, List.set_cons_zero, List.set_cons_succ]))
    refine wpDet_nil ?_
    intro w1 hS
    have hT : w1.cell? ⟨w.heap.size, 0, none⟩ = some (.int .i64 x) ∧ w1.cell? ⟨w.heap.size, 1, none⟩ = some (.int .i64 0) ∧ Below w.heap.size w w1 := hS
    clear hS
    have hS := hT
    obtain ⟨c0, c1, hB⟩ := hT
    go_wp2
    go_returns
    exact ⟨ret_eq (by rw [HS.out]; simp), by go_grown⟩
  by_cases hx : x = 0
  · subst hx
    have e2 : vp 0 69 87 = ⟨#[]⟩ := rfl
    obtain ⟨N, hN⟩ : ∃ N, vp y 78 83 = N := ⟨_, rfl⟩
    obtain ⟨n0, n1⟩ := hN ▸ vp_size (x := y) 78 83 hy kb0 kb1
    have n2 : ¬ N.toList = [] := toList_ne (by omega)
    have n3 : N.toList.isEmpty = false := by simpa using n2
    have HS := hide (show vtext 0 y = N from by unfold vtext; rw [if_neg hy, if_pos rfl, hN])
    have hadd1 : ∀ W : World, (Op.stringOp .add (N) (⟨#[]⟩)).run Try.prog W = .ok (.string (N)) W := fun W => by rw [run_string_add_sum W _ _ (by simp only [ByteArray.size_append, size32, size0]; omega), app_empty]
    go_enter Try.func58, Try.ntmps58
    go_wp2
    refine wp_region_det (fun w' => w'.cell? ⟨w.heap.size, 0, none⟩ = some (.int .i64 0) ∧ w'.cell? ⟨w.heap.size, 1, none⟩ = some (.int .i64 y) ∧ Below w.heap.size w w') (by kernel_rfl) (by kernel_rfl) (by first | assumption | (exact hS) | (refine ⟨?_, ?_, ?_⟩ <;> (first | (simp [go_sem]; done) | (simp [go_sem, *]; done) | (go_grown; done)))) ?_
    repeat (first
      | ((refine wpDet_skip (by rfl) ?_); simp only [Act.put, List.setIfInBounds_toArray, List.set_cons_zero, List.set_cons_succ])
      | ((refine wpDet_val (v := ?_) (by rfl) (fun w hS => ?_) ?_); rotate_left; (focus ((try dsimp only at hS); go_simp; (try (with_reducible rfl)); done)); simp only [Act.put, List.setIfInBounds_toArray, List.set_cons_zero, List.set_cons_succ])
      | ((refine wpDet_call (v := ?_) (f := ?_) (args := ?_) (by rfl) (fun w => ?_) (fun w hS => ?_) ?_); rotate_left; rotate_left; rotate_left; (focus (go_simp; (constructor <;> (with_reducible rfl)); done)); (focus (first | (go_at_call 71; refine (part_c _ _ _ (by omega) (by omega) _).mono ?_; intro e w' h; refine ⟨h.1.trans ?_, keep2 hS h.2⟩; with_reducible rfl))); simp only [Act.put, List.setIfInBounds_toArray, List.set_cons_zero, List.set_cons_succ]))
    refine wpDet_nil ?_
    intro w1 hS
    have hT : w1.cell? ⟨w.heap.size, 0, none⟩ = some (.int .i64 0) ∧ w1.cell? ⟨w.heap.size, 1, none⟩ = some (.int .i64 y) ∧ Below w.heap.size w w1 := hS
    clear hS
    have hS := hT
    obtain ⟨c0, c1, hB⟩ := hT
    go_wp2
    go_returns
    exact ⟨ret_eq (by rw [HS.out]; simp), by go_grown⟩
  obtain ⟨N, hN⟩ : ∃ N, vp y 78 83 = N := ⟨_, rfl⟩
  obtain ⟨n0, n1⟩ := hN ▸ vp_size (x := y) 78 83 hy kb0 kb1
  have n2 : ¬ N.toList = [] := toList_ne (by omega)
  have n3 : N.toList.isEmpty = false := by simpa using n2
  obtain ⟨E, hE⟩ : ∃ E, vp x 69 87 = E := ⟨_, rfl⟩
  obtain ⟨m0, m1⟩ := hE ▸ vp_size (x := x) 69 87 hx ka0 ka1
  have m2 : ¬ E.toList = [] := toList_ne (by omega)
  have m3 : E.toList.isEmpty = false := by simpa using m2
  have HS := hide (show vtext x y = N ++ ⟨#[32]⟩ ++ E from by unfold vtext; rw [if_neg hy, if_neg hx, hN, hE])
  have hadd1 : ∀ W : World, (Op.stringOp .add (N) (⟨#[32]⟩)).run Try.prog W = .ok (.string (N ++ ⟨#[32]⟩)) W := fun W => by rw [run_string_add_sum W _ _ (by simp only [ByteArray.size_append, size32, size0]; omega)]
  have hadd2 : ∀ W : World, (Op.stringOp .add (N ++ ⟨#[32]⟩) (E)).run Try.prog W = .ok (.string (N ++ ⟨#[32]⟩ ++ E)) W := fun W => by rw [run_string_add_sum W _ _ (by simp only [ByteArray.size_append, size32, size0]; omega)]
  go_enter Try.func58, Try.ntmps58
  go_wp2
  refine wp_region_det (fun w' => w'.cell? ⟨w.heap.size, 0, none⟩ = some (.int .i64 x) ∧ w'.cell? ⟨w.heap.size, 1, none⟩ = some (.int .i64 y) ∧ Below w.heap.size w w') (by kernel_rfl) (by kernel_rfl) (by first | assumption | (exact hS) | (refine ⟨?_, ?_, ?_⟩ <;> (first | (simp [go_sem]; done) | (simp [go_sem, *]; done) | (go_grown; done)))) ?_
  repeat (first
    | ((refine wpDet_skip (by rfl) ?_); simp only [Act.put, List.setIfInBounds_toArray, List.set_cons_zero, List.set_cons_succ])
    | ((refine wpDet_val (v := ?_) (by rfl) (fun w hS => ?_) ?_); rotate_left; (focus ((try dsimp only at hS); go_simp; (try (with_reducible rfl)); done)); simp only [Act.put, List.setIfInBounds_toArray, List.set_cons_zero, List.set_cons_succ])
    | ((refine wpDet_call (v := ?_) (f := ?_) (args := ?_) (by rfl) (fun w => ?_) (fun w hS => ?_) ?_); rotate_left; rotate_left; rotate_left; (focus (go_simp; (constructor <;> (with_reducible rfl)); done)); (focus (first | (go_at_call 71; refine (part_c _ _ _ (by omega) (by omega) _).mono ?_; intro e w' h; refine ⟨h.1.trans ?_, keep2 hS h.2⟩; with_reducible rfl))); simp only [Act.put, List.setIfInBounds_toArray, List.set_cons_zero, List.set_cons_succ]))
  refine wpDet_nil ?_
  intro w1 hS
  have hT : w1.cell? ⟨w.heap.size, 0, none⟩ = some (.int .i64 x) ∧ w1.cell? ⟨w.heap.size, 1, none⟩ = some (.int .i64 y) ∧ Below w.heap.size w w1 := hS
  clear hS
  have hS := hT
  obtain ⟨c0, c1, hB⟩ := hT
  go_wp2
  go_returns
  exact ⟨ret_eq (by rw [HS.out]; simp), by go_grown⟩
end Go.Proofs.Ytpcabjjmphcpeaa
