/- Contracts: texts of heights. -/
import Derived.Test.YthgnnldokdddfaaTxtC
import Derived.Test.YthgnnldokdddfaaHeMath
namespace Go.Proofs.Ythgnnldokdddfaa
open Go.RowKit

theorem within_c (n a b : Int) (w : World) : Calls Try.prog 47 #[.int .i64 n, .int .i64 a, .int .i64 b] w fun e w' => e = .returned (.bool (wi n a b)) ∧ w = w' := by
  go_enter Try.func47, Try.ntmps47
  go_wp2
  all_goals (go_returns; exact ⟨ret_eq (by first | (simp [wi, *]; done) | (simp [wi, *]; omega)), rfl⟩)

theorem l1In_c (n a b : Int) (w : World) : Calls Try.prog 62 #[.int .i64 n, .int .i64 a, .int .i64 b] w fun e w' => e = .returned (.bool (wi n a b)) ∧ w = w' := by
  go_enter Try.func62, Try.ntmps62
  go_wp2
  all_goals (go_returns; exact ⟨ret_eq (by first | (simp [wi, *]; done) | (simp [wi, *]; omega)), rfl⟩)

theorem isHeight_c (h : Int) (w : World) : Calls Try.prog 43 #[.int .i64 h] w fun r' w' => r' = .returned (.bool (isH h)) ∧ w = w' := by
  go_enter Try.func43, Try.ntmps43
  go_wp2_with (first | (go_at_call 47; refine (within_c _ _ _ _).mono ?_; rintro e w1 ⟨rfl, rfl⟩))
  go_returns
  exact ⟨ret_eq rfl, rfl⟩

theorem l6Height_c (h : Int) (w : World) : Calls Try.prog 41 #[.int .i64 h] w fun r' w' => r' = .returned (.bool (isH h)) ∧ w = w' := by
  go_enter Try.func41, Try.ntmps41
  go_wp2_with (first | (go_at_call 62; refine (l1In_c _ _ _ _).mono ?_; rintro e w1 ⟨rfl, rfl⟩))
  go_returns
  exact ⟨ret_eq rfl, rfl⟩

theorem heightText_c (h : Int) (h0 : -2000 ≤ h) (h1 : h ≤ 130000) (w : World) : Calls Try.prog 44 #[.int .i64 h] w (Gives w (.string (hT h))) := by
  by_cases g : h ≥ 10000
  · by_cases g2 : h % 100 = 0
    · have hadd : ∀ W : World, (Op.stringOp .add ⟨#[70, 76]⟩ (txtS (h / 100))).run Try.prog W = .ok (.string (hT h)) W := fun W => by
        have h9 := txtS_size (n := h / 100) (by omega) (by omega)
        rw [run_string_add_sum W _ _ (by rw [size2]; omega)]; unfold hT; rw [if_pos ⟨g, g2⟩]
      have q1 : h.tmod 100 = h % 100 := Int.tmod_eq_emod_of_nonneg (by omega)
      have q2 : h.tdiv 100 = h / 100 := Int.tdiv_eq_ediv_of_nonneg (by omega)
      go_enter Try.func44, Try.ntmps44
      go_wp2_with (first | (go_at_call 69; refine (textAny_c _ (by omega) (by omega) _).mono ?_; rintro e w1 ⟨rfl, hb⟩; have hT : Below w.heap.size w w1 := keep0 (by first | assumption | go_grown) hb; (try clear hS); have hS := hT; clear hT; have hB := hS; have hzw := hB.size; clear hb))
      go_returns
      exact ⟨ret_eq (by simp), by go_grown⟩
    have hadd : ∀ W : World, (Op.stringOp .add (txtS h) ⟨#[32, 102, 116]⟩).run Try.prog W = .ok (.string (hT h)) W := fun W => by
      have h9 := txtS_size (n := h) (by omega) (by omega)
      rw [run_string_add_sum W _ _ (by rw [size3]; omega)]; unfold hT; rw [if_neg (fun e => g2 e.2)]
    have q1 : h.tmod 100 = h % 100 := Int.tmod_eq_emod_of_nonneg (by omega)
    go_enter Try.func44, Try.ntmps44
    go_wp2_with (first | (go_at_call 69; refine (textAny_c _ (by omega) (by omega) _).mono ?_; rintro e w1 ⟨rfl, hb⟩; have hT : Below w.heap.size w w1 := keep0 (by first | assumption | go_grown) hb; (try clear hS); have hS := hT; clear hT; have hB := hS; have hzw := hB.size; clear hb))
    go_returns
    exact ⟨ret_eq (by simp), by go_grown⟩
  have hadd : ∀ W : World, (Op.stringOp .add (txtS h) ⟨#[32, 102, 116]⟩).run Try.prog W = .ok (.string (hT h)) W := fun W => by
    have h9 := txtS_size (n := h) (by omega) (by omega)
    rw [run_string_add_sum W _ _ (by rw [size3]; omega)]; unfold hT; rw [if_neg (fun e => g e.1)]
  go_enter Try.func44, Try.ntmps44
  go_wp2_with (first | (go_at_call 69; refine (textAny_c _ (by omega) (by omega) _).mono ?_; rintro e w1 ⟨rfl, hb⟩; have hT : Below w.heap.size w w1 := keep0 (by first | assumption | go_grown) hb; (try clear hS); have hS := hT; clear hT; have hB := hS; have hzw := hB.size; clear hb))
  go_returns
  exact ⟨ret_eq (by simp), by go_grown⟩

theorem l6Text_c (h : Int) (h0 : -2000 ≤ h) (h1 : h ≤ 130000) (w : World) : Calls Try.prog 42 #[.int .i64 h] w (Gives w (.string (hT h))) := by
  by_cases g : h ≥ 10000
  · by_cases g2 : h % 100 = 0
    · have hadd : ∀ W : World, (Op.stringOp .add ⟨#[70, 76]⟩ (txtS (h / 100))).run Try.prog W = .ok (.string (hT h)) W := fun W => by
        have h9 := txtS_size (n := h / 100) (by omega) (by omega)
        rw [run_string_add_sum W _ _ (by rw [size2]; omega)]; unfold hT; rw [if_pos ⟨g, g2⟩]
      have q1 : h.tmod 100 = h % 100 := Int.tmod_eq_emod_of_nonneg (by omega)
      have q2 : h.tdiv 100 = h / 100 := Int.tdiv_eq_ediv_of_nonneg (by omega)
      go_enter Try.func42, Try.ntmps42
      go_wp2_with (first | (go_at_call 68; refine (l1NumAny_c _ (by omega) (by omega) _).mono ?_; rintro e w1 ⟨rfl, hb⟩; have hT : Below w.heap.size w w1 := keep0 (by first | assumption | go_grown) hb; (try clear hS); have hS := hT; clear hT; have hB := hS; have hzw := hB.size; clear hb))
      go_returns
      exact ⟨ret_eq (by simp), by go_grown⟩
    have hadd : ∀ W : World, (Op.stringOp .add (txtS h) ⟨#[32, 102, 116]⟩).run Try.prog W = .ok (.string (hT h)) W := fun W => by
      have h9 := txtS_size (n := h) (by omega) (by omega)
      rw [run_string_add_sum W _ _ (by rw [size3]; omega)]; unfold hT; rw [if_neg (fun e => g2 e.2)]
    have q1 : h.tmod 100 = h % 100 := Int.tmod_eq_emod_of_nonneg (by omega)
    go_enter Try.func42, Try.ntmps42
    go_wp2_with (first | (go_at_call 68; refine (l1NumAny_c _ (by omega) (by omega) _).mono ?_; rintro e w1 ⟨rfl, hb⟩; have hT : Below w.heap.size w w1 := keep0 (by first | assumption | go_grown) hb; (try clear hS); have hS := hT; clear hT; have hB := hS; have hzw := hB.size; clear hb))
    go_returns
    exact ⟨ret_eq (by simp), by go_grown⟩
  have hadd : ∀ W : World, (Op.stringOp .add (txtS h) ⟨#[32, 102, 116]⟩).run Try.prog W = .ok (.string (hT h)) W := fun W => by
    have h9 := txtS_size (n := h) (by omega) (by omega)
    rw [run_string_add_sum W _ _ (by rw [size3]; omega)]; unfold hT; rw [if_neg (fun e => g e.1)]
  go_enter Try.func42, Try.ntmps42
  go_wp2_with (first | (go_at_call 68; refine (l1NumAny_c _ (by omega) (by omega) _).mono ?_; rintro e w1 ⟨rfl, hb⟩; have hT : Below w.heap.size w w1 := keep0 (by first | assumption | go_grown) hb; (try clear hS); have hS := hT; clear hT; have hB := hS; have hzw := hB.size; clear hb))
  go_returns
  exact ⟨ret_eq (by simp), by go_grown⟩

theorem HeightText_c (h : Int) (w : World) : Calls Try.prog 10 #[.int .i64 h] w (Gives w (.tuple #[.string (hTS h), .bool (isH h)])) := by
  rcases h1 : isH h with _ | _
  · go_enter Try.func10, Try.ntmps10
    go_wp2_with (first | (go_at_call 43; refine (isHeight_c _ _).mono ?_; rintro e w1 ⟨rfl, rfl⟩) | (go_at_call 44; refine (heightText_c _ k0 k1 _).mono ?_; rintro e w1 ⟨rfl, hb⟩; have hT : Below w.heap.size w w1 := keep0 (by first | assumption | go_grown) hb; (try clear hS); have hS := hT; clear hT; have hB := hS; have hzw := hB.size; clear hb))
    go_returns
    exact ⟨ret_eq (by simp [hTS, h1]), by go_grown⟩
  obtain ⟨k0, k1⟩ := wi_iff.1 h1
  go_enter Try.func10, Try.ntmps10
  go_wp2_with (first | (go_at_call 43; refine (isHeight_c _ _).mono ?_; rintro e w1 ⟨rfl, rfl⟩) | (go_at_call 44; refine (heightText_c _ k0 k1 _).mono ?_; rintro e w1 ⟨rfl, hb⟩; have hT : Below w.heap.size w w1 := keep0 (by first | assumption | go_grown) hb; (try clear hS); have hS := hT; clear hT; have hB := hS; have hzw := hB.size; clear hb))
  go_returns
  exact ⟨ret_eq (by simp [hTS, h1]), by go_grown⟩

theorem sHeightText_c (h : Int) (w : World) : Calls Try.prog 9 #[.int .i64 h] w (Gives w (.tuple #[.string (hTS h), .bool (isH h)])) := by
  rcases h1 : isH h with _ | _
  · go_enter Try.func9, Try.ntmps9
    go_wp2_with (first | (go_at_call 41; refine (l6Height_c _ _).mono ?_; rintro e w1 ⟨rfl, rfl⟩) | (go_at_call 42; refine (l6Text_c _ k0 k1 _).mono ?_; rintro e w1 ⟨rfl, hb⟩; have hT : Below w.heap.size w w1 := keep0 (by first | assumption | go_grown) hb; (try clear hS); have hS := hT; clear hT; have hB := hS; have hzw := hB.size; clear hb))
    go_returns
    exact ⟨ret_eq (by simp [hTS, h1]), by go_grown⟩
  obtain ⟨k0, k1⟩ := wi_iff.1 h1
  go_enter Try.func9, Try.ntmps9
  go_wp2_with (first | (go_at_call 41; refine (l6Height_c _ _).mono ?_; rintro e w1 ⟨rfl, rfl⟩) | (go_at_call 42; refine (l6Text_c _ k0 k1 _).mono ?_; rintro e w1 ⟨rfl, hb⟩; have hT : Below w.heap.size w w1 := keep0 (by first | assumption | go_grown) hb; (try clear hS); have hS := hT; clear hT; have hB := hS; have hzw := hB.size; clear hb))
  go_returns
  exact ⟨ret_eq (by simp [hTS, h1]), by go_grown⟩

theorem fnHeightText (h : Int) (w : World) : Calls Try.prog 3 #[.int .i64 h] w (Gives w (.bool true)) := by
  go_enter Try.func3, Try.ntmps3
  go_wp2_with (first | (go_at_call 9; refine (sHeightText_c _ _).mono ?_; rintro e w1 ⟨rfl, hb⟩; have hT : Below w.heap.size w w1 := keep0 (by first | assumption | go_grown) hb; (try clear hS); have hS := hT; clear hT; have hB := hS; have hzw := hB.size; clear hb) | (go_at_call 10; refine (HeightText_c _ _).mono ?_; rintro e w1 ⟨rfl, hb⟩; have hT : Below w.heap.size w w1 := keep0 (by first | assumption | go_grown) hb; (try clear hS); have hS := hT; clear hT; have hB := hS; have hzw := hB.size; clear hb))
  all_goals (go_returns; exact ⟨ret_eq (by rfl), by go_grown⟩)
end Go.Proofs.Ythgnnldokdddfaa
