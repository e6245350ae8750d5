/- Contracts under receivers. -/
import Derived.Test.YtbeojfhakmbacaaReMath
import Derived.Test.YtbeojfhakmbacaaBase
import Derived.Test.YtbeojfhakmbacaaRegion
import Derived.Test.YtbeojfhakmbacaaSeq
import Derived.Test.YtbeojfhakmbacaaProg
namespace Go.Proofs.Ytbeojfhakmbacaa
open Go.RowKit

theorem within_c (n a b : Int) (w : World) : Calls Try.prog 63 #[.int .i64 n, .int .i64 a, .int .i64 b] w fun e w' => e = .returned (.bool (wi n a b)) ∧ w = w' := by
  go_enter Try.func63, Try.ntmps63
  go_wp2
  all_goals (go_returns; exact ⟨ret_eq (by first | (simp [wi, *]; done) | (simp [wi, *]; omega)), rfl⟩)

theorem l1In_c (n a b : Int) (w : World) : Calls Try.prog 98 #[.int .i64 n, .int .i64 a, .int .i64 b] w fun e w' => e = .returned (.bool (wi n a b)) ∧ w = w' := by
  go_enter Try.func98, Try.ntmps98
  go_wp2
  all_goals (go_returns; exact ⟨ret_eq (by first | (simp [wi, *]; done) | (simp [wi, *]; omega)), rfl⟩)

theorem size_c (o : Bool) (a b : Int) (w : World) : Calls Try.prog 78 #[.agg #[.bool o, .int .i64 a, .int .i64 b]] w (Gives w (.int .i64 (szOf o))) := by
  cases o
  all_goals
    go_enter Try.func78, Try.ntmps78
    go_wp2
    all_goals (go_returns; exact ⟨ret_eq (by rfl), by go_grown⟩)

theorem l7Size_c (o : Bool) (w : World) : Calls Try.prog 109 #[.bool o] w fun e w' => e = .returned (.int .i64 (szOf o)) ∧ w = w' := by
  cases o
  all_goals
    go_enter Try.func109, Try.ntmps109
    go_wp2
    all_goals (go_returns; exact ⟨ret_eq (by rfl), rfl⟩)

theorem validRep_c (o : Bool) (a b : Int) (w : World) : Calls Try.prog 101 #[.agg #[.bool o, .int .i64 a, .int .i64 b]] w (Gives w (.bool (vR o a b))) := by
  have hs := szOf_two o
  have e1 : IntKind.i64.wrap (szOf o - 1) = szOf o - 1 := IntWalk.i64_in _ (by omega)
  cases h : wi a 0 (szOf o - 1)
  all_goals
    go_enter Try.func101, Try.ntmps101
    go_wp2
    refine wp_region_det (fun w' => w'.cell? ⟨w.heap.size, 0, none⟩ = some (.bool o) ∧ w'.cell? ⟨w.heap.size, 1, none⟩ = some (.int .i64 a) ∧ w'.cell? ⟨w.heap.size, 2, none⟩ = some (.int .i64 b) ∧ Below w.heap.size w w') (by kernel_rfl) (by kernel_rfl) (by first | assumption | (exact hS) | (refine ⟨?_, ?_, ?_, ?_⟩ <;> (first | (simp [go_sem]; done) | (simp [go_sem, *]; done) | (go_grown; done)))) ?_
    repeat (first
      | ((refine wpDet_skip (by rfl) ?_); simp only [Act.put, List.setIfInBounds_toArray, List.set_cons_zero, List.set_cons_succ])
      | ((refine wpDet_val (v := ?_) (by rfl) (fun w hS => ?_) ?_); rotate_left; (focus ((try dsimp only at hS); go_simp; (try (with_reducible rfl)); done)); simp only [Act.put, List.setIfInBounds_toArray, List.set_cons_zero, List.set_cons_succ])
      | ((refine wpDet_call (v := ?_) (f := ?_) (args := ?_) (by rfl) (fun w => ?_) (fun w hS => ?_) ?_); rotate_left; rotate_left; rotate_left; (focus (go_simp; (constructor <;> (with_reducible rfl)); done)); (focus (first | (go_at_call 78; refine (size_c _ _ _ _).mono ?_; intro e w' h; refine ⟨h.1.trans ?_, keep3 hS h.2⟩; with_reducible rfl) | (go_at_call 63; refine (within_c _ _ _ _).mono ?_; intro e w' h; refine ⟨h.1.trans ?_, h.2 ▸ hS⟩; with_reducible rfl))); simp only [Act.put, List.setIfInBounds_toArray, List.set_cons_zero, List.set_cons_succ]))
    refine wpDet_nil ?_
    intro w1 hS
    have hT : w1.cell? ⟨w.heap.size, 0, none⟩ = some (.bool o) ∧ w1.cell? ⟨w.heap.size, 1, none⟩ = some (.int .i64 a) ∧ w1.cell? ⟨w.heap.size, 2, none⟩ = some (.int .i64 b) ∧ Below w.heap.size w w1 := hS
    clear hS
    have hS := hT
    obtain ⟨c0, c1, c2, hB⟩ := hT
    go_wp2
    go_ret
    exact ⟨ret_eq (by simp [vR, h]), hB⟩

theorem l7Report_c (o : Bool) (a b : Int) (w : World) : Calls Try.prog 120 #[.agg #[.bool o, .int .i64 a, .int .i64 b]] w (Gives w (.bool (vR o a b))) := by
  have hs := szOf_two o
  have e1 : IntKind.i64.wrap (szOf o - 1) = szOf o - 1 := IntWalk.i64_in _ (by omega)
  cases h : wi a 0 (szOf o - 1)
  all_goals
    go_enter Try.func120, Try.ntmps120
    go_wp2
    refine wp_region_det (fun w' => w'.cell? ⟨w.heap.size, 0, none⟩ = some (.bool o) ∧ w'.cell? ⟨w.heap.size, 1, none⟩ = some (.int .i64 a) ∧ w'.cell? ⟨w.heap.size, 2, none⟩ = some (.int .i64 b) ∧ Below w.heap.size w w') (by kernel_rfl) (by kernel_rfl) (by first | assumption | (exact hS) | (refine ⟨?_, ?_, ?_, ?_⟩ <;> (first | (simp [go_sem]; done) | (simp [go_sem, *]; done) | (go_grown; done)))) ?_
    repeat (first
      | ((refine wpDet_skip (by rfl) ?_); simp only [Act.put, List.setIfInBounds_toArray, List.set_cons_zero, List.set_cons_succ])
      | ((refine wpDet_val (v := ?_) (by rfl) (fun w hS => ?_) ?_); rotate_left; (focus ((try dsimp only at hS); go_simp; (try (with_reducible rfl)); done)); simp only [Act.put, List.setIfInBounds_toArray, List.set_cons_zero, List.set_cons_succ])
      | ((refine wpDet_call (v := ?_) (f := ?_) (args := ?_) (by rfl) (fun w => ?_) (fun w hS => ?_) ?_); rotate_left; rotate_left; rotate_left; (focus (go_simp; (constructor <;> (with_reducible rfl)); done)); (focus (first | (go_at_call 109; refine (l7Size_c _ _).mono ?_; intro e w' h; refine ⟨h.1.trans ?_, h.2 ▸ hS⟩; with_reducible rfl) | (go_at_call 98; refine (l1In_c _ _ _ _).mono ?_; intro e w' h; refine ⟨h.1.trans ?_, h.2 ▸ hS⟩; with_reducible rfl))); simp only [Act.put, List.setIfInBounds_toArray, List.set_cons_zero, List.set_cons_succ]))
    refine wpDet_nil ?_
    intro w1 hS
    have hT : w1.cell? ⟨w.heap.size, 0, none⟩ = some (.bool o) ∧ w1.cell? ⟨w.heap.size, 1, none⟩ = some (.int .i64 a) ∧ w1.cell? ⟨w.heap.size, 2, none⟩ = some (.int .i64 b) ∧ Below w.heap.size w w1 := hS
    clear hS
    have hS := hT
    obtain ⟨c0, c1, c2, hB⟩ := hT
    go_wp2
    go_ret
    exact ⟨ret_eq (by simp [vR, h]), hB⟩

theorem toReport_c (o : Bool) (a b : Int) (w : World) : Calls Try.prog 126 #[.agg #[.bool o, .int .i64 a, .int .i64 b]] w (Gives w (.agg #[.bool o, .int .i64 a, .int .i64 b])) := by
  go_enter Try.func126, Try.ntmps126
  go_wp2
  all_goals (go_returns; exact ⟨ret_eq (by rfl), by go_grown⟩)

theorem eqReport_c (o : Bool) (a b : Int) (w : World) : Calls Try.prog 82 #[.agg #[.bool o, .int .i64 a, .int .i64 b], .agg #[.bool o, .int .i64 a, .int .i64 b]] w (Gives w (.bool true)) := by
  go_enter Try.func82, Try.ntmps82
  go_wp2
  all_goals (go_returns; exact ⟨ret_eq (by rfl), by go_grown⟩)

theorem isMinute_c (n : Int) (w : World) : Calls Try.prog 61 #[.int .i64 n] w fun e w' => e = .returned (.bool (wi n 0 9999)) ∧ w = w' := by
  go_enter Try.func61, Try.ntmps61
  go_wp2_with (first | (go_at_call 63; refine (within_c _ _ _ _).mono ?_; rintro e w1 ⟨rfl, rfl⟩))
  all_goals (go_returns; exact ⟨ret_eq (by rfl), rfl⟩)

theorem isAddress_c (n : Int) (w : World) : Calls Try.prog 62 #[.int .i64 n] w fun e w' => e = .returned (.bool (wi n 1 65535)) ∧ w = w' := by
  go_enter Try.func62, Try.ntmps62
  go_wp2_with (first | (go_at_call 63; refine (within_c _ _ _ _).mono ?_; rintro e w1 ⟨rfl, rfl⟩))
  all_goals (go_returns; exact ⟨ret_eq (by rfl), rfl⟩)

theorem l9Minute_c (n : Int) (w : World) : Calls Try.prog 59 #[.int .i64 n] w fun e w' => e = .returned (.bool (wi n 0 9999)) ∧ w = w' := by
  go_enter Try.func59, Try.ntmps59
  go_wp2_with (first | (go_at_call 98; refine (l1In_c _ _ _ _).mono ?_; rintro e w1 ⟨rfl, rfl⟩))
  all_goals (go_returns; exact ⟨ret_eq (by rfl), rfl⟩)

theorem l5Address_c (n : Int) (w : World) : Calls Try.prog 97 #[.int .i64 n] w fun e w' => e = .returned (.bool (wi n 1 65535)) ∧ w = w' := by
  go_enter Try.func97, Try.ntmps97
  go_wp2_with (first | (go_at_call 98; refine (l1In_c _ _ _ _).mono ?_; rintro e w1 ⟨rfl, rfl⟩))
  all_goals (go_returns; exact ⟨ret_eq (by rfl), rfl⟩)
end Go.Proofs.Ytbeojfhakmbacaa
