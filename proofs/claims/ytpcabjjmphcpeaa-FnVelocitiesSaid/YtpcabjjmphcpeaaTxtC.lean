/- Contracts: the text of any number. -/
import Derived.Test.YtpcabjjmphcpeaaDecA
import Derived.Test.YtpcabjjmphcpeaaDecB
import Derived.Test.YtpcabjjmphcpeaaTxt
namespace Go.Proofs.Ytpcabjjmphcpeaa
open Go.RowKit

theorem textAny_c (n : Int) (h0 : -1000000000000 ≤ n) (h1 : n ≤ 1000000000000) (w : World) : Calls Try.prog 72 #[.int .i64 n] w (Gives w (.string (txtS n))) := by
  by_cases g : n < 0
  · have hadd : ∀ W : World, (Op.stringOp .add ⟨#[45]⟩ (decS (-n))).run Try.prog W = .ok (.string (txtS n)) W := fun W => by
      have h9 := decS_size (n := -n) (by omega)
      rw [run_string_add_sum W _ _ (by rw [size1]; omega), txtS_neg g]
    go_enter Try.func72, Try.ntmps72
    go_wp2_with (first | (go_at_call 72; refine (text_c _ (by omega) (by omega) _).mono ?_; rintro e w1 ⟨rfl, hb⟩; have hT : Below w.heap.size w w1 := keep0 (by first | assumption | go_grown) hb; (try clear hS); have hS := hT; clear hT; have hB := hS; have hzw := hB.size; clear hb))
    go_returns
    exact ⟨ret_eq (by simp), by go_grown⟩
  refine (text_c n (by omega) h1 w).mono ?_
  rintro e w1 ⟨rfl, hb⟩
  exact ⟨ret_eq (by rw [txtS_pos g]), hb⟩

theorem l1NumAny_c (n : Int) (h0 : -1000000000000 ≤ n) (h1 : n ≤ 1000000000000) (w : World) : Calls Try.prog 75 #[.int .i64 n] w (Gives w (.string (txtS n))) := by
  by_cases g : n < 0
  · have hadd : ∀ W : World, (Op.stringOp .add ⟨#[45]⟩ (decS (-n))).run Try.prog W = .ok (.string (txtS n)) W := fun W => by
      have h9 := decS_size (n := -n) (by omega)
      rw [run_string_add_sum W _ _ (by rw [size1]; omega), txtS_neg g]
    go_enter Try.func75, Try.ntmps75
    go_wp2_with (first | (go_at_call 75; refine (l1Num_c _ (by omega) (by omega) _).mono ?_; rintro e w1 ⟨rfl, hb⟩; have hT : Below w.heap.size w w1 := keep0 (by first | assumption | go_grown) hb; (try clear hS); have hS := hT; clear hT; have hB := hS; have hzw := hB.size; clear hb))
    go_returns
    exact ⟨ret_eq (by simp), by go_grown⟩
  refine (l1Num_c n (by omega) h1 w).mono ?_
  rintro e w1 ⟨rfl, hb⟩
  exact ⟨ret_eq (by rw [txtS_pos g]), hb⟩
end Go.Proofs.Ytpcabjjmphcpeaa
