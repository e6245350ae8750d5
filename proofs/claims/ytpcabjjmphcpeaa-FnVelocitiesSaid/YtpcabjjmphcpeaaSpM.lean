/- Contracts: parts of a text. -/
import Derived.Test.YtpcabjjmphcpeaaDecA
import Derived.Test.YtpcabjjmphcpeaaDecB
import Derived.Test.YtpcabjjmphcpeaaTextMath
import Derived.Test.YtpcabjjmphcpeaaSpB
namespace Go.Proofs.Ytpcabjjmphcpeaa
open Go.RowKit

theorem part_c (x : Int) (a b : UInt8) (h0 : -200 ≤ x) (h1 : x ≤ 200) (w : World) : Calls Try.prog 71 #[.int .i64 x, .string ⟨#[a]⟩, .string ⟨#[b]⟩] w (Gives w (.string (vp x a b))) := by
  rcases Int.lt_trichotomy x 0 with g | g | g
  · have hadd : ∀ W : World, (Op.stringOp .add (decS (-x)) ⟨#[b]⟩).run Try.prog W = .ok (.string (vp x a b)) W := fun W => by
      have h9 := decS_size (n := -x) (by omega)
      rw [run_string_add_sum W _ _ (by rw [show (ByteArray.mk #[b]).size = 1 from rfl]; omega), vp_neg a b g]
    go_enter Try.func71, Try.ntmps71
    go_wp2_with (first | (go_at_call 75; refine (l1Num_c _ (by omega) (by omega) _).mono ?_; rintro e w1 ⟨rfl, hb⟩; have hT : Below w.heap.size w w1 := keep0 (by first | assumption | go_grown) hb; (try clear hS); have hS := hT; clear hT; have hB := hS; have hzw := hB.size; clear hb))
    go_returns
    exact ⟨ret_eq (by simp), by go_grown⟩
  · subst g
    go_enter Try.func71, Try.ntmps71
    go_wp2_with (first | (go_at_call 75; refine (l1Num_c _ (by omega) (by omega) _).mono ?_; rintro e w1 ⟨rfl, hb⟩; have hT : Below w.heap.size w w1 := keep0 (by first | assumption | go_grown) hb; (try clear hS); have hS := hT; clear hT; have hB := hS; have hzw := hB.size; clear hb))
    go_returns
    exact ⟨ret_eq (by simp [vp_zero]), by go_grown⟩
  · have hadd : ∀ W : World, (Op.stringOp .add (decS (x)) ⟨#[a]⟩).run Try.prog W = .ok (.string (vp x a b)) W := fun W => by
      have h9 := decS_size (n := x) (by omega)
      rw [run_string_add_sum W _ _ (by rw [show (ByteArray.mk #[a]).size = 1 from rfl]; omega), vp_pos a b g]
    go_enter Try.func71, Try.ntmps71
    go_wp2_with (first | (go_at_call 75; refine (l1Num_c _ (by omega) (by omega) _).mono ?_; rintro e w1 ⟨rfl, hb⟩; have hT : Below w.heap.size w w1 := keep0 (by first | assumption | go_grown) hb; (try clear hS); have hS := hT; clear hT; have hB := hS; have hzw := hB.size; clear hb))
    go_returns
    exact ⟨ret_eq (by simp), by go_grown⟩

theorem join1_c (g cap : Nat) (p : ByteArray) (w : World) (h0 : w.cell? ⟨g, 0, none⟩ = some (.string p)) (hp : p.size ≤ 100000)  : Calls Try.prog 73 #[.slice (some ⟨g, 0, none⟩) 1 cap, .string ⟨#[32]⟩] w fun r' w' => r' = .returned (.string p) ∧ w = w' := by
  have hadd : ∀ W : World, (Op.stringOp .add ⟨#[]⟩ p).run Try.prog W = .ok (.string p) W := fun W => by rw [run_string_add_sum W _ _ (by rw [show (ByteArray.mk #[]).size = 0 from rfl]; omega), empty_app]
  go_enter Try.func73, Try.ntmps73
  go_wp2
  refine wp_loop_rounds 3 ?_
  rw [rounds_succ]; go_wp2
  rw [rounds_succ]; go_wp2
  go_returns
  exact ⟨ret_eq (by simp), rfl⟩

theorem join2_c (g cap : Nat) (p q : ByteArray) (w : World) (h0 : w.cell? ⟨g, 0, none⟩ = some (.string p)) (h1 : w.cell? ⟨g, 1, none⟩ = some (.string q)) (hp : p.size ≤ 100000) (hq : q.size ≤ 100000)  : Calls Try.prog 73 #[.slice (some ⟨g, 0, none⟩) 2 cap, .string ⟨#[32]⟩] w fun r' w' => r' = .returned (.string (p ++ ⟨#[32]⟩ ++ q)) ∧ w = w' := by
  have hadd : ∀ W : World, (Op.stringOp .add ⟨#[]⟩ p).run Try.prog W = .ok (.string p) W := fun W => by rw [run_string_add_sum W _ _ (by rw [show (ByteArray.mk #[]).size = 0 from rfl]; omega), empty_app]
  have hadd2 : ∀ W : World, (Op.stringOp .add p ⟨#[32]⟩).run Try.prog W = .ok (.string (p ++ ⟨#[32]⟩)) W := fun W => by rw [run_string_add_sum W _ _ (by rw [show (ByteArray.mk #[32]).size = 1 from rfl]; omega)]
  have hadd3 : ∀ W : World, (Op.stringOp .add (p ++ ⟨#[32]⟩) q).run Try.prog W = .ok (.string (p ++ ⟨#[32]⟩ ++ q)) W := fun W => by rw [run_string_add_sum W _ _ (by rw [ByteArray.size_append, show (ByteArray.mk #[32]).size = 1 from rfl]; omega)]
  go_enter Try.func73, Try.ntmps73
  go_wp2
  refine wp_loop_rounds 4 ?_
  rw [rounds_succ]; go_wp2
  rw [rounds_succ]; go_wp2
  rw [rounds_succ]; go_wp2
  go_returns
  exact ⟨ret_eq (by simp), rfl⟩
end Go.Proofs.Ytpcabjjmphcpeaa
