/- Contract: the law on reading a height. -/
import Derived.Test.YthgnnldokdddfaaPhA
import Derived.Test.YthgnnldokdddfaaPhB
namespace Go.Proofs.Ythgnnldokdddfaa
open Go.RowKit

theorem fnParseHeight (s : ByteArray) (w : World) : Calls Try.prog 6 #[.string s] w (Gives w (.bool true)) := by
  by_cases q0 : s.size > 1048576
  · go_enter Try.func6, Try.ntmps6
    go_wp2_with (first | (go_at_call 18; refine (phNo_s _ (by assumption) _).mono ?_; rintro e w1 ⟨rfl, hb⟩; have hT : Below w.heap.size w w1 := keep0 (by first | assumption | go_grown) hb; (try clear hS); have hS := hT; clear hT; have hB := hS; have hzw := hB.size; clear hb) | (go_at_call 19; refine (phNo_i _ (by assumption) _).mono ?_; rintro e w1 ⟨rfl, hb⟩; have hT : Below w.heap.size w w1 := keep0 (by first | assumption | go_grown) hb; (try clear hS); have hS := hT; clear hT; have hB := hS; have hzw := hB.size; clear hb))
    go_returns
    exact ⟨ret_eq (by simp), by go_grown⟩
  by_cases hx : ∃ h, isH h = true ∧ hT h = s
  · obtain ⟨h, hh, hs⟩ := hx
    go_enter Try.func6, Try.ntmps6
    go_wp2_with (first | (go_at_call 18; refine (phYes_s h _ hh hs _).mono ?_; rintro e w1 ⟨rfl, hb⟩; have hT : Below w.heap.size w w1 := keep0 (by first | assumption | go_grown) hb; (try clear hS); have hS := hT; clear hT; have hB := hS; have hzw := hB.size; clear hb) | (go_at_call 19; refine (phYes_i h _ hh hs _).mono ?_; rintro e w1 ⟨rfl, hb⟩; have hT : Below w.heap.size w w1 := keep0 (by first | assumption | go_grown) hb; (try clear hS); have hS := hT; clear hT; have hB := hS; have hzw := hB.size; clear hb))
    go_returns
    exact ⟨ret_eq (by simp), by go_grown⟩
  have hno : Hid (∀ h, isH h = true → hT h ≠ s) := hide (fun h hh hs => hx ⟨h, hh, hs⟩)
  clear hx
  have hs20 : s.size ≤ 1048576 := by omega
  go_enter Try.func6, Try.ntmps6
  go_wp2_with (first | (go_at_call 18; refine (phNo_s _ hs20 hno _).mono ?_; rintro e w1 ⟨rfl, hb⟩; have hT : Below w.heap.size w w1 := keep0 (by first | assumption | go_grown) hb; (try clear hS); have hS := hT; clear hT; have hB := hS; have hzw := hB.size; clear hb) | (go_at_call 19; refine (phNo_i _ hs20 hno _).mono ?_; rintro e w1 ⟨rfl, hb⟩; have hT : Below w.heap.size w w1 := keep0 (by first | assumption | go_grown) hb; (try clear hS); have hS := hT; clear hT; have hB := hS; have hzw := hB.size; clear hb))
  go_returns
  exact ⟨ret_eq (by simp), by go_grown⟩
end Go.Proofs.Ythgnnldokdddfaa
