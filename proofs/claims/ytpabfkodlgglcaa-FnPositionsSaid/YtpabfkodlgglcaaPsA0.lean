/- Contracts: small ones; what draws hand back. -/
import Derived.Deep.DeepCutAuto
import Derived.Test.YtpabfkodlgglcaaCurR
import Derived.Test.YtpabfkodlgglcaaSplit
import Derived.Test.YtpabfkodlgglcaaSeq
import Derived.Test.YtpabfkodlgglcaaLite
namespace Go.Proofs.Ytpabfkodlgglcaa
open Go.RowKit

theorem least_ex (a b : Int) (h0 : 0 ≤ a) (h1 : 0 ≤ b) (w : World) : Calls Try.prog 79 #[.int .i64 a, .int .i64 b] w fun e w' => ∃ u, e = .returned (.int .i64 u) ∧ (0 ≤ u ∧ u ≤ b) ∧ w = w' := by
  by_cases h : a < b
  all_goals
    go_enter Try.func79, Try.ntmps79
    go_wp2
    go_returns
    first | exact ⟨_, rfl, ⟨by omega, by omega⟩, rfl⟩
theorem most_ex (a b : Int) (h0 : a ≤ 9899) (h1 : 0 ≤ b) (h2 : b ≤ 9899) (w : World) : Calls Try.prog 72 #[.int .i64 a, .int .i64 b] w fun e w' => ∃ u, e = .returned (.int .i64 u) ∧ (0 ≤ u ∧ u ≤ 9899) ∧ w = w' := by
  refine (most_c a b w).mono ?_
  rintro e w1 ⟨rfl, rfl⟩
  exact ⟨_, rfl, ⟨by omega, by omega⟩, rfl⟩
theorem l7Of_ex (x y : Int) (o : Bool) (hx0 : 0 ≤ x) (hy0 : 0 ≤ y) (w : World) : Calls Try.prog 56 #[.agg #[.int .i64 x, .int .i64 y], .bool o] w fun e w' => ∃ a b, e = .returned (.agg #[.bool o, .int .i64 a, .int .i64 b]) ∧ Below w.heap.size w w' := by
  refine (l7Of_c x y o hx0 hy0 w).mono ?_
  rintro e w1 ⟨rfl, hb⟩
  exact ⟨_, _, rfl, hb⟩

theorem al3 {w w1 : World} {u v t : Value} {e : TypeId} (h : w.alloc (.cells #[u, v, t] e) = w1) : (w.heap.size < w1.heap.size ∧ ∀ i, w1.frozen? ⟨w.heap.size, i, none⟩ = false) ∧ w1.cell? ⟨w.heap.size, 0, none⟩ = some u ∧ w1.cell? ⟨w.heap.size, 1, none⟩ = some v ∧ w1.cell? ⟨w.heap.size, 2, none⟩ = some t := by
  rw [← h]
  exact ⟨⟨by simp [go_sem], by simp [go_sem]⟩, by simp [go_sem], by simp [go_sem], by simp [go_sem]⟩
section
variable {w w1 K : World} {b g k : Nat} {u v t : Value} {r : Option Nat}
section
variable (hw : w1 = ((w.setCell ⟨b, 0, none⟩ u).setCell ⟨b, 1, none⟩ v).setCell ⟨b, 2, none⟩ t)
include hw
theorem s3o {c j : Nat} {x : Value} (h : c ≠ b) (q : w.cell? ⟨c, j, none⟩ = some x) : w1.cell? ⟨c, j, none⟩ = some x := by rw [hw]; exact (box3_other h u v t j).trans q
theorem s3f {c : Nat} (h : c < w.heap.size) (h2 : ∀ i, w.frozen? ⟨c, i, none⟩ = false) : c < w1.heap.size ∧ ∀ i, w1.frozen? ⟨c, i, none⟩ = false := by rw [hw]; exact ⟨by simpa using h, fun i => by simpa using h2 i⟩
theorem s3c (h : g < b) (q : Cur w g k) : Cur w1 g k := by rw [hw]; exact Cur.setc (Cur.setc (Cur.setc q h u) h v) h t
theorem s3g (h : K.heap.size ≤ b) (q : K.grownBy w r) : K.grownBy w1 r := by rw [hw]; exact gb_seta (gb_seta (gb_seta q h u) h v) h t
theorem s3b (h : K.heap.size ≤ b) (q : Below K.heap.size K w) : Below K.heap.size K w1 := by rw [hw]; exact ((q.setCell h u).setCell h v).setCell h t
theorem s3w {x y z : Value} (h0 : w.cell? ⟨b, 0, none⟩ = some x) (h1 : w.cell? ⟨b, 1, none⟩ = some y) (h2 : w.cell? ⟨b, 2, none⟩ = some z) : w1.cell? ⟨b, 0, none⟩ = some u ∧ w1.cell? ⟨b, 1, none⟩ = some v ∧ w1.cell? ⟨b, 2, none⟩ = some t := by
  rw [hw]; exact (box3_sets h0 h1 h2 u v t).2.2
end
end
def IsRep2 (v : Value) (_ : World) : Prop := ∃ (o : Bool) (a b : Int) (o2 : Bool) (a2 b2 : Int), v = .tuple #[.agg #[.bool o, .int .i64 a, .int .i64 b], .agg #[.bool o2, .int .i64 a2, .int .i64 b2]]

def DrawsPB (w : World) (e : Ending) (w' : World) : Prop := ∃ (x y : Int) (o : Bool), e = .returned (.tuple #[.agg #[.int .i64 x, .int .i64 y], .bool o]) ∧ (-1 ≤ x ∧ x ≤ 9900) ∧ (-1 ≤ y ∧ y ≤ 9900) ∧ Below w.heap.size w w'
def DrawsRR (w : World) (e : Ending) (w' : World) : Prop := ∃ (o : Bool) (a b : Int) (o2 : Bool) (a2 b2 : Int), e = .returned (.tuple #[.agg #[.bool o, .int .i64 a, .int .i64 b], .agg #[.bool o2, .int .i64 a2, .int .i64 b2]]) ∧ Below w.heap.size w w'
def DrawsRRI (w : World) (e : Ending) (w' : World) : Prop := ∃ (o : Bool) (a b : Int) (o2 : Bool) (a2 b2 n : Int), e = .returned (.tuple #[.agg #[.bool o, .int .i64 a, .int .i64 b], .agg #[.bool o2, .int .i64 a2, .int .i64 b2], .int .i64 n]) ∧ Below w.heap.size w w'
end Go.Proofs.Ytpabfkodlgglcaa
