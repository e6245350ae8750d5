/- Small lemmas behind single steps: what a step leaves of cells. -/
import Derived.Test.YtbeojfhakmbacaaCurMath
import Derived.Test.YtbeojfhakmbacaaOwn
namespace Go.Proofs.Ytbeojfhakmbacaa
open Go.RowKit

theorem ai {p q : Prop} (a : p) (b : q) : p ∧ q := ⟨a, b⟩
theorem ne_some {a b : Nat} (h : a ≠ b) : some a ≠ some b := fun e => h (Option.some.inj e)
theorem kc {w w1 : World} {a : Addr} {u : Value} (hb : Below w.heap.size w w1) (h : w.cell? a = some u) : w1.cell? a = some u := keep_cell hb h
theorem kf {w w1 : World} {b : Nat} (hb : Below w.heap.size w w1) (h : b < w.heap.size) (h2 : ∀ i, w.frozen? ⟨b, i, none⟩ = false) : b < w1.heap.size ∧ ∀ i, w1.frozen? ⟨b, i, none⟩ = false := keep_fre hb ⟨h, h2⟩
theorem gc {w w1 : World} {g b k : Nat} {u : Value} (hg : w.grownBy w1 (some g)) (h : w.cell? ⟨b, k, none⟩ = some u) (hne : b ≠ g) : w1.cell? ⟨b, k, none⟩ = some u := hg.cell h (ne_some hne)
theorem gf {w w1 : World} {g b : Nat} (hg : w.grownBy w1 (some g)) (h : b < w.heap.size) (h2 : ∀ i, w.frozen? ⟨b, i, none⟩ = false) (hne : b ≠ g) : b < w1.heap.size ∧ ∀ i, w1.frozen? ⟨b, i, none⟩ = false := fre_gb ⟨h, h2⟩ hg (ne_some hne)
theorem al2 {w w1 : World} {u v : Value} {e : TypeId} (h : w.alloc (.cells #[u, v] e) = w1) : (w.heap.size < w1.heap.size ∧ ∀ i, w1.frozen? ⟨w.heap.size, i, none⟩ = false) ∧ w1.cell? ⟨w.heap.size, 0, none⟩ = some u ∧ w1.cell? ⟨w.heap.size, 1, none⟩ = some v := by
  rw [← h]
  exact ⟨⟨by simp [go_sem], by simp [go_sem]⟩, by simp [go_sem], by simp [go_sem]⟩
section
variable {w w1 K : World} {b g k : Nat} {u v t : Value} {r : Option Nat}
section
variable (hw : w1 = (w.setCell ⟨b, 0, none⟩ u).setCell ⟨b, 1, none⟩ v)
include hw
theorem s2o {c j : Nat} {x : Value} (h : c ≠ b) (q : w.cell? ⟨c, j, none⟩ = some x) : w1.cell? ⟨c, j, none⟩ = some x := by rw [hw]; exact (box2_other h u v j).trans q
theorem s2f {c : Nat} (h : c < w.heap.size) (h2 : ∀ i, w.frozen? ⟨c, i, none⟩ = false) : c < w1.heap.size ∧ ∀ i, w1.frozen? ⟨c, i, none⟩ = false := by rw [hw]; exact ⟨by simpa using h, fun i => by simpa using h2 i⟩
theorem s2c (h : g < b) (q : Cur w g k) : Cur w1 g k := by rw [hw]; exact Cur.setc (Cur.setc q h u) h v
theorem s2g (h : K.heap.size ≤ b) (q : K.grownBy w r) : K.grownBy w1 r := by rw [hw]; exact gb_seta (gb_seta q h u) h v
theorem s2b (h : K.heap.size ≤ b) (q : Below K.heap.size K w) : Below K.heap.size K w1 := by rw [hw]; exact (q.setCell h u).setCell h v
theorem s2w {x y : Value} (h0 : w.cell? ⟨b, 0, none⟩ = some x) (h1 : w.cell? ⟨b, 1, none⟩ = some y) : w1.cell? ⟨b, 0, none⟩ = some u ∧ w1.cell? ⟨b, 1, none⟩ = some v := by
  rw [hw]; exact (box2_sets h0 h1 u v).2.2
theorem s2r {c : Nat} {base n cp : Nat} {e : TypeId} {sz : Nat} {xs : List Value} (h : c ≠ b) (q : w.ownsRow base e sz (.slice (some ⟨c, 0, none⟩) n cp) n xs) : w1.ownsRow base e sz (.slice (some ⟨c, 0, none⟩) n cp) n xs := by
  rw [hw]; exact q.kept (gb_set (gb_set (gb_refl _ _) 0 u) 1 v) (.inr (ne_some h))
end
end
theorem pa {α : Type _} (l : List α) (i : Nat) (a : α) : l.toArray.setIfInBounds i a = (l.set i a).toArray := List.setIfInBounds_toArray ..
theorem pb {α : Type _} (l : List α) (x y : α) : (x :: l).set 0 y = y :: l := rfl
theorem pc {α : Type _} (l : List α) (x y : α) (n : Nat) : (x :: l).set (n + 1) y = x :: l.set n y := rfl
end Go.Proofs.Ytbeojfhakmbacaa
