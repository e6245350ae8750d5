/- Three cells set. -/
import Derived.Test.YtbeojfhakmbacaaCurMath
namespace Go.Proofs.Ytbeojfhakmbacaa
open Go.RowKit

theorem box3_sets {w : World} {g : Nat} {x y z : Value} (h0 : w.cell? ⟨g, 0, none⟩ = some x) (h1 : w.cell? ⟨g, 1, none⟩ = some y) (h2 : w.cell? ⟨g, 2, none⟩ = some z) (u v t : Value) :
    (w.setCell ⟨g, 0, none⟩ u).cell? ⟨g, 1, none⟩ = some y ∧ ((w.setCell ⟨g, 0, none⟩ u).setCell ⟨g, 1, none⟩ v).cell? ⟨g, 2, none⟩ = some z ∧
    (((w.setCell ⟨g, 0, none⟩ u).setCell ⟨g, 1, none⟩ v).setCell ⟨g, 2, none⟩ t).cell? ⟨g, 0, none⟩ = some u ∧ (((w.setCell ⟨g, 0, none⟩ u).setCell ⟨g, 1, none⟩ v).setCell ⟨g, 2, none⟩ t).cell? ⟨g, 1, none⟩ = some v ∧ (((w.setCell ⟨g, 0, none⟩ u).setCell ⟨g, 1, none⟩ v).setCell ⟨g, 2, none⟩ t).cell? ⟨g, 2, none⟩ = some t := by
  obtain ⟨_, e1, e2, e3⟩ := box2_sets h0 h1 u v
  have e4 : ((w.setCell ⟨g, 0, none⟩ u).setCell ⟨g, 1, none⟩ v).cell? ⟨g, 2, none⟩ = some z := by rw [World.cell?_setCell_other _ _ _ _ (by simp), World.cell?_setCell_other _ _ _ _ (by simp)]; exact h2
  exact ⟨e1, e4, by rw [World.cell?_setCell_other _ _ _ _ (by simp)]; exact e2, by rw [World.cell?_setCell_other _ _ _ _ (by simp)]; exact e3, World.cell?_setCell_same _ _ _ e4⟩
theorem box3_other {w : World} {g b : Nat} (h : b ≠ g) (u v t : Value) (k : Nat) : (((w.setCell ⟨g, 0, none⟩ u).setCell ⟨g, 1, none⟩ v).setCell ⟨g, 2, none⟩ t).cell? ⟨b, k, none⟩ = w.cell? ⟨b, k, none⟩ := by
  rw [World.cell?_setCell_other _ _ _ _ (by simp [h])]; exact box2_other h u v k
end Go.Proofs.Ytbeojfhakmbacaa
