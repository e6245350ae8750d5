/- Lemmas: rows of ten cells. -/
import Derived.Test.YtbeojfhakmbacaaReMathD
import Derived.Test.YtbeojfhakmbacaaReC3
import Derived.Test.YtbeojfhakmbacaaApp
namespace Go.Proofs.Ytbeojfhakmbacaa
open Go.RowKit

theorem own_fre {w w' : World} {base : Nat} {e : TypeId} {size : Nat} {v : Value} {n : Nat} {xs : List Value} (h : w.ownsRow base e size v n xs) (hg : w.grownBy w' v.ownBlock) {b : Nat} (hf : b < w.heap.size ∧ ∀ i, w.frozen? ⟨b, i, none⟩ = false) (hb : b < base) : b < w'.heap.size ∧ ∀ i, w'.frozen? ⟨b, i, none⟩ = false :=
  ⟨Nat.lt_of_lt_of_le hf.1 hg.size, fun i => (hg.frozen_far ⟨b, i, none⟩ hf.1 (fun e => by have h9 := (h.lt _ e.symm).1; have h8 : base ≤ b := h9; omega)).trans (hf.2 i)⟩
theorem news_ten {w : World} {a : Addr} {x0 x1 x2 x3 x4 x5 x6 x7 x8 x9 : Value} (h0 : w.cell? a = some x0) (h1 : w.cell? ⟨a.block, a.off + 1, none⟩ = some x1) (h2 : w.cell? ⟨a.block, a.off + 2, none⟩ = some x2) (h3 : w.cell? ⟨a.block, a.off + 3, none⟩ = some x3) (h4 : w.cell? ⟨a.block, a.off + 4, none⟩ = some x4) (h5 : w.cell? ⟨a.block, a.off + 5, none⟩ = some x5) (h6 : w.cell? ⟨a.block, a.off + 6, none⟩ = some x6) (h7 : w.cell? ⟨a.block, a.off + 7, none⟩ = some x7) (h8 : w.cell? ⟨a.block, a.off + 8, none⟩ = some x8) (h9 : w.cell? ⟨a.block, a.off + 9, none⟩ = some x9) : ∀ j u, [x0, x1, x2, x3, x4, x5, x6, x7, x8, x9][j]? = some u → w.cell? (a.add j) = some u := by
  intro j u hj
  match j, hj with
  | 0, hj => simp at hj; subst hj; simpa [Addr.add] using h0
  | 1, hj => simp at hj; subst hj; simpa [Addr.add] using h1
  | 2, hj => simp at hj; subst hj; simpa [Addr.add] using h2
  | 3, hj => simp at hj; subst hj; simpa [Addr.add] using h3
  | 4, hj => simp at hj; subst hj; simpa [Addr.add] using h4
  | 5, hj => simp at hj; subst hj; simpa [Addr.add] using h5
  | 6, hj => simp at hj; subst hj; simpa [Addr.add] using h6
  | 7, hj => simp at hj; subst hj; simpa [Addr.add] using h7
  | 8, hj => simp at hj; subst hj; simpa [Addr.add] using h8
  | 9, hj => simp at hj; subst hj; simpa [Addr.add] using h9
  | j + 10, hj => simp at hj
theorem one_ten {x0 x1 x2 x3 x4 x5 x6 x7 x8 x9 : Value} (h0 : x0.oneCell' = true) (h1 : x1.oneCell' = true) (h2 : x2.oneCell' = true) (h3 : x3.oneCell' = true) (h4 : x4.oneCell' = true) (h5 : x5.oneCell' = true) (h6 : x6.oneCell' = true) (h7 : x7.oneCell' = true) (h8 : x8.oneCell' = true) (h9 : x9.oneCell' = true) : ∀ u ∈ [x0, x1, x2, x3, x4, x5, x6, x7, x8, x9], u.oneCell' = true := by
  intro u hu
  simp only [List.mem_cons, List.not_mem_nil, or_false] at hu
  rcases hu with rfl | rfl | rfl | rfl | rfl | rfl | rfl | rfl | rfl | rfl <;> assumption
end Go.Proofs.Ytbeojfhakmbacaa
