/- Slices that a call owns: what a call or an append leaves of them. -/
import Derived.Test.YtpabfkodlgglcaaBase
namespace Go.Proofs.Ytpabfkodlgglcaa
open Go.RowKit
theorem below_grownBy {w w' : World} (h : Below w.heap.size w w') : w.grownBy w' none := ⟨h.os, h.tape, h.output, h.size, fun k hk _ => h.block k hk⟩
theorem own_below {w w' : World} {base : Nat} {e : TypeId} {size : Nat} {v : Value} {n : Nat} {xs : List Value} (h : w.ownsRow base e size v n xs) (hb : Below w.heap.size w w') : w'.ownsRow base e size v n xs :=
  h.kept (below_grownBy hb) (by
    cases hv : v.ownBlock with
    | none => exact Or.inl rfl
    | some k => exact Or.inr (by simp))
theorem own_grown {w w' a : World} {B base : Nat} {e : TypeId} {size : Nat} {v : Value} {n : Nat} {xs : List Value} (h : w.ownsRow base e size v n xs) (hg : w.grownBy w' v.ownBlock) (hb : Below B a w) (hB : B ≤ w.heap.size) (hx : B ≤ base) : Below B a w' :=
  hb.grown hg hB fun k hk => by have := (h.lt k hk).1; omega
theorem own_len {w : World} {base : Nat} {e : TypeId} {v : Value} {n : Nat} {xs : List Value} (h : w.ownsRow base e 1 v n xs) : xs.length = n := by have := h.1; omega
theorem news_one {w : World} {a : Addr} {x : Value} (h : w.cell? a = some x) : ∀ j u, [x][j]? = some u → w.cell? (a.add j) = some u := by
  intro j u hj
  match j, hj with
  | 0, hj => simp at hj; subst hj; simpa [Addr.add] using h
end Go.Proofs.Ytpabfkodlgglcaa
