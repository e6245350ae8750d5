/- Slices that a call owns: what a call or an append leaves of them. -/
import Derived.Test.YtbeojfhakmbacaaBase
namespace Go.Proofs.Ytbeojfhakmbacaa
open Go.RowKit
theorem below_grownBy {w w' : World} (h : Below w.heap.size w w') : w.grownBy w' none := ⟨h.os, h.tape, h.output, h.size, fun k hk _ => h.block k hk⟩
theorem own_below {w w' : World} {base : Nat} {e : TypeId} {size : Nat} {v : Value} {n : Nat} {xs : List Value} (h : w.ownsRow base e size v n xs) (hb : Below w.heap.size w w') : w'.ownsRow base e size v n xs :=
  h.kept (below_grownBy hb) (by
    cases hv : v.ownBlock with
    | none => exact Or.inl rfl
    | some k => exact Or.inr (by simp))
theorem own_cell {w w' : World} {base : Nat} {e : TypeId} {size : Nat} {v : Value} {n : Nat} {xs : List Value} (h : w.ownsRow base e size v n xs) (hg : w.grownBy w' v.ownBlock) {a : Addr} {u : Value} (hc : w.cell? a = some u) (ha : a.block < base) : w'.cell? a = some u :=
  hg.cell hc fun e => by have := (h.lt _ e.symm).1; omega
theorem own_grown {w w' a : World} {B base : Nat} {e : TypeId} {size : Nat} {v : Value} {n : Nat} {xs : List Value} (h : w.ownsRow base e size v n xs) (hg : w.grownBy w' v.ownBlock) (hb : Below B a w) (hB : B ≤ w.heap.size) (hx : B ≤ base) : Below B a w' :=
  hb.grown hg hB fun k hk => by have := (h.lt k hk).1; omega
/-- The head of an owned slice that is not empty. -/
theorem own_head {w : World} {base : Nat} {e : TypeId} {v : Value} {n : Nat} {xs : List Value} (h : w.ownsRow base e 1 v n xs) (hn : n ≠ 0) :
    ∃ g cap, v = .slice (some ⟨g, 0, none⟩) n cap ∧ base ≤ g ∧ g < w.heap.size ∧ ∀ j u, xs[j]? = some u → w.cell? ⟨g, j, none⟩ = some u := by
  have h2 := h
  rcases h.2 with ⟨_, h0⟩ | ⟨g, cap, cur, rfl, hb, _⟩
  · exact absurd h0 hn
  · refine ⟨g, cap, rfl, hb, (h.lt g rfl).2, fun j u hj => ?_⟩
    have h3 := h2.cells (g := g) rfl j u hj
    by_cases hj0 : j = 0
    · subst hj0; simpa [Addr.add] using h3
    · simpa [Addr.add, hj0] using h3
theorem own_len {w : World} {base : Nat} {e : TypeId} {v : Value} {n : Nat} {xs : List Value} (h : w.ownsRow base e 1 v n xs) : xs.length = n := by have := h.1; omega
theorem news_one {w : World} {a : Addr} {x : Value} (h : w.cell? a = some x) : ∀ j u, [x][j]? = some u → w.cell? (a.add j) = some u := by
  intro j u hj
  match j, hj with
  | 0, hj => simp at hj; subst hj; simpa [Addr.add] using h
theorem app_keeps2 {W W' w : World} {base : Nat} {e : TypeId} {v : Value} {n : Nat} {xs : List Value} (hown : W.ownsRow base e 1 v n xs) (hg : W.grownBy W' v.ownBlock) {x y : Value}
    (hS : W.cell? ⟨w.heap.size, 0, none⟩ = some x ∧ W.cell? ⟨w.heap.size, 1, none⟩ = some y ∧ Below w.heap.size w W) (hb : w.heap.size < base) :
    W'.cell? ⟨w.heap.size, 0, none⟩ = some x ∧ W'.cell? ⟨w.heap.size, 1, none⟩ = some y ∧ Below w.heap.size w W' :=
  ⟨own_cell hown hg hS.1 hb, own_cell hown hg hS.2.1 hb, own_grown hown hg hS.2.2 hS.2.2.size (by omega)⟩
theorem empty_app (a : ByteArray) : (⟨#[]⟩ : ByteArray) ++ a = a := by
  cases a; simp [ByteArray.ext_iff]
def byteVal (c : UInt8) : Value := .int .u8 (c.toNat : Int)
/-- A store into the zeros ahead of what is done. -/
theorem set_ahead (q : Nat) (z v : Value) (l : List Value) : (List.replicate (q + 1) z ++ l).set q v = List.replicate q z ++ v :: l := by
  induction q with
  | zero => simp
  | succ q ih => rw [List.replicate_succ, List.cons_append, List.set_cons_succ, ih]; simp [List.replicate_succ]
theorem at_ahead (q : Nat) (z : Value) (l : List Value) : (List.replicate (q + 1) z ++ l)[q]? = some z := by
  rw [List.getElem?_append_left (by simp)]; simp
theorem app_empty (a : ByteArray) : a ++ (⟨#[]⟩ : ByteArray) = a := by
  cases a; simp [ByteArray.ext_iff]
end Go.Proofs.Ytbeojfhakmbacaa
