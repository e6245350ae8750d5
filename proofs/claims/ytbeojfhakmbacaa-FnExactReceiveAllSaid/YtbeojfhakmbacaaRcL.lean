/- Lemmas: rows of what is heard, set. -/
import Derived.Test.YtbeojfhakmbacaaRcMath
import Derived.Test.YtbeojfhakmbacaaReY
import Derived.Test.YtbeojfhakmbacaaReW0
import Derived.Test.YtbeojfhakmbacaaReG
import Derived.Test.YtbeojfhakmbacaaApp
namespace Go.Proofs.Ytbeojfhakmbacaa
open Go.RowKit

theorem sc {w : World} {g i b j : Nat} {u : Value} (v : Value) (h : b ≠ g) (q : w.cell? ⟨b, j, none⟩ = some u) : (w.setCell ⟨g, i, none⟩ v).cell? ⟨b, j, none⟩ = some u := by
  rw [World.cell?_setCell_other _ _ _ _ (by intro e; injection e with e1; exact h e1.symm)]; exact q
theorem sf {w : World} {p : Addr} {b : Nat} (v : Value) (q : b < w.heap.size ∧ ∀ i, w.frozen? ⟨b, i, none⟩ = false) : b < (w.setCell p v).heap.size ∧ ∀ i, (w.setCell p v).frozen? ⟨b, i, none⟩ = false := ⟨by simpa using q.1, fun i => by simpa using q.2 i⟩
theorem hds_one (l : List Hd) : ∀ u ∈ hds l, u.oneCell' = true := by
  intro u hu
  unfold hds at hu
  obtain ⟨h, _, hm⟩ := List.mem_flatMap.1 hu
  simp only [hdc, List.mem_cons, List.not_mem_nil, or_false] at hm
  rcases hm with rfl | rfl | rfl | rfl | rfl | rfl | rfl | rfl | rfl | rfl <;> rfl
theorem reads_nn {w : World} {B sz n : Nat} {A : Option Addr} {xs : List Value} (h : Reads w B sz A n xs) (hA : A = none) : n = 0 := Decidable.byContradiction fun hn => by
  obtain ⟨ad, e, _⟩ := h.2 (by omega)
  rw [hA] at e
  cases e
theorem row_cell {w : World} {base g n c k : Nat} {L : List Hd} (h : w.ownsRow base 42 10 (.slice (some ⟨g, 0, none⟩) n c) n (hds L)) (hn : n = L.length) (hk : k < L.length) {j : Nat} (hj : j < 10) {v : Value} (hv : (hdc (hx L k))[j]? = some v) : w.cell? ⟨g, k * 10 + j, none⟩ = some v := by
  rw [h.cellAt (k * 10 + j) (by omega), hds_at L k j hk hj]; exact hv
theorem hx_set {L : List Hd} {k : Nat} (h : k < L.length) (x : Hd) : hx (L.set k x) k = x := by
  unfold hx; rw [List.getD_eq_getElem?_getD, List.getElem?_set]; simp [h]
theorem ne_cell {w w' : World} {v : Value} (hg : w.grownBy w' v.ownBlock) {a : Addr} {u : Value} (hc : w.cell? a = some u) (ha : v.ownBlock ≠ some a.block) : w'.cell? a = some u := hg.cell hc fun e => ha e.symm
theorem ne_fre {w w' : World} {v : Value} (hg : w.grownBy w' v.ownBlock) {b : Nat} (hf : b < w.heap.size ∧ ∀ i, w.frozen? ⟨b, i, none⟩ = false) (hb : v.ownBlock ≠ some b) : b < w'.heap.size ∧ ∀ i, w'.frozen? ⟨b, i, none⟩ = false :=
  ⟨Nat.lt_of_lt_of_le hf.1 hg.size, fun i => (hg.frozen_far ⟨b, i, none⟩ hf.1 (fun e => hb e.symm)).trans (hf.2 i)⟩
theorem row_ten {w : World} {base g n c k : Nat} {L : List Hd} (h : w.ownsRow base 42 10 (.slice (some ⟨g, 0, none⟩) n c) n (hds L)) (hk : k < L.length) (a : Int) (eo : Bool) (ea eb et : Int) (oo : Bool) (oa ob ot f : Int) :
    ((((((((((w.setCell ⟨g, k * 10, none⟩ (.int .i64 a)).setCell ⟨g, k * 10 + 1, none⟩ (.bool eo)).setCell ⟨g, k * 10 + 2, none⟩ (.int .i64 ea)).setCell ⟨g, k * 10 + 3, none⟩ (.int .i64 eb)).setCell ⟨g, k * 10 + 4, none⟩ (.int .i64 et)).setCell ⟨g, k * 10 + 5, none⟩ (.bool oo)).setCell ⟨g, k * 10 + 6, none⟩ (.int .i64 oa)).setCell ⟨g, k * 10 + 7, none⟩ (.int .i64 ob)).setCell ⟨g, k * 10 + 8, none⟩ (.int .i64 ot)).setCell ⟨g, k * 10 + 9, none⟩ (.int .i64 f)).ownsRow base 42 10 (.slice (some ⟨g, 0, none⟩) n c) n (hds (L.set k (a, (eo, ea, eb), et, (oo, oa, ob), ot, f))) := by
  rw [← set_ten hk]
  exact (((((((((((h.stored _ _).1).stored _ _).1.stored _ _).1.stored _ _).1.stored _ _).1.stored _ _).1.stored _ _).1.stored _ _).1.stored _ _).1.stored _ _).1
def tenW (w : World) (g k : Nat) (h : Hd) : World :=
  (((((((((w.setCell ⟨g, k * 10, none⟩ (.int .i64 h.1)).setCell ⟨g, k * 10 + 1, none⟩ (.bool h.2.1.1)).setCell ⟨g, k * 10 + 2, none⟩ (.int .i64 h.2.1.2.1)).setCell ⟨g, k * 10 + 3, none⟩ (.int .i64 h.2.1.2.2)).setCell ⟨g, k * 10 + 4, none⟩ (.int .i64 h.2.2.1)).setCell ⟨g, k * 10 + 5, none⟩ (.bool h.2.2.2.1.1)).setCell ⟨g, k * 10 + 6, none⟩ (.int .i64 h.2.2.2.1.2.1)).setCell ⟨g, k * 10 + 7, none⟩ (.int .i64 h.2.2.2.1.2.2)).setCell ⟨g, k * 10 + 8, none⟩ (.int .i64 h.2.2.2.2.1)).setCell ⟨g, k * 10 + 9, none⟩ (.int .i64 h.2.2.2.2.2)
theorem ten_row {w : World} {base g n c k : Nat} {L : List Hd} (h : w.ownsRow base 42 10 (.slice (some ⟨g, 0, none⟩) n c) n (hds L)) (hk : k < L.length) (x : Hd) : (tenW w g k x).ownsRow base 42 10 (.slice (some ⟨g, 0, none⟩) n c) n (hds (L.set k x)) :=
  row_ten h hk x.1 x.2.1.1 x.2.1.2.1 x.2.1.2.2 x.2.2.1 x.2.2.2.1.1 x.2.2.2.1.2.1 x.2.2.2.1.2.2 x.2.2.2.2.1 x.2.2.2.2.2
theorem ten_cell {w : World} {g b j : Nat} {u : Value} (k : Nat) (x : Hd) (h : b ≠ g) (q : w.cell? ⟨b, j, none⟩ = some u) : (tenW w g k x).cell? ⟨b, j, none⟩ = some u :=
  sc _ h (sc _ h (sc _ h (sc _ h (sc _ h (sc _ h (sc _ h (sc _ h (sc _ h (sc _ h q)))))))))
theorem ten_fre {w : World} {b : Nat} (g k : Nat) (x : Hd) (q : b < w.heap.size ∧ ∀ i, w.frozen? ⟨b, i, none⟩ = false) : b < (tenW w g k x).heap.size ∧ ∀ i, (tenW w g k x).frozen? ⟨b, i, none⟩ = false :=
  sf _ (sf _ (sf _ (sf _ (sf _ (sf _ (sf _ (sf _ (sf _ (sf _ q)))))))))
theorem ten_below {w a : World} {B g : Nat} (k : Nat) (x : Hd) (h : Below B a w) (hg : B ≤ g) : Below B a (tenW w g k x) :=
  (((((((((h.setCell (p := ⟨g, _, none⟩) hg _).setCell (p := ⟨g, _, none⟩) hg _).setCell (p := ⟨g, _, none⟩) hg _).setCell (p := ⟨g, _, none⟩) hg _).setCell (p := ⟨g, _, none⟩) hg _).setCell (p := ⟨g, _, none⟩) hg _).setCell (p := ⟨g, _, none⟩) hg _).setCell (p := ⟨g, _, none⟩) hg _).setCell (p := ⟨g, _, none⟩) hg _).setCell (p := ⟨g, _, none⟩) hg _
theorem hx_set_ne {L : List Hd} {j i : Nat} (h : j ≠ i) (x : Hd) : hx (L.set j x) i = hx L i := by
  unfold hx; rw [List.getD_eq_getElem?_getD, List.getD_eq_getElem?_getD, List.getElem?_set_ne h]
theorem rcB_f {m : Int} {l : List Hd} {A : Int} (h : okR m l = true) : 0 ≤ (hx (rcB A l) (rcI A l)).2.2.2.2.2 ∧ (hx (rcB A l) (rcI A l)).2.2.2.2.2 ≤ 9999 := by
  unfold rcB
  by_cases hk : rcH A l
  · rw [if_pos hk]
    obtain ⟨⟨a, ⟨eo, ea, eb⟩, et, ⟨oo, oa, ob⟩, ot, f⟩, he⟩ : ∃ q, hx l (rcI A l) = q := ⟨_, rfl⟩
    obtain ⟨_, ⟨u0, u1⟩, _⟩ := okH_bd h hk.1 he
    rw [he]
    exact ⟨by show 0 ≤ f; omega, u1⟩
  · rw [if_neg hk, bub_at (rcI_le A l)]
    exact ⟨by show (0 : Int) ≤ 0; omega, by show (0 : Int) ≤ 9999; omega⟩
theorem ph3 {p : Nat} {W X0 X1 X2 : World} (h : W = (if p = 0 then X0 else if p = 1 then X1 else X2)) : W = X0 ∨ W = X1 ∨ W = X2 := by
  split at h
  · exact .inl h
  · split at h
    · exact .inr (.inl h)
    · exact .inr (.inr h)
theorem hx_of_set {L : List Hd} {k : Nat} {x : Hd} : (L.set k x).length = L.length := List.length_set
end Go.Proofs.Ytbeojfhakmbacaa
