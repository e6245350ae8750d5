/- Arguments that are slices of points or of numbers: what they read as. -/
import Derived.Test.YtnocgcfepkdjeaaSl
namespace Go.Proofs.Ytnocgcfepkdjeaa
open Go.RowKit Go.WideShapes Go.ChangeShapes Go.ChangeAt Go.Joins Go.Deep

section
variable {H : Type} {enc : TypeId × Value → H} {P : Program} {w : World} {base : Nat} {spare : Nat → Bool} {held : Bool}
/-- A slice whose elements are structs of one-cell fields. -/
theorem open_slice_fields {t e : TypeId} {fs : Array Field} {fuel : Nat} {cs : List Value} {x : DataW H × List MemPlace} (ht : P.underlying t = some (.slice e)) (he : P.underlying e = some (.struct fs))
    (hone : oneCellFields P fs = true) (hC : P.cellsOf e = fs.size) (h : DataW.trod enc P w base spare held fuel t cs = some x) :
    (cs = [.slice none 0 0] ∧ x = (.nil, [])) ∨
    ∃ (a : Addr) (len cap : Nat), cs = [.slice (some a) len cap] ∧ len ≤ cap ∧ cap ≤ maxLen ∧
      ∀ i, i < len → ∃ (ys : List (DataW H × List MemPlace)) (n : Nat), ys.length = fs.size ∧
        ∀ (j : Nat) (f : Field), fs[j]? = some f → ∃ (v : Value) (y : DataW H × List MemPlace), w.cell? (a.add (i * fs.size + j)) = some v ∧ ys[j]? = some y ∧ DataW.trod enc P w base spare held n f.type [v] = some y := by
  rcases open_slice ht h with h0 | ⟨a, len, cap, m, n, D, Pl, hcs, hb, hl, hm, hmm, hx, hi⟩
  · exact .inl h0
  · refine .inr ⟨a, len, cap, hcs, hl, hm, fun i hil => ?_⟩
    have him : i < m := by rw [hmm]; split <;> omega
    obtain ⟨cs', hc, ht'⟩ := hi i him
    rw [hC] at hc
    obtain ⟨ys, n', hn', hy, hlen, hyl, hf⟩ := DataW.trod_struct he ht'
    obtain ⟨_, hcl, hat⟩ := World.cells?_some hc
    refine ⟨ys, n', hyl, fun j f hj => ?_⟩
    obtain ⟨ho, hk⟩ := hone_of hone j f hj
    have hjl : j < fs.size := (Array.getElem?_eq_some_iff.1 hj).1
    have hcell := hat j hjl
    have hv : cs'[j]? = some (cs'[j]'(by omega)) := List.getElem?_eq_getElem (by omega)
    have h1 := hf j f hj
    rw [ho, hk] at h1
    have hone' : (cs'.drop j).take 1 = [cs'[j]'(by omega)] := by
      rw [List.drop_eq_getElem_cons (by omega)]
      rfl
    rw [hone'] at h1
    have hys : ys[j]? = some (ys[j]'(by omega)) := List.getElem?_eq_getElem (by omega)
    refine ⟨_, _, ?_, hys, h1.trans hys⟩
    rw [← Go.Deep.add_add, hcell, hv]
theorem list_of {α : Type} {n : Nat} {p : Nat → α → Prop} (h : ∀ i, i < n → ∃ x, p i x) (d : α) : ∃ l : List α, l.length = n ∧ ∀ i, i < n → p i (l.getD i d) := by
  induction n with
  | zero => exact ⟨[], rfl, fun i hi => absurd hi (by omega)⟩
  | succ n ih =>
    obtain ⟨l, hl, hp⟩ := ih fun i hi => h i (by omega)
    obtain ⟨x, hx⟩ := h n (by omega)
    refine ⟨l ++ [x], by simp [hl], fun i hi => ?_⟩
    by_cases hin : i < n
    · have := hp i hin
      simpa [List.getD, List.getElem?_append_left (show i < l.length by omega)] using this
    · obtain rfl : i = n := by omega
      simpa [List.getD, ← hl] using hx
theorem reads_mk {size n : Nat} {a : Addr} {xs : List Value} (hl : xs.length = n * size) (hc : ∀ j u, xs[j]? = some u → w.cell? (a.add j) = some u) (hz : size ≠ 0) : Reads w w.heap.size size (some a) n xs :=
  ⟨hl, fun hn => by
    refine ⟨a, rfl, ?_, hc⟩
    have h0 : 0 < xs.length := by rw [hl]; exact Nat.mul_pos hn (by omega)
    have h1 := hc 0 _ (List.getElem?_eq_getElem h0)
    have h2 := World.block_lt_of_cell? w _ h1
    rwa [block_of_add] at h2⟩
/-- A slice of structs of two ints. -/
theorem open_pts {t e : TypeId} {f0 f1 : Field} {v : Value} {d : DataW H} {p : List MemPlace} {r : Reach} {b0 : Nat} (ht : P.underlying t = some (.slice e)) (he : P.underlying e = some (.struct #[f0, f1])) (hone : oneCellFields P #[f0, f1] = true) (hC : P.cellsOf e = 2)
    (h0 : P.underlying f0.type = some (.int .i64)) (h1 : P.underlying f1.type = some (.int .i64)) (hv : Value.okWide P w r b0 t v) (h : DataW.Trod enc P w base spare held t v d p) :
    ∃ (A : Option Addr) (c : Nat) (l : List Pt), v = .slice A l.length c ∧ Reads w w.heap.size 2 A l.length (flat l) ∧ l.length ≤ c ∧ c ≤ 9223372036854775807 := by
  obtain ⟨fuel, hf⟩ := h
  have hvc : v.cells.toList = [v] := by
    obtain ⟨a, n, c, rfl, _⟩ := okWide_slice ht hv
    rfl
  rw [hvc] at hf
  rcases open_slice_fields ht he hone hC hf with ⟨h2, _⟩ | ⟨a, len, cap, h2, hl, hm, hi⟩
  · injection h2 with h2 _
    exact ⟨none, 0, [], by rw [h2]; rfl, Reads.none_, by simp, by omega⟩
  · injection h2 with h2 _
    have hx : ∀ i, i < len → ∃ q : Pt, w.cell? (a.add (i * 2)) = some (.int .i64 q.1) ∧ w.cell? (a.add (i * 2 + 1)) = some (.int .i64 q.2) := by
      intro i hil
      obtain ⟨ys, n, hy, hj⟩ := hi i hil
      obtain ⟨v0, y0, c0, _, t0⟩ := hj 0 f0 rfl
      obtain ⟨v1, y1, c1, _, t1⟩ := hj 1 f1 rfl
      obtain ⟨x, k0, _, _⟩ := DataW.trod_int h0 t0
      obtain ⟨y, k1, _, _⟩ := DataW.trod_int h1 t1
      simp at k0 k1
      subst k0 k1
      exact ⟨(x, y), c0, c1⟩
    obtain ⟨l, hll, hp⟩ := list_of hx (0, 0)
    refine ⟨some a, cap, l, by rw [h2, hll], ?_, by omega, hm⟩
    refine reads_mk (by rw [flat_len]) (fun j u hj => ?_) (by omega)
    have hjl : j < l.length * 2 := by have := (List.getElem?_eq_some_iff.1 hj).1; rwa [flat_len] at this
    have hat := flat_at l (j / 2) (by omega)
    have hpp := hp (j / 2) (by omega)
    have h2 : j % 2 = 0 ∨ j % 2 = 1 := by omega
    rcases h2 with h2 | h2
    · have ej : j / 2 * 2 = j := by omega
      rw [ej] at hat hpp
      rw [hat.1] at hj
      injection hj with hj
      subst hj
      exact hpp.1
    · have ej : j / 2 * 2 + 1 = j := by omega
      rw [ej] at hat hpp
      rw [hat.2] at hj
      injection hj with hj
      subst hj
      exact hpp.2
/-- A slice of ints. -/
theorem open_nums {t e : TypeId} {v : Value} {d : DataW H} {p : List MemPlace} {r : Reach} {b0 : Nat} (ht : P.underlying t = some (.slice e)) (he : P.underlying e = some (.int .i64)) (hC : P.cellsOf e = 1) (hv : Value.okWide P w r b0 t v) (h : DataW.Trod enc P w base spare held t v d p) :
    ∃ (A : Option Addr) (c : Nat) (a : List Int), v = .slice A a.length c ∧ Reads w w.heap.size 1 A a.length (ints a) ∧ a.length ≤ c ∧ c ≤ 9223372036854775807 := by
  obtain ⟨fuel, hf⟩ := h
  have hvc : v.cells.toList = [v] := by
    obtain ⟨a, n, c, rfl, _⟩ := okWide_slice ht hv
    rfl
  rw [hvc] at hf
  rcases open_slice ht hf with ⟨h2, _⟩ | ⟨a, len, cap, m, n, D, Pl, h2, hb, hl, hm, hmm, hx, hi⟩
  · injection h2 with h2 _
    exact ⟨none, 0, [], by rw [h2]; rfl, Reads.none_, by simp, by omega⟩
  · injection h2 with h2 _
    have hx : ∀ i, i < len → ∃ q : Int, w.cell? (a.add i) = some (.int .i64 q) := by
      intro i hil
      have him : i < m := by rw [hmm]; split <;> omega
      obtain ⟨cs', hc, ht'⟩ := hi i him
      rw [hC] at hc
      obtain ⟨_, hcl, hat⟩ := World.cells?_some hc
      rw [Nat.mul_one] at hat
      match cs', hcl with
      | [u], _ =>
        obtain ⟨x, k0, _, _⟩ := DataW.trod_int he ht'
        simp at k0
        subst k0
        have := hat 0 (by omega)
        exact ⟨x, by simpa [Addr.add] using this⟩
    obtain ⟨l, hll, hp⟩ := list_of hx 0
    refine ⟨some a, cap, l, by rw [h2, hll], ?_, by omega, hm⟩
    refine reads_mk (by rw [ints_len]; omega) (fun j u hj => ?_) (by omega)
    have hjl : j < l.length := by have := (List.getElem?_eq_some_iff.1 hj).1; rwa [ints_len] at this
    have hat := ints_at l j hjl
    rw [hat] at hj
    injection hj with hj
    subst hj
    exact hp j (by omega)
end
end Go.Proofs.Ytnocgcfepkdjeaa
