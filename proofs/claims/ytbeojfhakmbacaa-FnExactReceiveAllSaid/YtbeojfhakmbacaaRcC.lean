/- Contract: a copy of a receiver, by the reference. -/
import Derived.Test.YtbeojfhakmbacaaRcMath
import Derived.Test.YtbeojfhakmbacaaReW0
import Derived.Test.YtbeojfhakmbacaaReG
import Derived.Test.YtbeojfhakmbacaaApp
namespace Go.Proofs.Ytbeojfhakmbacaa
open Go.RowKit

theorem sc2 {w : World} {g i b j : Nat} {u : Value} (v : Value) (h : b ≠ g) (q : w.cell? ⟨b, j, none⟩ = some u) : (w.setCell ⟨g, i, none⟩ v).cell? ⟨b, j, none⟩ = some u := by
  rw [World.cell?_setCell_other _ _ _ _ (by intro e; injection e with e1; exact h e1.symm)]; exact q
theorem sf2 {w : World} {p : Addr} {b : Nat} (v : Value) (q : b < w.heap.size ∧ ∀ i, w.frozen? ⟨b, i, none⟩ = false) : b < (w.setCell p v).heap.size ∧ ∀ i, (w.setCell p v).frozen? ⟨b, i, none⟩ = false := ⟨by simpa using q.1, fun i => by simpa using q.2 i⟩
theorem hds_one2 (l : List Hd) : ∀ u ∈ hds l, u.oneCell' = true := by
  intro u hu
  unfold hds at hu
  obtain ⟨h, _, hm⟩ := List.mem_flatMap.1 hu
  simp only [hdc, List.mem_cons, List.not_mem_nil, or_false] at hm
  rcases hm with rfl | rfl | rfl | rfl | rfl | rfl | rfl | rfl | rfl | rfl <;> rfl
theorem reads_nn2 {w : World} {B sz n : Nat} {A : Option Addr} {xs : List Value} (h : Reads w B sz A n xs) (hA : A = none) : n = 0 := Decidable.byContradiction fun hn => by
  obtain ⟨ad, e, _⟩ := h.2 (by omega)
  rw [hA] at e
  cases e
theorem row_cell2 {w : World} {base g n c k : Nat} {L : List Hd} (h : w.ownsRow base 42 10 (.slice (some ⟨g, 0, none⟩) n c) n (hds L)) (hn : n = L.length) (hk : k < L.length) {j : Nat} (hj : j < 10) {v : Value} (hv : (hdc (hx L k))[j]? = some v) : w.cell? ⟨g, k * 10 + j, none⟩ = some v := by
  rw [h.cellAt (k * 10 + j) (by omega), hds_at L k j hk hj]; exact hv

set_option maxHeartbeats 4000000 in
theorem l9Own_c (m : Int) (A : Option Addr) (c : Nat) (l : List Hd) (t : Int) (w : World) (h1 : Hid (Reads w w.heap.size 10 A l.length (hds l))) (b1 : l.length ≤ 4000000)  : Calls Try.prog 87 #[.agg #[.int .i64 m, .slice A l.length c], .int .i64 t] w (GivesS w 42 10 l.length (hds l) (fun v => .agg #[.int .i64 t, v])) := by
  obtain ⟨i0, hi0, iz0, iy0, ix0⟩ := info_parts infoHd
  go_enter Try.func87, Try.ntmps87
  have hO0 := own_empty (e := 42) (size := 10) (base := w.heap.size + 2) (H := w.heap.size + 2) ((w.alloc (.cells #[.int .i64 m, .slice A l.length c] 26)).alloc (.cells #[.int .i64 0, .slice none 0 0] 26)) (by simp) (by omega)
  go_wp2_with (first | (at_builtin; refine wpList_append_any rfl _ _ 24 rfl (w.heap.size + 2) 42 i0 (hdV nHd) 10 80 Try.underlying24 hi0 iz0 iy0 ix0 rfl (by decide) _ 0 [] rfl hO0 w.heap.size _ l.length _ (hds l) rfl (h1.out.below (by go_grown)) (reads_nn2 h1.out) (hds_one2 l) (by unfold maxLen; omega) (by omega) (by first | (simp; done) | (simp; omega)) ?_; intro A3 c3 w3 hown hgrow; have hT : w3.cell? ⟨w.heap.size + 1, 0, none⟩ = some (.int .i64 0) ∧ w3.cell? ⟨w.heap.size + 1, 1, none⟩ = some (.slice none 0 0) ∧ (w.heap.size + 1 < w3.heap.size ∧ ∀ i, w3.frozen? ⟨w.heap.size + 1, i, none⟩ = false) ∧ Below w.heap.size w w3 := ⟨own_cell hO0 hgrow (by first | (simp [go_sem]; done) | (simp [go_sem, *]; done)) (by first | omega | (simp; done) | (simp; omega)), own_cell hO0 hgrow (by first | (simp [go_sem]; done) | (simp [go_sem, *]; done)) (by first | omega | (simp; done) | (simp; omega)), own_fre hO0 hgrow ⟨by simp, by simp [go_sem]⟩ (by omega), own_grown (a := w) (B := w.heap.size) hO0 hgrow (by go_grown) (by first | omega | (simp; omega)) (by omega)⟩; have hS := hT; clear hT; have hB := hS.2.2.2; have hzw : w.heap.size ≤ w3.heap.size := hB.size; rw [Nat.zero_add, List.nil_append] at hown; rw [Nat.zero_add]))
  refine bodyPost_ret (by simp [results, Try.results87, go_sem, cell_set_some, *]; try rfl) rfl ?_
  refine ⟨A3, c3, rfl, own_mono ?_ (show w.heap.size ≤ w.heap.size + 2 by omega), by go_grown⟩
  repeat (refine own_set ?_ (by first | (simp; done) | (simp; omega)) _)
  exact hown
end Go.Proofs.Ytbeojfhakmbacaa
