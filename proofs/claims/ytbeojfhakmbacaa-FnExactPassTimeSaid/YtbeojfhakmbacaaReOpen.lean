/- A receiver as an argument: what it reads as. -/
import Derived.Test.YtbeojfhakmbacaaReMath
import Derived.Test.YtbeojfhakmbacaaSlOpen
import Derived.Test.YtbeojfhakmbacaaBase
import Derived.Test.YtbeojfhakmbacaaProg
namespace Go.Proofs.Ytbeojfhakmbacaa
open Go.RowKit Go.WideShapes Go.ChangeShapes Go.ChangeAt Go.Joins Go.Deep
section
variable {H : Type} {enc : TypeId × Value → H} {w : World} {base : Nat} {spare : Nat → Bool} {held : Bool}
theorem cI : Try.prog.cellsOf 3 = 1 := by kernel_rfl
theorem cB : Try.prog.cellsOf 4 = 1 := by kernel_rfl
theorem cR : Try.prog.cellsOf 127 = 3 := by kernel_rfl
theorem cH : Try.prog.cellsOf 129 = 10 := by kernel_rfl
theorem len1 {α : Type} {l : List α} (h : l.length = 1) : ∃ a, l = [a] := by match l, h with | [a], _ => exact ⟨a, rfl⟩
set_option maxRecDepth 100000 in
theorem rp_of {fuel : Nat} {cs : List Value} {x : DataW H × List MemPlace} (h : DataW.trod enc Try.prog w base spare held fuel 127 cs = some x) : ∃ q : Rp, cs = [.bool q.1, .int .i64 q.2.1, .int .i64 q.2.2] := by
  obtain ⟨xs, n, _, _, hl, hx, hf⟩ := DataW.trod_struct Try.underlying127 h
  rw [cR] at hl
  match cs, hl with
  | [c0, c1, c2], _ =>
    match xs, hx with
    | [x0, x1, x2], _ =>
      have h0 : DataW.trod enc Try.prog w base spare held n 4 (([c0, c1, c2].drop 0).take (Try.prog.cellsOf 4)) = [x0, x1, x2][0]? := hf 0 _ rfl
      rw [cB] at h0
      have h1 : DataW.trod enc Try.prog w base spare held n 3 (([c0, c1, c2].drop 1).take (Try.prog.cellsOf 3)) = [x0, x1, x2][1]? := hf 1 _ rfl
      rw [cI] at h1
      have h2 : DataW.trod enc Try.prog w base spare held n 3 (([c0, c1, c2].drop 2).take (Try.prog.cellsOf 3)) = [x0, x1, x2][2]? := hf 2 _ rfl
      rw [cI] at h2
      obtain ⟨o, k0, _⟩ := DataW.trod_bool Try.underlying4 h0
      obtain ⟨a, k1, _, _⟩ := DataW.trod_int Try.underlying3 h1
      obtain ⟨b, k2, _, _⟩ := DataW.trod_int Try.underlying3 h2
      simp at k0 k1 k2
      exact ⟨(o, a, b), by rw [k0, k1, k2]⟩
set_option maxRecDepth 100000 in
theorem hd_of {fuel : Nat} {cs : List Value} {x : DataW H × List MemPlace} (h : DataW.trod enc Try.prog w base spare held fuel 129 cs = some x) : ∃ q : Hd, cs = hdc q := by
  obtain ⟨xs, n, _, _, hl, hx, hf⟩ := DataW.trod_struct Try.underlying129 h
  rw [cH] at hl
  match cs, hl with
  | [c0, c1, c2, c3, c4, c5, c6, c7, c8, c9], _ =>
    match xs, hx with
    | [x0, x1, x2, x3, x4, x5], _ =>
      have h0 : DataW.trod enc Try.prog w base spare held n 3 (([c0, c1, c2, c3, c4, c5, c6, c7, c8, c9].drop 0).take (Try.prog.cellsOf 3)) = [x0, x1, x2, x3, x4, x5][0]? := hf 0 _ rfl
      rw [cI] at h0
      have h1 : DataW.trod enc Try.prog w base spare held n 127 (([c0, c1, c2, c3, c4, c5, c6, c7, c8, c9].drop 1).take (Try.prog.cellsOf 127)) = [x0, x1, x2, x3, x4, x5][1]? := hf 1 _ rfl
      rw [cR] at h1
      have h2 : DataW.trod enc Try.prog w base spare held n 3 (([c0, c1, c2, c3, c4, c5, c6, c7, c8, c9].drop 4).take (Try.prog.cellsOf 3)) = [x0, x1, x2, x3, x4, x5][2]? := hf 2 _ rfl
      rw [cI] at h2
      have h3 : DataW.trod enc Try.prog w base spare held n 127 (([c0, c1, c2, c3, c4, c5, c6, c7, c8, c9].drop 5).take (Try.prog.cellsOf 127)) = [x0, x1, x2, x3, x4, x5][3]? := hf 3 _ rfl
      rw [cR] at h3
      have h4 : DataW.trod enc Try.prog w base spare held n 3 (([c0, c1, c2, c3, c4, c5, c6, c7, c8, c9].drop 8).take (Try.prog.cellsOf 3)) = [x0, x1, x2, x3, x4, x5][4]? := hf 4 _ rfl
      rw [cI] at h4
      have h5 : DataW.trod enc Try.prog w base spare held n 3 (([c0, c1, c2, c3, c4, c5, c6, c7, c8, c9].drop 9).take (Try.prog.cellsOf 3)) = [x0, x1, x2, x3, x4, x5][5]? := hf 5 _ rfl
      rw [cI] at h5
      obtain ⟨a, k0, _, _⟩ := DataW.trod_int Try.underlying3 h0
      obtain ⟨q1, k1⟩ := rp_of h1
      obtain ⟨b, k2, _, _⟩ := DataW.trod_int Try.underlying3 h2
      obtain ⟨q2, k3⟩ := rp_of h3
      obtain ⟨c, k4, _, _⟩ := DataW.trod_int Try.underlying3 h4
      obtain ⟨d, k5, _, _⟩ := DataW.trod_int Try.underlying3 h5
      simp at k0 k1 k2 k3 k4 k5
      refine ⟨(a, q1, b, q2, c, d), ?_⟩
      rw [k0, k1.1, k1.2.1, k1.2.2, k2, k3.1, k3.2.1, k3.2.2, k4, k5]
      rfl
set_option maxRecDepth 100000 in
theorem open_recv {v : Value} {d : DataW H} {p : List MemPlace} {r : Reach} {b0 : Nat} (hv : Value.okWide Try.prog w r b0 59 v) (h : DataW.Trod enc Try.prog w base spare held 59 v d p) :
    ∃ (m : Int) (A : Option Addr) (c : Nat) (l : List Hd), v = .agg #[.int .i64 m, .slice A l.length c] ∧ Reads w w.heap.size 10 A l.length (hds l) ∧ (-9223372036854775808 ≤ m ∧ m ≤ 9223372036854775807) ∧ l.length ≤ c ∧ c ≤ 9223372036854775807 := by
  obtain ⟨v0, v1, y0, y1, n, rfl, _, _, e0, e1⟩ := open_agg2 Try.underlying59 (by kernel_rfl) (by kernel_rfl) hv h
  obtain ⟨m, k0, _, w0⟩ := DataW.trod_int Try.underlying3 e0
  simp at k0
  subst k0
  rcases open_slice Try.underlying57 e1 with ⟨h2, _⟩ | ⟨a, len, cap, k, n', D, Pl, h2, hb, hl, hm, hmm, hx, hi⟩
  · injection h2 with h2 _
    exact ⟨m, none, 0, [], by rw [h2]; rfl, Reads.none_, i64_of_wf w0, by simp, by omega⟩
  · injection h2 with h2 _
    have hx : ∀ i, i < len → ∃ q : Hd, ∀ j u, j < 10 → (hdc q)[j]? = some u → w.cell? (a.add (i * 10 + j)) = some u := by
      intro i hil
      have him : i < k := by rw [hmm]; split <;> omega
      obtain ⟨cs', hc, ht'⟩ := hi i him
      rw [cH] at hc
      obtain ⟨q, rfl⟩ := hd_of ht'
      obtain ⟨_, hcl, hat⟩ := World.cells?_some hc
      refine ⟨q, fun j u hj hu => ?_⟩
      have h3 := hat j hj
      rw [Go.Deep.add_add] at h3
      rw [h3]; exact hu
    obtain ⟨l, hll, hp⟩ := list_of hx nHd
    refine ⟨m, some a, cap, l, by rw [h2, hll], ?_, i64_of_wf w0, by omega, hm⟩
    refine reads_mk (by rw [hds_len]) (fun j u hj => ?_) (by omega)
    have hjl : j < l.length * 10 := by have := (List.getElem?_eq_some_iff.1 hj).1; rwa [hds_len] at this
    have h3 := hds_at l (j / 10) (j % 10) (by omega) (by omega)
    have ej : j / 10 * 10 + j % 10 = j := by omega
    rw [ej, hj] at h3
    have h4 := hp (j / 10) (by omega) (j % 10) u (by omega) h3.symm
    rwa [ej] at h4
end
end Go.Proofs.Ytbeojfhakmbacaa
