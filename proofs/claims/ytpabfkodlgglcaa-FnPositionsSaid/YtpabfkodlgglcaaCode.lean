/- The bytes that a law is given: what they read as. -/
import Derived.Test.YtpabfkodlgglcaaSlOpen
import Derived.Test.YtpabfkodlgglcaaCurMath
namespace Go.Proofs.Ytpabfkodlgglcaa
open Go.RowKit Go.WideShapes Go.ChangeShapes Go.ChangeAt Go.Joins Go.Deep

section
variable {H : Type} {enc : TypeId × Value → H} {P : Program} {w : World} {base : Nat} {spare : Nat → Bool} {held : Bool}
theorem u8_of_wf {x : Int} (h : (Lit.int .u8 x).wf = true) : 0 ≤ x ∧ x ≤ 255 := by
  have h1 : IntKind.u8.min = 0 := rfl
  have h2 : IntKind.u8.max = 255 := rfl
  simp only [Lit.wf, Bool.and_eq_true, decide_eq_true_eq] at h
  omega
theorem open_code {t e : TypeId} {v : Value} {d : DataW H} {p : List MemPlace} {r : Reach} {b0 : Nat} (ht : P.underlying t = some (.slice e)) (he : P.underlying e = some (.int .u8)) (hC : P.cellsOf e = 1) (hv : Value.okWide P w r b0 t v) (h : DataW.Trod enc P w base spare held t v d p) :
    ∃ (A : Option Addr) (n c : Nat), v = .slice A n c ∧ CodeOk w A n := by
  obtain ⟨fuel, hf⟩ := h
  have hvc : v.cells.toList = [v] := by
    obtain ⟨a, n, c, rfl, _⟩ := okWide_slice ht hv
    rfl
  rw [hvc] at hf
  rcases open_slice ht hf with ⟨h2, _⟩ | ⟨a, len, cap, m, n, D, Pl, h2, hb, hl, hm, hmm, hx, hi⟩
  · injection h2 with h2 _
    exact ⟨none, 0, 0, h2, fun hn => absurd hn (by omega)⟩
  · injection h2 with h2 _
    refine ⟨some a, len, cap, h2, fun hn => ⟨a, rfl, ?_, ?_⟩⟩
    · have him : 0 < m := by rw [hmm]; split <;> omega
      obtain ⟨cs', hc, ht'⟩ := hi 0 him
      rw [hC] at hc
      obtain ⟨_, hcl, hat⟩ := World.cells?_some hc
      match cs', hcl with
      | [u], _ =>
        have := hat 0 (by omega)
        have h3 := World.block_lt_of_cell? w _ this
        simpa [block_of_add] using h3
    · intro i hil
      have him : i < m := by rw [hmm]; split <;> omega
      obtain ⟨cs', hc, ht'⟩ := hi i him
      rw [hC] at hc
      obtain ⟨_, hcl, hat⟩ := World.cells?_some hc
      rw [Nat.mul_one] at hat
      match cs', hcl with
      | [u], _ =>
        obtain ⟨x, k0, _, hw⟩ := DataW.trod_int he ht'
        simp at k0
        subst k0
        obtain ⟨b0, b1⟩ := u8_of_wf hw
        have := hat 0 (by omega)
        exact ⟨x, b0, b1, by simpa [Addr.add] using this⟩
end
end Go.Proofs.Ytpabfkodlgglcaa
