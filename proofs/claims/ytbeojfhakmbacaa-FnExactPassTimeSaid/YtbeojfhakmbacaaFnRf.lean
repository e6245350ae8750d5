/- The program's PassTime returns what the reference's returns, for all arguments. No conditions. -/
import Derived.Test.YtbeojfhakmbacaaRowsA
import Derived.Test.YtbeojfhakmbacaaReX
import Derived.Test.YtbeojfhakmbacaaReOpen
namespace Go.Proofs.Ytbeojfhakmbacaa
open Go.RowKit Go.WideShapes Go.ChangeShapes Go.ChangeAt Go.Joins Go.Deep
set_option maxRecDepth 100000 in
theorem fnExactPassTime_holds : Rows.FnExactPassTimeSaid :=
  OpenClaim.holds_of_wide 8 Try.f8 rfl rfl rfl rfl rfl rfl rfl ⟨rfl, rfl, rfl, rfl, rfl⟩ rfl rfl rfl rfl rfl (by kernel_rfl) Try.func8 (by kernel_rfl)
    (of_decide_eq_true (by kernel_rfl)) (by unfold Func.isWrapper; rw [if_neg (by decide +kernel)]; exact ⟨rfl, rfl⟩)
    (fun os started H enc _ => law_lift (C := Try.checked) (s := Rows.fnExactPassTimeSpec) (tb := 4) Try.laidOut Try.own started (by kernel_rfl) Try.func8
      (ChangeSpec.witness6 (enc := enc) (C := Try.checked) false ⟨#[], #[.agg #[.int .i64 0, .slice none 0 0], .int .i64 0], []⟩ 8 (by kernel_rfl) (by kernel_rfl) (by kernel_rfl) (by kernel_rfl))
      rfl rfl Try.underlying4 (by intro t ht; simp [Try.params8] at ht; rcases ht with rfl | rfl <;> exact ⟨by kernel_rfl, of_decide_eq_true (by kernel_rfl)⟩)
      (by intro ds hl; match ds, hl with | [d0, d1], _ => rfl)
      (by
        intro W base args ds ps hval hA hlt hsz
        rw [Try.params8] at hA hval hsz
        obtain ⟨v0, v1, d0, d1, p0, p1, rfl, rfl, rfl, h0, h1⟩ := trodAll_two hA
        obtain ⟨m0, A0, c0, l0, rfl, r0, bm0, q0, p0⟩ := open_recv (hval 0 59 v0 rfl rfl) h0
        obtain ⟨x1, rfl, bx1⟩ := open_one Try.underlying3 (hval 1 3 v1 rfl rfl) h1
        exact fnPassTime m0 A0 c0 l0 x1 W (hide r0) (by omega)))
#print axioms fnExactPassTime_holds
end Go.Proofs.Ytbeojfhakmbacaa
