/- The program's SendTimes returns what the reference's returns, for all arguments. No conditions. -/
import Derived.Test.YtammpdoobbcboaaRowsA
import Derived.Test.YtammpdoobbcboaaSiP
import Derived.Test.YtammpdoobbcboaaSlOpen
namespace Go.Proofs.Ytammpdoobbcboaa
open Go.RowKit Go.WideShapes Go.ChangeShapes Go.ChangeAt Go.Joins Go.Deep
set_option maxRecDepth 100000 in
theorem fnExactSendTimes_holds : Rows.FnExactSendTimesSaid :=
  OpenClaim.holds_of_wide 12 Try.f12 rfl rfl rfl rfl rfl rfl rfl ⟨rfl, rfl, rfl, rfl, rfl⟩ rfl rfl rfl rfl rfl (by kernel_rfl) Try.func12 (by kernel_rfl)
    (of_decide_eq_true (by kernel_rfl)) (by unfold Func.isWrapper; rw [if_neg (by decide +kernel)]; exact ⟨rfl, rfl⟩)
    (fun os started H enc _ => law_lift (C := Try.checked) (s := Rows.fnExactSendTimesSpec) (tb := 4) Try.laidOut Try.own started (by kernel_rfl) Try.func12
      (ChangeSpec.witness6 (enc := enc) (C := Try.checked) false ⟨#[], #[.slice none 0 0, .agg #[.int .i64 0, .int .i64 0], .slice none 0 0], []⟩ 8 (by kernel_rfl) (by kernel_rfl) (by kernel_rfl) (by kernel_rfl))
      rfl rfl Try.underlying4 (by intro t ht; simp [Try.params12] at ht; rcases ht with rfl | rfl | rfl <;> exact ⟨by kernel_rfl, of_decide_eq_true (by kernel_rfl)⟩)
      (by intro ds hl; match ds, hl with | [d0, d1, d2], _ => rfl)
      (by
        intro W base args ds ps hval hA hlt hsz
        rw [Try.params12] at hA hval hsz
        obtain ⟨v0, v1, v2, d0, d1, d2, p0, p1, p2, rfl, rfl, rfl, h0, h1, h2⟩ := trodAll_three hA
        obtain ⟨A0, c0, l0, rfl, r0, q0, m0⟩ := open_pts Try.underlying29 Try.underlying23 (by kernel_rfl) (by kernel_rfl) Try.underlying3 Try.underlying3 (hval 0 29 v0 rfl rfl) h0
        obtain ⟨x1, y1, rfl, bx1, by1⟩ := open_two Try.underlying23 (by kernel_rfl) (by kernel_rfl) Try.underlying3 Try.underlying3 (hval 1 23 v1 rfl rfl) h1
        obtain ⟨A2, c2, l2, rfl, r2, q2, m2⟩ := open_nums Try.underlying40 Try.underlying3 (by kernel_rfl) (hval 2 40 v2 rfl rfl) h2
        exact fnSendTimes A0 c0 l0 x1 y1 A2 c2 l2 W (hide r0) (by omega) (hide r2)))
#print axioms fnExactSendTimes_holds
end Go.Proofs.Ytammpdoobbcboaa
