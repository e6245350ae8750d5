/- The program's FittingBox returns what the reference's returns, for all arguments. No conditions. -/
import Derived.Test.YtnocgcfepkdjeaaRowsA
import Derived.Test.YtnocgcfepkdjeaaSbM
import Derived.Test.YtnocgcfepkdjeaaSlOpen
namespace Go.Proofs.Ytnocgcfepkdjeaa
open Go.RowKit Go.WideShapes Go.ChangeShapes Go.ChangeAt Go.Joins Go.Deep
set_option maxRecDepth 100000 in
theorem fnExactFittingBox_holds : Rows.FnExactFittingBoxSaid :=
  OpenClaim.holds_of_wide 8 Try.f8 rfl rfl rfl rfl rfl rfl rfl ⟨rfl, rfl, rfl, rfl, rfl⟩ rfl rfl rfl rfl rfl (by kernel_rfl) Try.func8 (by kernel_rfl)
    (of_decide_eq_true (by kernel_rfl)) (by unfold Func.isWrapper; rw [if_neg (by decide +kernel)]; exact ⟨rfl, rfl⟩)
    (fun os started H enc _ => law_lift (C := Try.checked) (s := Rows.fnExactFittingBoxSpec) (tb := 4) Try.laidOut Try.own started (by kernel_rfl) Try.func8
      (ChangeSpec.witness6 (enc := enc) (C := Try.checked) false ⟨#[], #[.slice none 0 0, .slice none 0 0, .int .i64 0], []⟩ 8 (by kernel_rfl) (by kernel_rfl) (by kernel_rfl) (by kernel_rfl))
      rfl rfl Try.underlying4 (by intro t ht; simp [Try.params8] at ht; rcases ht with rfl | rfl | rfl <;> exact ⟨by kernel_rfl, of_decide_eq_true (by kernel_rfl)⟩)
      (by intro ds hl; match ds, hl with | [d0, d1, d2], _ => rfl)
      (by
        intro W base args ds ps hval hA hlt hsz
        rw [Try.params8] at hA hval hsz
        obtain ⟨v0, v1, v2, d0, d1, d2, p0, p1, p2, rfl, rfl, rfl, h0, h1, h2⟩ := trodAll_three hA
        obtain ⟨A0, c0, l0, rfl, r0, q0, m0⟩ := open_pts Try.underlying22 Try.underlying80 (by kernel_rfl) (by kernel_rfl) Try.underlying3 Try.underlying3 (hval 0 22 v0 rfl rfl) h0
        obtain ⟨A1, c1, l1, rfl, r1, q1, m1⟩ := open_nums Try.underlying30 Try.underlying3 (by kernel_rfl) (hval 1 30 v1 rfl rfl) h1
        obtain ⟨x2, rfl, bx2⟩ := open_one Try.underlying3 (hval 2 3 v2 rfl rfl) h2
        exact fnFittingBox A0 c0 l0 A1 c1 l1 x2 W (hide r0) (by omega) (hide r1)))
#print axioms fnExactFittingBox_holds
end Go.Proofs.Ytnocgcfepkdjeaa
