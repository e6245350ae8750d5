/- The program's DecodeMoved returns what the reference's returns, for all arguments. No conditions. -/
import Derived.Test.YtpabfkodlgglcaaRowsA
import Derived.Test.YtpabfkodlgglcaaMvE
namespace Go.Proofs.Ytpabfkodlgglcaa
open Go.RowKit Go.WideShapes Go.ChangeShapes Go.ChangeAt Go.Joins Go.Deep
set_option maxRecDepth 100000 in
theorem fnExactDecodeMoved_holds : Rows.FnExactDecodeMovedSaid :=
  OpenClaim.holds_of_wide 12 Try.f12 rfl rfl rfl rfl rfl rfl rfl ⟨rfl, rfl, rfl, rfl, rfl⟩ rfl rfl rfl rfl rfl (by kernel_rfl) Try.func12 (by kernel_rfl)
    (of_decide_eq_true (by kernel_rfl)) (by unfold Func.isWrapper; rw [if_neg (by decide +kernel)]; exact ⟨rfl, rfl⟩)
    (fun os started H enc _ => law_lift (C := Try.checked) (s := Rows.fnExactDecodeMovedSpec) (tb := 4) Try.laidOut Try.own started (by kernel_rfl) Try.func12
      (ChangeSpec.witness6 (enc := enc) (C := Try.checked) false ⟨#[], #[.agg #[.bool false, .int .i64 0, .int .i64 0], .agg #[.bool false, .int .i64 0, .int .i64 0], .int .i64 0], []⟩ 8 (by kernel_rfl) (by kernel_rfl) (by kernel_rfl) (by kernel_rfl))
      rfl rfl Try.underlying4 (by intro t ht; simp [Try.params12] at ht; rcases ht with rfl | rfl <;> exact ⟨by kernel_rfl, of_decide_eq_true (by kernel_rfl)⟩)
      (by intro ds hl; match ds, hl with | [d0, d1, d2], _ => rfl)
      (by
        intro W base args ds ps hval hA hlt hsz
        rw [Try.params12] at hA hval hsz
        obtain ⟨v0, v1, v2, d0, d1, d2, p0, p1, p2, rfl, rfl, rfl, h0, h1, h2⟩ := trodAll_three hA
        obtain ⟨o0, x0, y0, rfl, bx0, by0⟩ := open_rep Try.underlying29 (by kernel_rfl) (by kernel_rfl) Try.underlying4 Try.underlying3 Try.underlying3 (hval 0 29 v0 rfl rfl) h0
        obtain ⟨o1, x1, y1, rfl, bx1, by1⟩ := open_rep Try.underlying29 (by kernel_rfl) (by kernel_rfl) Try.underlying4 Try.underlying3 Try.underlying3 (hval 1 29 v1 rfl rfl) h1
        obtain ⟨x2, rfl, bx2⟩ := open_one Try.underlying3 (hval 2 3 v2 rfl rfl) h2
        exact fnDecodeMoved o0 x0 y0 o1 x1 y1 x2 W))
#print axioms fnExactDecodeMoved_holds
end Go.Proofs.Ytpabfkodlgglcaa
