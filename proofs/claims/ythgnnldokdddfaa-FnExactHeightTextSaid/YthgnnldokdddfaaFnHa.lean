/- The program's HeightText returns what the reference's returns, for all arguments. No conditions. -/
import Derived.Test.YthgnnldokdddfaaRowsA
import Derived.Test.YthgnnldokdddfaaHeA
namespace Go.Proofs.Ythgnnldokdddfaa
open Go.RowKit Go.WideShapes Go.ChangeShapes Go.ChangeAt Go.Joins Go.Deep
set_option maxRecDepth 100000 in
theorem fnExactHeightText_holds : Rows.FnExactHeightTextSaid :=
  OpenClaim.holds_of_wide 3 Try.f3 rfl rfl rfl rfl rfl rfl rfl ⟨rfl, rfl, rfl, rfl, rfl⟩ rfl rfl rfl rfl rfl (by kernel_rfl) Try.func3 (by kernel_rfl)
    (of_decide_eq_true (by kernel_rfl)) (by unfold Func.isWrapper; rw [if_neg (by decide +kernel)]; exact ⟨rfl, rfl⟩)
    (fun os started H enc _ => law_lift (C := Try.checked) (s := Rows.fnExactHeightTextSpec) (tb := 4) Try.laidOut Try.own started (by kernel_rfl) Try.func3
      (ChangeSpec.witness6 (enc := enc) (C := Try.checked) false ⟨#[], #[.int .i64 0], []⟩ 8 (by kernel_rfl) (by kernel_rfl) (by kernel_rfl) (by kernel_rfl))
      rfl rfl Try.underlying4 (by intro t ht; simp [Try.params3] at ht; subst ht; exact ⟨by kernel_rfl, of_decide_eq_true (by kernel_rfl)⟩)
      (by intro ds hl; match ds, hl with | [d0], _ => rfl)
      (by
        intro W base args ds ps hval hA hlt hsz
        rw [Try.params3] at hA hval hsz
        obtain ⟨v0, d0, rfl, rfl, h0⟩ := trodAll_one hA
        obtain ⟨x0, rfl, bx0⟩ := open_one Try.underlying3 (hval 0 3 v0 rfl rfl) h0
        exact fnHeightText x0 W))
#print axioms fnExactHeightText_holds
end Go.Proofs.Ythgnnldokdddfaa
