/- The program's BlindPoints returns what the reference's returns, for all arguments. No conditions. -/
import Derived.Test.YtnocgcfepkdjeaaRowsA
import Derived.Test.YtnocgcfepkdjeaaBlC
import Derived.Test.YtnocgcfepkdjeaaSlOpen
namespace Go.Proofs.Ytnocgcfepkdjeaa
open Go.RowKit Go.WideShapes Go.ChangeShapes Go.ChangeAt Go.Joins Go.Deep
set_option maxRecDepth 100000 in
theorem fnExactBlindPoints_holds : Rows.FnExactBlindPointsSaid :=
  OpenClaim.holds_of_wide 3 Try.f3 rfl rfl rfl rfl rfl rfl rfl ⟨rfl, rfl, rfl, rfl, rfl⟩ rfl rfl rfl rfl rfl (by kernel_rfl) Try.func3 (by kernel_rfl)
    (of_decide_eq_true (by kernel_rfl)) (by unfold Func.isWrapper; rw [if_neg (by decide +kernel)]; exact ⟨rfl, rfl⟩)
    (fun os started H enc _ => law_lift (C := Try.checked) (s := Rows.fnExactBlindPointsSpec) (tb := 4) Try.laidOut Try.own started (by kernel_rfl) Try.func3
      (ChangeSpec.witness6 (enc := enc) (C := Try.checked) false ⟨#[], #[.slice none 0 0], []⟩ 8 (by kernel_rfl) (by kernel_rfl) (by kernel_rfl) (by kernel_rfl))
      rfl rfl Try.underlying4 (by intro t ht; simp [Try.params3] at ht; subst ht; exact ⟨by kernel_rfl, of_decide_eq_true (by kernel_rfl)⟩)
      (by intro ds hl; match ds, hl with | [d0], _ => rfl)
      (by
        intro W base args ds ps hval hA hlt hsz
        rw [Try.params3] at hA hval hsz
        obtain ⟨v0, d0, rfl, rfl, h0⟩ := trodAll_one hA
        obtain ⟨A0, c0, l0, rfl, r0, q0, m0⟩ := open_pts Try.underlying22 Try.underlying80 (by kernel_rfl) (by kernel_rfl) Try.underlying3 Try.underlying3 (hval 0 22 v0 rfl rfl) h0
        exact fnBlindPoints A0 c0 l0 W (hide r0) (by omega)))
#print axioms fnExactBlindPoints_holds
end Go.Proofs.Ytnocgcfepkdjeaa
