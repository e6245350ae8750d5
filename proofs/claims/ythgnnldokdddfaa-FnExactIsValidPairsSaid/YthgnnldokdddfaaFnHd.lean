/- The program's IsValidPairs returns what the reference's returns, for all arguments. No conditions. -/
import Derived.Test.YthgnnldokdddfaaRowsA
import Derived.Test.YthgnnldokdddfaaPrC
import Derived.Test.YthgnnldokdddfaaSlOpen
namespace Go.Proofs.Ythgnnldokdddfaa
open Go.RowKit Go.WideShapes Go.ChangeShapes Go.ChangeAt Go.Joins Go.Deep
set_option maxRecDepth 100000 in
theorem fnExactIsValidPairs_holds : Rows.FnExactIsValidPairsSaid :=
  OpenClaim.holds_of_wide 4 Try.f4 rfl rfl rfl rfl rfl rfl rfl ⟨rfl, rfl, rfl, rfl, rfl⟩ rfl rfl rfl rfl rfl (by kernel_rfl) Try.func4 (by kernel_rfl)
    (of_decide_eq_true (by kernel_rfl)) (by unfold Func.isWrapper; rw [if_neg (by decide +kernel)]; exact ⟨rfl, rfl⟩)
    (fun os started H enc _ => law_lift (C := Try.checked) (s := Rows.fnExactIsValidPairsSpec) (tb := 4) Try.laidOut Try.own started (by kernel_rfl) Try.func4
      (ChangeSpec.witness6 (enc := enc) (C := Try.checked) false ⟨#[], #[.slice none 0 0], []⟩ 8 (by kernel_rfl) (by kernel_rfl) (by kernel_rfl) (by kernel_rfl))
      rfl rfl Try.underlying4 (by intro t ht; simp [Try.params4] at ht; subst ht; exact ⟨by kernel_rfl, of_decide_eq_true (by kernel_rfl)⟩)
      (by intro ds hl; match ds, hl with | [d0], _ => rfl)
      (by
        intro W base args ds ps hval hA hlt hsz
        rw [Try.params4] at hA hval hsz
        obtain ⟨v0, d0, rfl, rfl, h0⟩ := trodAll_one hA
        obtain ⟨A0, c0, l0, rfl, r0, q0, m0⟩ := open_pts Try.underlying25 Try.underlying57 (by kernel_rfl) (by kernel_rfl) Try.underlying3 Try.underlying3 (hval 0 25 v0 rfl rfl) h0
        exact fnIsValidPairs A0 c0 l0 W (hide r0) (by omega)))
#print axioms fnExactIsValidPairs_holds
end Go.Proofs.Ythgnnldokdddfaa
