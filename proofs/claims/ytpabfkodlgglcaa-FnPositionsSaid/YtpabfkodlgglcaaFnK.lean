/- A place is recovered from its even and odd report, and it is among all places that a moved pair allows. No conditions. -/
import Derived.Test.YtpabfkodlgglcaaRowsA
import Derived.Test.YtpabfkodlgglcaaPsD
import Derived.Test.YtpabfkodlgglcaaCode
namespace Go.Proofs.Ytpabfkodlgglcaa
open Go.RowKit Go.WideShapes Go.ChangeShapes Go.ChangeAt Go.Joins Go.Deep
set_option maxRecDepth 100000 in
theorem fnPositions_holds : Rows.FnPositionsSaid :=
  OpenClaim.holds_of_wide 5 Try.f5 rfl rfl rfl rfl rfl rfl rfl ⟨rfl, rfl, rfl, rfl, rfl⟩ rfl rfl rfl rfl rfl (by kernel_rfl) Try.func5 (by kernel_rfl)
    (of_decide_eq_true (by kernel_rfl)) (by unfold Func.isWrapper; rw [if_neg (by decide +kernel)]; exact ⟨rfl, rfl⟩)
    (fun os started H enc _ => law_lift (C := Try.checked) (s := Rows.fnPositionsSpec) (tb := 4) Try.laidOut Try.own started (by kernel_rfl) Try.func5
      (ChangeSpec.witness6 (enc := enc) (C := Try.checked) false ⟨#[], #[.slice none 0 0], []⟩ 8 (by kernel_rfl) (by kernel_rfl) (by kernel_rfl) (by kernel_rfl))
      rfl rfl Try.underlying4 (by intro t ht; simp [Try.params5] at ht; subst ht; exact ⟨by kernel_rfl, of_decide_eq_true (by kernel_rfl)⟩)
      (by intro ds hl; match ds, hl with | [d0], _ => rfl)
      (by
        intro W base args ds ps hval hA hlt hsz
        rw [Try.params5] at hA hval hsz
        obtain ⟨v0, d0, rfl, rfl, h0⟩ := trodAll_one hA
        obtain ⟨A0, n0, c0, rfl, r0⟩ := open_code Try.underlying34 Try.underlying5 (by kernel_rfl) (hval 0 34 v0 rfl rfl) h0
        exact fnPositions A0 n0 c0 W (hide r0)))
#print axioms fnPositions_holds
end Go.Proofs.Ytpabfkodlgglcaa
