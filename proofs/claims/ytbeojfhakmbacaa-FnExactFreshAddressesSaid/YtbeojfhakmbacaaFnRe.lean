/- The program's FreshAddresses returns what the reference's returns, for all arguments. No conditions. -/
import Derived.Test.YtbeojfhakmbacaaRowsA
import Derived.Test.YtbeojfhakmbacaaReU
import Derived.Test.YtbeojfhakmbacaaReOpen
namespace Go.Proofs.Ytbeojfhakmbacaa
open Go.RowKit Go.WideShapes Go.ChangeShapes Go.ChangeAt Go.Joins Go.Deep
set_option maxRecDepth 100000 in
theorem fnExactFreshAddresses_holds : Rows.FnExactFreshAddressesSaid :=
  OpenClaim.holds_of_wide 9 Try.f9 rfl rfl rfl rfl rfl rfl rfl ⟨rfl, rfl, rfl, rfl, rfl⟩ rfl rfl rfl rfl rfl (by kernel_rfl) Try.func9 (by kernel_rfl)
    (of_decide_eq_true (by kernel_rfl)) (by unfold Func.isWrapper; rw [if_neg (by decide +kernel)]; exact ⟨rfl, rfl⟩)
    (fun os started H enc _ => law_lift (C := Try.checked) (s := Rows.fnExactFreshAddressesSpec) (tb := 4) Try.laidOut Try.own started (by kernel_rfl) Try.func9
      (ChangeSpec.witness6 (enc := enc) (C := Try.checked) false ⟨#[], #[.agg #[.int .i64 0, .slice none 0 0]], []⟩ 8 (by kernel_rfl) (by kernel_rfl) (by kernel_rfl) (by kernel_rfl))
      rfl rfl Try.underlying4 (by intro t ht; simp [Try.params9] at ht; subst ht; exact ⟨by kernel_rfl, of_decide_eq_true (by kernel_rfl)⟩)
      (by intro ds hl; match ds, hl with | [d0], _ => rfl)
      (by
        intro W base args ds ps hval hA hlt hsz
        rw [Try.params9] at hA hval hsz
        obtain ⟨v0, d0, rfl, rfl, h0⟩ := trodAll_one hA
        obtain ⟨m0, A0, c0, l0, rfl, r0, bm0, q0, p0⟩ := open_recv (hval 0 59 v0 rfl rfl) h0
        exact fnFreshAddresses m0 A0 c0 l0 W (hide r0) (by omega)))
#print axioms fnExactFreshAddresses_holds
end Go.Proofs.Ytbeojfhakmbacaa
