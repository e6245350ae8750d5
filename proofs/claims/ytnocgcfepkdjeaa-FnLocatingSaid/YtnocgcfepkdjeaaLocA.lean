/- Contracts: what is drawn for the best point. -/
import Derived.Test.YtnocgcfepkdjeaaDrC
namespace Go.Proofs.Ytnocgcfepkdjeaa
open Go.RowKit

theorem drawBest_c (A : Option Addr) (n c : Nat) (w : World) (h1 : Hid (CodeOk w A n)) (hn : n ≤ 65536)  : Calls Try.prog 63 #[.slice A n c] w (DrawsLA 32 3 w) := by
  go_enter Try.func63, Try.ntmps63
  go_wp2_with fail
  refine (drawFirst_c A n c _ (hide (h1.out.below (by go_grown))) hn).mono ?_
  rintro e w1 ⟨l, A1, c1, a, A2, c2, rfl, r1, r2, hl6, ha7, hp6, hb⟩
  go_wp2
  go_returns
  exact ⟨l, A1, c1, a, A2, c2, rfl, r1, r2, hl6, ha7, hp6, hb⟩
end Go.Proofs.Ytnocgcfepkdjeaa
