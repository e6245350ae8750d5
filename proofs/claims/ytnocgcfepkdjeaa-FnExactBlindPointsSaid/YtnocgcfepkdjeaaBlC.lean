/- Law: points not told from others. -/
import Derived.Test.YtnocgcfepkdjeaaBlA
import Derived.Test.YtnocgcfepkdjeaaBlB
import Derived.Test.YtnocgcfepkdjeaaSiDp
import Derived.Test.YtnocgcfepkdjeaaSeq
namespace Go.Proofs.Ytnocgcfepkdjeaa
open Go.RowKit

set_option maxHeartbeats 4000000 in
theorem fnBlindPoints (A : Option Addr) (c : Nat) (l : List Pt) (w : World) (h1 : Hid (Reads w w.heap.size 2 A l.length (flat l))) (bm : l.length ≤ 9223372036854775807)  : Calls Try.prog 3 #[.slice A l.length c] w (Gives w (.bool true)) := by
  by_cases hbig : 1048576 < l.length
  · go_enter Try.func3, Try.ntmps3
    go_wp2_with (first | (go_at_call 13; refine (szSiteS_c _ _ _ _ bm (by omega) (by omega) _).mono ?_; rintro e w1 ⟨rfl, rfl⟩; rw [if_pos (by omega)]))
    go_returns
    exact ⟨ret_eq rfl, by go_grown⟩
  have b1 : l.length ≤ 1048576 := by omega
  go_enter Try.func3, Try.ntmps3
  go_wp2_with fail
  refine (szSiteS_c _ _ _ _ bm (by omega) (by omega) _).mono ?_
  rintro e wz ⟨rfl, rfl⟩
  rw [if_neg (by omega)]
  go_wp2_with fail
  refine (toSiteS_c A c l _ (hide (reads_below h1.out (by go_grown))) (by omega)).mono ?_
  rintro e w1 ⟨A1, c1, rfl, ho1, hb⟩
  obtain ⟨b1, ho1, hbk1⟩ := own_based ho1 (m := w.heap.size) (by first | omega | (simp; done) | (simp; omega))
  have hT : w1.ownsRow (b1) 32 2 (.slice A1 l.length c1) (l.length) (flat l) ∧ Below w.heap.size w w1 := ⟨ho1, (fun W h hb => below_via h (hb) : ∀ W : World, (Below w.heap.size w W) → Below W.heap.size W w1 → (Below w.heap.size w w1)) _ (by first | (with_reducible assumption) | go_grown) hb⟩
  (try clear hS)
  have hS := hT
  clear hT
  have hB := hS.2
  have hzw : w.heap.size ≤ w1.heap.size := hB.size
  clear hb
  go_wp2_with fail
  refine (sBlind_c _ _ l _ (hide (own_reads (hS.1))) (by omega)).mono ?_
  rintro e w2 ⟨rfl, hb⟩
  have hT : w2.ownsRow (b1) 32 2 (.slice A1 l.length c1) (l.length) (flat l) ∧ Below w.heap.size w w2 := (fun W h hb => ⟨own_below h.1 (hb), below_via h.2 (hb)⟩ : ∀ W : World, (W.ownsRow (b1) 32 2 (.slice A1 l.length c1) (l.length) (flat l) ∧ Below w.heap.size w W) → Below W.heap.size W w2 → (w2.ownsRow (b1) 32 2 (.slice A1 l.length c1) (l.length) (flat l) ∧ Below w.heap.size w w2)) _ (by first | (with_reducible assumption) | (exact hS) | (exact ⟨hS.1, (by go_grown)⟩) | (exact ⟨(by first | (with_reducible assumption) | (exact World.ownsRow.alloc (by with_reducible assumption) _) | ((refine own_below (by with_reducible assumption) ?_); go_grown)), (by go_grown)⟩)) hb
  (try clear hS)
  have hS := hT
  clear hT
  have hB := hS.2
  have hzw : w.heap.size ≤ w2.heap.size := hB.size
  clear hb
  have hP := hS
  go_wp2_with fail
  refine (toSiteS_c A c l _ (hide (reads_below h1.out (by go_grown))) (by omega)).mono ?_
  rintro e w3 ⟨A2, c2, rfl, ho2, hb⟩
  obtain ⟨b2, ho2, hbk2⟩ := own_based ho2 (m := w2.heap.size) (by first | omega | (simp; done) | (simp; omega))
  have ne1_2 := own_ne (hP.1) ho2 hbk2
  clear hP
  have hT : w3.ownsRow (b2) 32 2 (.slice A2 l.length c2) (l.length) (flat l) ∧ w3.ownsRow (b1) 32 2 (.slice A1 l.length c1) (l.length) (flat l) ∧ Below w.heap.size w w3 := ⟨ho2, (fun W h hb => ⟨own_below h.1 (hb), below_via h.2 (hb)⟩ : ∀ W : World, (W.ownsRow (b1) 32 2 (.slice A1 l.length c1) (l.length) (flat l) ∧ Below w.heap.size w W) → Below W.heap.size W w3 → (w3.ownsRow (b1) 32 2 (.slice A1 l.length c1) (l.length) (flat l) ∧ Below w.heap.size w w3)) _ (by first | (with_reducible assumption) | (exact hS) | (exact ⟨hS.1, (by go_grown)⟩) | (exact ⟨(by first | (with_reducible assumption) | (exact World.ownsRow.alloc (by with_reducible assumption) _) | ((refine own_below (by with_reducible assumption) ?_); go_grown)), (by go_grown)⟩)) hb⟩
  (try clear hS)
  have hS := hT
  clear hT
  have hB := hS.2.2
  have hzw : w.heap.size ≤ w3.heap.size := hB.size
  clear hb
  go_wp2_with fail
  refine (Blind_c _ _ l _ (hide (own_reads (hS.1))) (by omega) (own_cap (hS.1))).mono ?_
  rintro e w4 ⟨rfl, hb⟩
  have hT : w4.ownsRow (b2) 32 2 (.slice A2 l.length c2) (l.length) (flat l) ∧ w4.ownsRow (b1) 32 2 (.slice A1 l.length c1) (l.length) (flat l) ∧ Below w.heap.size w w4 := (fun W h hb => ⟨own_below h.1 (hb), own_below h.2.1 (hb), below_via h.2.2 (hb)⟩ : ∀ W : World, (W.ownsRow (b2) 32 2 (.slice A2 l.length c2) (l.length) (flat l) ∧ W.ownsRow (b1) 32 2 (.slice A1 l.length c1) (l.length) (flat l) ∧ Below w.heap.size w W) → Below W.heap.size W w4 → (w4.ownsRow (b2) 32 2 (.slice A2 l.length c2) (l.length) (flat l) ∧ w4.ownsRow (b1) 32 2 (.slice A1 l.length c1) (l.length) (flat l) ∧ Below w.heap.size w w4)) _ (by first | (with_reducible assumption) | (exact hS) | (exact ⟨hS.1, hS.2.1, (by go_grown)⟩) | (exact ⟨(by first | (with_reducible assumption) | (exact World.ownsRow.alloc (by with_reducible assumption) _) | ((refine own_below (by with_reducible assumption) ?_); go_grown)), (by first | (with_reducible assumption) | (exact World.ownsRow.alloc (by with_reducible assumption) _) | ((refine own_below (by with_reducible assumption) ?_); go_grown)), (by go_grown)⟩)) hb
  (try clear hS)
  have hS := hT
  clear hT
  have hB := hS.2.2
  have hzw : w.heap.size ≤ w4.heap.size := hB.size
  clear hb
  have hP := hS
  go_wp2_with fail
  refine (toSiteS_c A c l _ (hide (reads_below h1.out (by go_grown))) (by omega)).mono ?_
  rintro e w5 ⟨A3, c3, rfl, ho3, hb⟩
  obtain ⟨b3, ho3, hbk3⟩ := own_based ho3 (m := w4.heap.size) (by first | omega | (simp; done) | (simp; omega))
  have ne1_3 := own_ne (hP.2.1) ho3 hbk3
  have ne2_3 := own_ne (hP.1) ho3 hbk3
  clear hP
  have hT : w5.ownsRow (b3) 32 2 (.slice A3 l.length c3) (l.length) (flat l) ∧ w5.ownsRow (b2) 32 2 (.slice A2 l.length c2) (l.length) (flat l) ∧ w5.ownsRow (b1) 32 2 (.slice A1 l.length c1) (l.length) (flat l) ∧ Below w.heap.size w w5 := ⟨ho3, (fun W h hb => ⟨own_below h.1 (hb), own_below h.2.1 (hb), below_via h.2.2 (hb)⟩ : ∀ W : World, (W.ownsRow (b2) 32 2 (.slice A2 l.length c2) (l.length) (flat l) ∧ W.ownsRow (b1) 32 2 (.slice A1 l.length c1) (l.length) (flat l) ∧ Below w.heap.size w W) → Below W.heap.size W w5 → (w5.ownsRow (b2) 32 2 (.slice A2 l.length c2) (l.length) (flat l) ∧ w5.ownsRow (b1) 32 2 (.slice A1 l.length c1) (l.length) (flat l) ∧ Below w.heap.size w w5)) _ (by first | (with_reducible assumption) | (exact hS) | (exact ⟨hS.1, hS.2.1, (by go_grown)⟩) | (exact ⟨(by first | (with_reducible assumption) | (exact World.ownsRow.alloc (by with_reducible assumption) _) | ((refine own_below (by with_reducible assumption) ?_); go_grown)), (by first | (with_reducible assumption) | (exact World.ownsRow.alloc (by with_reducible assumption) _) | ((refine own_below (by with_reducible assumption) ?_); go_grown)), (by go_grown)⟩)) hb⟩
  (try clear hS)
  have hS := hT
  clear hT
  have hB := hS.2.2.2
  have hzw : w.heap.size ≤ w5.heap.size := hB.size
  clear hb
  go_wp2_with fail
  refine (eqSiteS_c _ _ _ _ (l) (l) _ (hide (own_reads (hS.2.1))) (hide (own_reads (hS.1))) (by omega) (by omega)).mono ?_
  rintro e w6 ⟨rfl, hb⟩
  have hT : w6.ownsRow (b3) 32 2 (.slice A3 l.length c3) (l.length) (flat l) ∧ w6.ownsRow (b2) 32 2 (.slice A2 l.length c2) (l.length) (flat l) ∧ w6.ownsRow (b1) 32 2 (.slice A1 l.length c1) (l.length) (flat l) ∧ Below w.heap.size w w6 := (fun W h hb => ⟨own_below h.1 (hb), own_below h.2.1 (hb), own_below h.2.2.1 (hb), below_via h.2.2.2 (hb)⟩ : ∀ W : World, (W.ownsRow (b3) 32 2 (.slice A3 l.length c3) (l.length) (flat l) ∧ W.ownsRow (b2) 32 2 (.slice A2 l.length c2) (l.length) (flat l) ∧ W.ownsRow (b1) 32 2 (.slice A1 l.length c1) (l.length) (flat l) ∧ Below w.heap.size w W) → Below W.heap.size W w6 → (w6.ownsRow (b3) 32 2 (.slice A3 l.length c3) (l.length) (flat l) ∧ w6.ownsRow (b2) 32 2 (.slice A2 l.length c2) (l.length) (flat l) ∧ w6.ownsRow (b1) 32 2 (.slice A1 l.length c1) (l.length) (flat l) ∧ Below w.heap.size w w6)) _ (by first | (with_reducible assumption) | (exact hS) | (exact ⟨hS.1, hS.2.1, hS.2.2.1, (by go_grown)⟩) | (exact ⟨(by first | (with_reducible assumption) | (exact World.ownsRow.alloc (by with_reducible assumption) _) | ((refine own_below (by with_reducible assumption) ?_); go_grown)), (by first | (with_reducible assumption) | (exact World.ownsRow.alloc (by with_reducible assumption) _) | ((refine own_below (by with_reducible assumption) ?_); go_grown)), (by first | (with_reducible assumption) | (exact World.ownsRow.alloc (by with_reducible assumption) _) | ((refine own_below (by with_reducible assumption) ?_); go_grown)), (by go_grown)⟩)) hb
  (try clear hS)
  have hS := hT
  clear hT
  have hB := hS.2.2.2
  have hzw : w.heap.size ≤ w6.heap.size := hB.size
  clear hb
  go_wp2
  go_returns
  exact ⟨ret_eq (by simp), hB⟩
end Go.Proofs.Ytnocgcfepkdjeaa
