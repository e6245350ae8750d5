/- Law: the helpful site. -/
import Derived.Test.YtnocgcfepkdjeaaSbI
import Derived.Test.YtnocgcfepkdjeaaSiDp
import Derived.Test.YtnocgcfepkdjeaaSeq
namespace Go.Proofs.Ytnocgcfepkdjeaa
open Go.RowKit

set_option maxHeartbeats 4000000 in
theorem fnHelpfulSite (A : Option Addr) (c : Nat) (l : List Pt) (tol : Int) (Ar : Option Addr) (cr : Nat) (a : List Int) (w : World) (h1 : Hid (Reads w w.heap.size 2 A l.length (flat l))) (bm : l.length ≤ 9223372036854775807) (h2 : Hid (Reads w w.heap.size 1 Ar a.length (ints a)))  : Calls Try.prog 6 #[.slice A l.length c, .slice Ar a.length cr, .int .i64 tol] w (Gives w (.bool true)) := by
  by_cases hbig2 : 1048576 < a.length
  · go_enter Try.func6, Try.ntmps6
    go_wp2
    go_returns
    exact ⟨ret_eq rfl, by go_grown⟩
  have b2 : a.length ≤ 1048576 := by omega
  by_cases hbig : 1048576 < l.length
  · go_enter Try.func6, Try.ntmps6
    go_wp2_with (first | (go_at_call 13; refine (szSiteS_c _ _ _ _ bm (by omega) (by omega) _).mono ?_; rintro e w1 ⟨rfl, rfl⟩; rw [if_pos (by omega)]))
    go_returns
    exact ⟨ret_eq rfl, by go_grown⟩
  have b1 : l.length ≤ 1048576 := by omega
  go_enter Try.func6, Try.ntmps6
  go_wp2_with fail
  refine (szSiteS_c _ _ _ _ bm (by omega) (by omega) _).mono ?_
  rintro e wz ⟨rfl, rfl⟩
  rw [if_neg (by omega)]
  go_wp2_with fail
  refine (toSiteS_c A c l _ (hide (reads_below h1.out (by go_grown))) (by omega)).mono ?_
  rintro e w1 ⟨A1, c1, rfl, ho1, hb⟩
  obtain ⟨b1, ho1, hbk1⟩ := own_based ho1 (m := w.heap.size) (by first | omega | (simp; done) | (simp; omega))
  have hT : w1.ownsRow (b1) 32 2 (.slice A1 l.length c1) (l.length) (flat l) ∧ Below w.heap.size w w1 := ⟨ho1, (fun W h hb => below_via h (hb) : ∀ W : World, (Below w.heap.size w W) → Below W.heap.size W w1 → (Below w.heap.size w w1)) _ (by first | (with_reducible assumption) | go_grown) hb⟩
  (try clear hS)
  have hS := hT
  clear hT
  have hB := hS.2
  have hzw : w.heap.size ≤ w1.heap.size := hB.size
  clear hb
  have hP := hS
  go_wp2_with fail
  refine (toIntS_c Ar cr a _ (hide (reads_below h2.out (by go_grown))) (by omega)).mono ?_
  rintro e w2 ⟨A2, c2, rfl, ho2, hb⟩
  obtain ⟨b2, ho2, hbk2⟩ := own_based ho2 (m := w1.heap.size) (by first | omega | (simp; done) | (simp; omega))
  have ne1_2 := own_ne (hP.1) ho2 hbk2
  clear hP
  have hT : w2.ownsRow (b2) 3 1 (.slice A2 a.length c2) (a.length) (ints a) ∧ w2.ownsRow (b1) 32 2 (.slice A1 l.length c1) (l.length) (flat l) ∧ Below w.heap.size w w2 := ⟨ho2, (fun W h hb => ⟨own_below h.1 (hb), below_via h.2 (hb)⟩ : ∀ W : World, (W.ownsRow (b1) 32 2 (.slice A1 l.length c1) (l.length) (flat l) ∧ Below w.heap.size w W) → Below W.heap.size W w2 → (w2.ownsRow (b1) 32 2 (.slice A1 l.length c1) (l.length) (flat l) ∧ Below w.heap.size w w2)) _ (by first | (with_reducible assumption) | (exact hS) | (exact ⟨hS.1, (by go_grown)⟩) | (exact ⟨(by first | (with_reducible assumption) | (exact World.ownsRow.alloc (by with_reducible assumption) _) | ((refine own_below (by with_reducible assumption) ?_); go_grown)), (by go_grown)⟩)) hb⟩
  (try clear hS)
  have hS := hT
  clear hT
  have hB := hS.2.2
  have hzw : w.heap.size ≤ w2.heap.size := hB.size
  clear hb
  go_wp2_with fail
  refine (sHelpful_c _ _ l _ _ a tol _ (hide (own_reads (hS.2.1))) (hide (own_reads (hS.1))) (by omega) (by omega) (own_cap (hS.2.1)) (own_cap (hS.1))).mono ?_
  rintro e w3 ⟨rfl, hb⟩
  have hT : w3.ownsRow (b2) 3 1 (.slice A2 a.length c2) (a.length) (ints a) ∧ w3.ownsRow (b1) 32 2 (.slice A1 l.length c1) (l.length) (flat l) ∧ Below w.heap.size w w3 := (fun W h hb => ⟨own_below h.1 (hb), own_below h.2.1 (hb), below_via h.2.2 (hb)⟩ : ∀ W : World, (W.ownsRow (b2) 3 1 (.slice A2 a.length c2) (a.length) (ints a) ∧ W.ownsRow (b1) 32 2 (.slice A1 l.length c1) (l.length) (flat l) ∧ Below w.heap.size w W) → Below W.heap.size W w3 → (w3.ownsRow (b2) 3 1 (.slice A2 a.length c2) (a.length) (ints a) ∧ w3.ownsRow (b1) 32 2 (.slice A1 l.length c1) (l.length) (flat l) ∧ Below w.heap.size w w3)) _ (by first | (with_reducible assumption) | (exact hS) | (exact ⟨hS.1, hS.2.1, (by go_grown)⟩) | (exact ⟨(by first | (with_reducible assumption) | (exact World.ownsRow.alloc (by with_reducible assumption) _) | ((refine own_below (by with_reducible assumption) ?_); go_grown)), (by first | (with_reducible assumption) | (exact World.ownsRow.alloc (by with_reducible assumption) _) | ((refine own_below (by with_reducible assumption) ?_); go_grown)), (by go_grown)⟩)) hb
  (try clear hS)
  have hS := hT
  clear hT
  have hB := hS.2.2
  have hzw : w.heap.size ≤ w3.heap.size := hB.size
  clear hb
  have hP := hS
  go_wp2_with fail
  refine (toSiteS_c A c l _ (hide (reads_below h1.out (by go_grown))) (by omega)).mono ?_
  rintro e w4 ⟨A3, c3, rfl, ho3, hb⟩
  obtain ⟨b3, ho3, hbk3⟩ := own_based ho3 (m := w3.heap.size) (by first | omega | (simp; done) | (simp; omega))
  have ne1_3 := own_ne (hP.2.1) ho3 hbk3
  have ne2_3 := own_ne (hP.1) ho3 hbk3
  clear hP
  have hT : w4.ownsRow (b3) 32 2 (.slice A3 l.length c3) (l.length) (flat l) ∧ w4.ownsRow (b2) 3 1 (.slice A2 a.length c2) (a.length) (ints a) ∧ w4.ownsRow (b1) 32 2 (.slice A1 l.length c1) (l.length) (flat l) ∧ Below w.heap.size w w4 := ⟨ho3, (fun W h hb => ⟨own_below h.1 (hb), own_below h.2.1 (hb), below_via h.2.2 (hb)⟩ : ∀ W : World, (W.ownsRow (b2) 3 1 (.slice A2 a.length c2) (a.length) (ints a) ∧ W.ownsRow (b1) 32 2 (.slice A1 l.length c1) (l.length) (flat l) ∧ Below w.heap.size w W) → Below W.heap.size W w4 → (w4.ownsRow (b2) 3 1 (.slice A2 a.length c2) (a.length) (ints a) ∧ w4.ownsRow (b1) 32 2 (.slice A1 l.length c1) (l.length) (flat l) ∧ Below w.heap.size w w4)) _ (by first | (with_reducible assumption) | (exact hS) | (exact ⟨hS.1, hS.2.1, (by go_grown)⟩) | (exact ⟨(by first | (with_reducible assumption) | (exact World.ownsRow.alloc (by with_reducible assumption) _) | ((refine own_below (by with_reducible assumption) ?_); go_grown)), (by first | (with_reducible assumption) | (exact World.ownsRow.alloc (by with_reducible assumption) _) | ((refine own_below (by with_reducible assumption) ?_); go_grown)), (by go_grown)⟩)) hb⟩
  (try clear hS)
  have hS := hT
  clear hT
  have hB := hS.2.2.2
  have hzw : w.heap.size ≤ w4.heap.size := hB.size
  clear hb
  have hP := hS
  go_wp2_with fail
  refine (toIntS_c Ar cr a _ (hide (reads_below h2.out (by go_grown))) (by omega)).mono ?_
  rintro e w5 ⟨A4, c4, rfl, ho4, hb⟩
  obtain ⟨b4, ho4, hbk4⟩ := own_based ho4 (m := w4.heap.size) (by first | omega | (simp; done) | (simp; omega))
  have ne1_4 := own_ne (hP.2.2.1) ho4 hbk4
  have ne2_4 := own_ne (hP.2.1) ho4 hbk4
  have ne3_4 := own_ne (hP.1) ho4 hbk4
  clear hP
  have hT : w5.ownsRow (b4) 3 1 (.slice A4 a.length c4) (a.length) (ints a) ∧ w5.ownsRow (b3) 32 2 (.slice A3 l.length c3) (l.length) (flat l) ∧ w5.ownsRow (b2) 3 1 (.slice A2 a.length c2) (a.length) (ints a) ∧ w5.ownsRow (b1) 32 2 (.slice A1 l.length c1) (l.length) (flat l) ∧ Below w.heap.size w w5 := ⟨ho4, (fun W h hb => ⟨own_below h.1 (hb), own_below h.2.1 (hb), own_below h.2.2.1 (hb), below_via h.2.2.2 (hb)⟩ : ∀ W : World, (W.ownsRow (b3) 32 2 (.slice A3 l.length c3) (l.length) (flat l) ∧ W.ownsRow (b2) 3 1 (.slice A2 a.length c2) (a.length) (ints a) ∧ W.ownsRow (b1) 32 2 (.slice A1 l.length c1) (l.length) (flat l) ∧ Below w.heap.size w W) → Below W.heap.size W w5 → (w5.ownsRow (b3) 32 2 (.slice A3 l.length c3) (l.length) (flat l) ∧ w5.ownsRow (b2) 3 1 (.slice A2 a.length c2) (a.length) (ints a) ∧ w5.ownsRow (b1) 32 2 (.slice A1 l.length c1) (l.length) (flat l) ∧ Below w.heap.size w w5)) _ (by first | (with_reducible assumption) | (exact hS) | (exact ⟨hS.1, hS.2.1, hS.2.2.1, (by go_grown)⟩) | (exact ⟨(by first | (with_reducible assumption) | (exact World.ownsRow.alloc (by with_reducible assumption) _) | ((refine own_below (by with_reducible assumption) ?_); go_grown)), (by first | (with_reducible assumption) | (exact World.ownsRow.alloc (by with_reducible assumption) _) | ((refine own_below (by with_reducible assumption) ?_); go_grown)), (by first | (with_reducible assumption) | (exact World.ownsRow.alloc (by with_reducible assumption) _) | ((refine own_below (by with_reducible assumption) ?_); go_grown)), (by go_grown)⟩)) hb⟩
  (try clear hS)
  have hS := hT
  clear hT
  have hB := hS.2.2.2.2
  have hzw : w.heap.size ≤ w5.heap.size := hB.size
  clear hb
  go_wp2_with fail
  refine (Helpful_c _ _ l _ _ a tol _ (hide (own_reads (hS.2.1))) (hide (own_reads (hS.1))) (by omega) (by omega) (own_cap (hS.2.1)) (own_cap (hS.1))).mono ?_
  rintro e w6 ⟨rfl, hb⟩
  have hT : w6.ownsRow (b4) 3 1 (.slice A4 a.length c4) (a.length) (ints a) ∧ w6.ownsRow (b3) 32 2 (.slice A3 l.length c3) (l.length) (flat l) ∧ w6.ownsRow (b2) 3 1 (.slice A2 a.length c2) (a.length) (ints a) ∧ w6.ownsRow (b1) 32 2 (.slice A1 l.length c1) (l.length) (flat l) ∧ Below w.heap.size w w6 := (fun W h hb => ⟨own_below h.1 (hb), own_below h.2.1 (hb), own_below h.2.2.1 (hb), own_below h.2.2.2.1 (hb), below_via h.2.2.2.2 (hb)⟩ : ∀ W : World, (W.ownsRow (b4) 3 1 (.slice A4 a.length c4) (a.length) (ints a) ∧ W.ownsRow (b3) 32 2 (.slice A3 l.length c3) (l.length) (flat l) ∧ W.ownsRow (b2) 3 1 (.slice A2 a.length c2) (a.length) (ints a) ∧ W.ownsRow (b1) 32 2 (.slice A1 l.length c1) (l.length) (flat l) ∧ Below w.heap.size w W) → Below W.heap.size W w6 → (w6.ownsRow (b4) 3 1 (.slice A4 a.length c4) (a.length) (ints a) ∧ w6.ownsRow (b3) 32 2 (.slice A3 l.length c3) (l.length) (flat l) ∧ w6.ownsRow (b2) 3 1 (.slice A2 a.length c2) (a.length) (ints a) ∧ w6.ownsRow (b1) 32 2 (.slice A1 l.length c1) (l.length) (flat l) ∧ Below w.heap.size w w6)) _ (by first | (with_reducible assumption) | (exact hS) | (exact ⟨hS.1, hS.2.1, hS.2.2.1, hS.2.2.2.1, (by go_grown)⟩) | (exact ⟨(by first | (with_reducible assumption) | (exact World.ownsRow.alloc (by with_reducible assumption) _) | ((refine own_below (by with_reducible assumption) ?_); go_grown)), (by first | (with_reducible assumption) | (exact World.ownsRow.alloc (by with_reducible assumption) _) | ((refine own_below (by with_reducible assumption) ?_); go_grown)), (by first | (with_reducible assumption) | (exact World.ownsRow.alloc (by with_reducible assumption) _) | ((refine own_below (by with_reducible assumption) ?_); go_grown)), (by first | (with_reducible assumption) | (exact World.ownsRow.alloc (by with_reducible assumption) _) | ((refine own_below (by with_reducible assumption) ?_); go_grown)), (by go_grown)⟩)) hb
  (try clear hS)
  have hS := hT
  clear hT
  have hB := hS.2.2.2.2
  have hzw : w.heap.size ≤ w6.heap.size := hB.size
  clear hb
  have hP := hS
  go_wp2_with fail
  refine (toSiteS_c A c l _ (hide (reads_below h1.out (by go_grown))) (by omega)).mono ?_
  rintro e w7 ⟨A5, c5, rfl, ho5, hb⟩
  obtain ⟨b5, ho5, hbk5⟩ := own_based ho5 (m := w6.heap.size) (by first | omega | (simp; done) | (simp; omega))
  have ne1_5 := own_ne (hP.2.2.2.1) ho5 hbk5
  have ne2_5 := own_ne (hP.2.2.1) ho5 hbk5
  have ne3_5 := own_ne (hP.2.1) ho5 hbk5
  have ne4_5 := own_ne (hP.1) ho5 hbk5
  clear hP
  have hT : w7.ownsRow (b5) 32 2 (.slice A5 l.length c5) (l.length) (flat l) ∧ w7.ownsRow (b4) 3 1 (.slice A4 a.length c4) (a.length) (ints a) ∧ w7.ownsRow (b3) 32 2 (.slice A3 l.length c3) (l.length) (flat l) ∧ w7.ownsRow (b2) 3 1 (.slice A2 a.length c2) (a.length) (ints a) ∧ w7.ownsRow (b1) 32 2 (.slice A1 l.length c1) (l.length) (flat l) ∧ Below w.heap.size w w7 := ⟨ho5, (fun W h hb => ⟨own_below h.1 (hb), own_below h.2.1 (hb), own_below h.2.2.1 (hb), own_below h.2.2.2.1 (hb), below_via h.2.2.2.2 (hb)⟩ : ∀ W : World, (W.ownsRow (b4) 3 1 (.slice A4 a.length c4) (a.length) (ints a) ∧ W.ownsRow (b3) 32 2 (.slice A3 l.length c3) (l.length) (flat l) ∧ W.ownsRow (b2) 3 1 (.slice A2 a.length c2) (a.length) (ints a) ∧ W.ownsRow (b1) 32 2 (.slice A1 l.length c1) (l.length) (flat l) ∧ Below w.heap.size w W) → Below W.heap.size W w7 → (w7.ownsRow (b4) 3 1 (.slice A4 a.length c4) (a.length) (ints a) ∧ w7.ownsRow (b3) 32 2 (.slice A3 l.length c3) (l.length) (flat l) ∧ w7.ownsRow (b2) 3 1 (.slice A2 a.length c2) (a.length) (ints a) ∧ w7.ownsRow (b1) 32 2 (.slice A1 l.length c1) (l.length) (flat l) ∧ Below w.heap.size w w7)) _ (by first | (with_reducible assumption) | (exact hS) | (exact ⟨hS.1, hS.2.1, hS.2.2.1, hS.2.2.2.1, (by go_grown)⟩) | (exact ⟨(by first | (with_reducible assumption) | (exact World.ownsRow.alloc (by with_reducible assumption) _) | ((refine own_below (by with_reducible assumption) ?_); go_grown)), (by first | (with_reducible assumption) | (exact World.ownsRow.alloc (by with_reducible assumption) _) | ((refine own_below (by with_reducible assumption) ?_); go_grown)), (by first | (with_reducible assumption) | (exact World.ownsRow.alloc (by with_reducible assumption) _) | ((refine own_below (by with_reducible assumption) ?_); go_grown)), (by first | (with_reducible assumption) | (exact World.ownsRow.alloc (by with_reducible assumption) _) | ((refine own_below (by with_reducible assumption) ?_); go_grown)), (by go_grown)⟩)) hb⟩
  (try clear hS)
  have hS := hT
  clear hT
  have hB := hS.2.2.2.2.2
  have hzw : w.heap.size ≤ w7.heap.size := hB.size
  clear hb
  go_wp2_with fail
  refine (eqSiteS_c _ _ _ _ (l) (l) _ (hide (own_reads (hS.2.2.1))) (hide (own_reads (hS.1))) (by omega) (by omega)).mono ?_
  rintro e w8 ⟨rfl, hb⟩
  have hT : w8.ownsRow (b5) 32 2 (.slice A5 l.length c5) (l.length) (flat l) ∧ w8.ownsRow (b4) 3 1 (.slice A4 a.length c4) (a.length) (ints a) ∧ w8.ownsRow (b3) 32 2 (.slice A3 l.length c3) (l.length) (flat l) ∧ w8.ownsRow (b2) 3 1 (.slice A2 a.length c2) (a.length) (ints a) ∧ w8.ownsRow (b1) 32 2 (.slice A1 l.length c1) (l.length) (flat l) ∧ Below w.heap.size w w8 := (fun W h hb => ⟨own_below h.1 (hb), own_below h.2.1 (hb), own_below h.2.2.1 (hb), own_below h.2.2.2.1 (hb), own_below h.2.2.2.2.1 (hb), below_via h.2.2.2.2.2 (hb)⟩ : ∀ W : World, (W.ownsRow (b5) 32 2 (.slice A5 l.length c5) (l.length) (flat l) ∧ W.ownsRow (b4) 3 1 (.slice A4 a.length c4) (a.length) (ints a) ∧ W.ownsRow (b3) 32 2 (.slice A3 l.length c3) (l.length) (flat l) ∧ W.ownsRow (b2) 3 1 (.slice A2 a.length c2) (a.length) (ints a) ∧ W.ownsRow (b1) 32 2 (.slice A1 l.length c1) (l.length) (flat l) ∧ Below w.heap.size w W) → Below W.heap.size W w8 → (w8.ownsRow (b5) 32 2 (.slice A5 l.length c5) (l.length) (flat l) ∧ w8.ownsRow (b4) 3 1 (.slice A4 a.length c4) (a.length) (ints a) ∧ w8.ownsRow (b3) 32 2 (.slice A3 l.length c3) (l.length) (flat l) ∧ w8.ownsRow (b2) 3 1 (.slice A2 a.length c2) (a.length) (ints a) ∧ w8.ownsRow (b1) 32 2 (.slice A1 l.length c1) (l.length) (flat l) ∧ Below w.heap.size w w8)) _ (by first | (with_reducible assumption) | (exact hS) | (exact ⟨hS.1, hS.2.1, hS.2.2.1, hS.2.2.2.1, hS.2.2.2.2.1, (by go_grown)⟩) | (exact ⟨(by first | (with_reducible assumption) | (exact World.ownsRow.alloc (by with_reducible assumption) _) | ((refine own_below (by with_reducible assumption) ?_); go_grown)), (by first | (with_reducible assumption) | (exact World.ownsRow.alloc (by with_reducible assumption) _) | ((refine own_below (by with_reducible assumption) ?_); go_grown)), (by first | (with_reducible assumption) | (exact World.ownsRow.alloc (by with_reducible assumption) _) | ((refine own_below (by with_reducible assumption) ?_); go_grown)), (by first | (with_reducible assumption) | (exact World.ownsRow.alloc (by with_reducible assumption) _) | ((refine own_below (by with_reducible assumption) ?_); go_grown)), (by first | (with_reducible assumption) | (exact World.ownsRow.alloc (by with_reducible assumption) _) | ((refine own_below (by with_reducible assumption) ?_); go_grown)), (by go_grown)⟩)) hb
  (try clear hS)
  have hS := hT
  clear hT
  have hB := hS.2.2.2.2.2
  have hzw : w.heap.size ≤ w8.heap.size := hB.size
  clear hb
  have hP := hS
  go_wp2_with fail
  refine (toIntS_c Ar cr a _ (hide (reads_below h2.out (by go_grown))) (by omega)).mono ?_
  rintro e w9 ⟨A6, c6, rfl, ho6, hb⟩
  obtain ⟨b6, ho6, hbk6⟩ := own_based ho6 (m := w8.heap.size) (by first | omega | (simp; done) | (simp; omega))
  have ne1_6 := own_ne (hP.2.2.2.2.1) ho6 hbk6
  have ne2_6 := own_ne (hP.2.2.2.1) ho6 hbk6
  have ne3_6 := own_ne (hP.2.2.1) ho6 hbk6
  have ne4_6 := own_ne (hP.2.1) ho6 hbk6
  have ne5_6 := own_ne (hP.1) ho6 hbk6
  clear hP
  have hT : w9.ownsRow (b6) 3 1 (.slice A6 a.length c6) (a.length) (ints a) ∧ w9.ownsRow (b5) 32 2 (.slice A5 l.length c5) (l.length) (flat l) ∧ w9.ownsRow (b4) 3 1 (.slice A4 a.length c4) (a.length) (ints a) ∧ w9.ownsRow (b3) 32 2 (.slice A3 l.length c3) (l.length) (flat l) ∧ w9.ownsRow (b2) 3 1 (.slice A2 a.length c2) (a.length) (ints a) ∧ w9.ownsRow (b1) 32 2 (.slice A1 l.length c1) (l.length) (flat l) ∧ Below w.heap.size w w9 := ⟨ho6, (fun W h hb => ⟨own_below h.1 (hb), own_below h.2.1 (hb), own_below h.2.2.1 (hb), own_below h.2.2.2.1 (hb), own_below h.2.2.2.2.1 (hb), below_via h.2.2.2.2.2 (hb)⟩ : ∀ W : World, (W.ownsRow (b5) 32 2 (.slice A5 l.length c5) (l.length) (flat l) ∧ W.ownsRow (b4) 3 1 (.slice A4 a.length c4) (a.length) (ints a) ∧ W.ownsRow (b3) 32 2 (.slice A3 l.length c3) (l.length) (flat l) ∧ W.ownsRow (b2) 3 1 (.slice A2 a.length c2) (a.length) (ints a) ∧ W.ownsRow (b1) 32 2 (.slice A1 l.length c1) (l.length) (flat l) ∧ Below w.heap.size w W) → Below W.heap.size W w9 → (w9.ownsRow (b5) 32 2 (.slice A5 l.length c5) (l.length) (flat l) ∧ w9.ownsRow (b4) 3 1 (.slice A4 a.length c4) (a.length) (ints a) ∧ w9.ownsRow (b3) 32 2 (.slice A3 l.length c3) (l.length) (flat l) ∧ w9.ownsRow (b2) 3 1 (.slice A2 a.length c2) (a.length) (ints a) ∧ w9.ownsRow (b1) 32 2 (.slice A1 l.length c1) (l.length) (flat l) ∧ Below w.heap.size w w9)) _ (by first | (with_reducible assumption) | (exact hS) | (exact ⟨hS.1, hS.2.1, hS.2.2.1, hS.2.2.2.1, hS.2.2.2.2.1, (by go_grown)⟩) | (exact ⟨(by first | (with_reducible assumption) | (exact World.ownsRow.alloc (by with_reducible assumption) _) | ((refine own_below (by with_reducible assumption) ?_); go_grown)), (by first | (with_reducible assumption) | (exact World.ownsRow.alloc (by with_reducible assumption) _) | ((refine own_below (by with_reducible assumption) ?_); go_grown)), (by first | (with_reducible assumption) | (exact World.ownsRow.alloc (by with_reducible assumption) _) | ((refine own_below (by with_reducible assumption) ?_); go_grown)), (by first | (with_reducible assumption) | (exact World.ownsRow.alloc (by with_reducible assumption) _) | ((refine own_below (by with_reducible assumption) ?_); go_grown)), (by first | (with_reducible assumption) | (exact World.ownsRow.alloc (by with_reducible assumption) _) | ((refine own_below (by with_reducible assumption) ?_); go_grown)), (by go_grown)⟩)) hb⟩
  (try clear hS)
  have hS := hT
  clear hT
  have hB := hS.2.2.2.2.2.2
  have hzw : w.heap.size ≤ w9.heap.size := hB.size
  clear hb
  go_wp2_with fail
  refine (eqIntS_c _ _ _ _ (a) (a) _ (hide (own_reads (hS.2.2.1))) (hide (own_reads (hS.1))) (by omega) (by omega)).mono ?_
  rintro e w10 ⟨rfl, hb⟩
  have hT : w10.ownsRow (b6) 3 1 (.slice A6 a.length c6) (a.length) (ints a) ∧ w10.ownsRow (b5) 32 2 (.slice A5 l.length c5) (l.length) (flat l) ∧ w10.ownsRow (b4) 3 1 (.slice A4 a.length c4) (a.length) (ints a) ∧ w10.ownsRow (b3) 32 2 (.slice A3 l.length c3) (l.length) (flat l) ∧ w10.ownsRow (b2) 3 1 (.slice A2 a.length c2) (a.length) (ints a) ∧ w10.ownsRow (b1) 32 2 (.slice A1 l.length c1) (l.length) (flat l) ∧ Below w.heap.size w w10 := (fun W h hb => ⟨own_below h.1 (hb), own_below h.2.1 (hb), own_below h.2.2.1 (hb), own_below h.2.2.2.1 (hb), own_below h.2.2.2.2.1 (hb), own_below h.2.2.2.2.2.1 (hb), below_via h.2.2.2.2.2.2 (hb)⟩ : ∀ W : World, (W.ownsRow (b6) 3 1 (.slice A6 a.length c6) (a.length) (ints a) ∧ W.ownsRow (b5) 32 2 (.slice A5 l.length c5) (l.length) (flat l) ∧ W.ownsRow (b4) 3 1 (.slice A4 a.length c4) (a.length) (ints a) ∧ W.ownsRow (b3) 32 2 (.slice A3 l.length c3) (l.length) (flat l) ∧ W.ownsRow (b2) 3 1 (.slice A2 a.length c2) (a.length) (ints a) ∧ W.ownsRow (b1) 32 2 (.slice A1 l.length c1) (l.length) (flat l) ∧ Below w.heap.size w W) → Below W.heap.size W w10 → (w10.ownsRow (b6) 3 1 (.slice A6 a.length c6) (a.length) (ints a) ∧ w10.ownsRow (b5) 32 2 (.slice A5 l.length c5) (l.length) (flat l) ∧ w10.ownsRow (b4) 3 1 (.slice A4 a.length c4) (a.length) (ints a) ∧ w10.ownsRow (b3) 32 2 (.slice A3 l.length c3) (l.length) (flat l) ∧ w10.ownsRow (b2) 3 1 (.slice A2 a.length c2) (a.length) (ints a) ∧ w10.ownsRow (b1) 32 2 (.slice A1 l.length c1) (l.length) (flat l) ∧ Below w.heap.size w w10)) _ (by first | (with_reducible assumption) | (exact hS) | (exact ⟨hS.1, hS.2.1, hS.2.2.1, hS.2.2.2.1, hS.2.2.2.2.1, hS.2.2.2.2.2.1, (by go_grown)⟩) | (exact ⟨(by first | (with_reducible assumption) | (exact World.ownsRow.alloc (by with_reducible assumption) _) | ((refine own_below (by with_reducible assumption) ?_); go_grown)), (by first | (with_reducible assumption) | (exact World.ownsRow.alloc (by with_reducible assumption) _) | ((refine own_below (by with_reducible assumption) ?_); go_grown)), (by first | (with_reducible assumption) | (exact World.ownsRow.alloc (by with_reducible assumption) _) | ((refine own_below (by with_reducible assumption) ?_); go_grown)), (by first | (with_reducible assumption) | (exact World.ownsRow.alloc (by with_reducible assumption) _) | ((refine own_below (by with_reducible assumption) ?_); go_grown)), (by first | (with_reducible assumption) | (exact World.ownsRow.alloc (by with_reducible assumption) _) | ((refine own_below (by with_reducible assumption) ?_); go_grown)), (by first | (with_reducible assumption) | (exact World.ownsRow.alloc (by with_reducible assumption) _) | ((refine own_below (by with_reducible assumption) ?_); go_grown)), (by go_grown)⟩)) hb
  (try clear hS)
  have hS := hT
  clear hT
  have hB := hS.2.2.2.2.2.2
  have hzw : w.heap.size ≤ w10.heap.size := hB.size
  clear hb
  go_wp2
  go_returns
  exact ⟨ret_eq (by simp), hB⟩
end Go.Proofs.Ytnocgcfepkdjeaa
