/- Law: a site less. -/
import Derived.Test.YtammpdoobbcboaaSiR
import Derived.Test.YtammpdoobbcboaaSiD
import Derived.Test.YtammpdoobbcboaaSeq
namespace Go.Proofs.Ytammpdoobbcboaa
open Go.RowKit

set_option maxHeartbeats 4000000 in
theorem fnDropSite (A : Option Addr) (c : Nat) (l : List Pt) (i : Int) (w : World) (h1 : Hid (Reads w w.heap.size 2 A l.length (flat l))) (bm : l.length ≤ 9223372036854775807)  : Calls Try.prog 5 #[.slice A l.length c, .int .i64 i] w (Gives w (.bool true)) := by
  by_cases hbig : 1048576 < l.length
  · go_enter Try.func5, Try.ntmps5
    go_wp2_with (first | (go_at_call 17; refine (szSiteS_c _ _ _ _ bm (by omega) (by omega) _).mono ?_; rintro e w1 ⟨rfl, rfl⟩; rw [if_pos (by omega)]))
    go_returns
    exact ⟨ret_eq rfl, by go_grown⟩
  have b1 : l.length ≤ 1048576 := by omega
  have HVL := hide (drpV_len l i)
  go_enter Try.func5, Try.ntmps5
  go_wp2_with fail
  refine (szSiteS_c _ _ _ _ bm (by omega) (by omega) _).mono ?_
  rintro e wz ⟨rfl, rfl⟩
  rw [if_neg (by omega)]
  go_wp2_with fail
  refine (toSiteS_c A c l _ (hide (reads_below h1.out (by go_grown))) (by omega)).mono ?_
  rintro e w1 ⟨A1, c1, rfl, ho1, hb⟩
  obtain ⟨b1, ho1, hbk1⟩ := own_based ho1 (m := w.heap.size) (by first | omega | (simp; done) | (simp; omega))
  have hT : w1.ownsRow (b1) 26 2 (.slice A1 l.length c1) (l.length) (flat l) ∧ Below w.heap.size w w1 := ⟨ho1, (fun W h hb => below_via h (hb) : ∀ W : World, (Below w.heap.size w W) → Below W.heap.size W w1 → (Below w.heap.size w w1)) _ (by first | (with_reducible assumption) | go_grown) hb⟩
  (try clear hS)
  have hS := hT
  clear hT
  have hB := hS.2
  have hzw : w.heap.size ≤ w1.heap.size := hB.size
  clear hb
  have hP := hS
  go_wp2_with fail
  refine (sDrop_c _ _ l i _ (hide (own_reads (hS.1))) (by omega) (own_cap (hS.1))).mono ?_
  rintro e w2 ⟨A2, c2, rfl, ho2, hb⟩
  obtain ⟨b2, ho2, hbk2⟩ := own_based ho2 (m := w1.heap.size) (by first | omega | (simp; done) | (simp; omega))
  have ne1_2 := own_ne (hP.1) ho2 hbk2
  clear hP
  have hT : w2.ownsRow (b2) 26 2 (.slice A2 (drpV l i).length c2) ((drpV l i).length) (flat (drpV l i)) ∧ w2.ownsRow (b1) 26 2 (.slice A1 l.length c1) (l.length) (flat l) ∧ Below w.heap.size w w2 := ⟨ho2, (fun W h hb => ⟨own_below h.1 (hb), below_via h.2 (hb)⟩ : ∀ W : World, (W.ownsRow (b1) 26 2 (.slice A1 l.length c1) (l.length) (flat l) ∧ Below w.heap.size w W) → Below W.heap.size W w2 → (w2.ownsRow (b1) 26 2 (.slice A1 l.length c1) (l.length) (flat l) ∧ Below w.heap.size w w2)) _ (by first | (with_reducible assumption) | (exact hS) | (exact ⟨hS.1, (by go_grown)⟩) | (exact ⟨(by first | (with_reducible assumption) | (exact World.ownsRow.alloc (by with_reducible assumption) _) | ((refine own_below (by with_reducible assumption) ?_); go_grown)), (by go_grown)⟩)) hb⟩
  (try clear hS)
  have hS := hT
  clear hT
  have hB := hS.2.2
  have hzw : w.heap.size ≤ w2.heap.size := hB.size
  clear hb
  have hP := hS
  go_wp2_with fail
  refine (toSiteS_c A c l _ (hide (reads_below h1.out (by go_grown))) (by omega)).mono ?_
  rintro e w3 ⟨A3, c3, rfl, ho3, hb⟩
  obtain ⟨b3, ho3, hbk3⟩ := own_based ho3 (m := w2.heap.size) (by first | omega | (simp; done) | (simp; omega))
  have ne1_3 := own_ne (hP.2.1) ho3 hbk3
  have ne2_3 := own_ne (hP.1) ho3 hbk3
  clear hP
  have hT : w3.ownsRow (b3) 26 2 (.slice A3 l.length c3) (l.length) (flat l) ∧ w3.ownsRow (b2) 26 2 (.slice A2 (drpV l i).length c2) ((drpV l i).length) (flat (drpV l i)) ∧ w3.ownsRow (b1) 26 2 (.slice A1 l.length c1) (l.length) (flat l) ∧ Below w.heap.size w w3 := ⟨ho3, (fun W h hb => ⟨own_below h.1 (hb), own_below h.2.1 (hb), below_via h.2.2 (hb)⟩ : ∀ W : World, (W.ownsRow (b2) 26 2 (.slice A2 (drpV l i).length c2) ((drpV l i).length) (flat (drpV l i)) ∧ W.ownsRow (b1) 26 2 (.slice A1 l.length c1) (l.length) (flat l) ∧ Below w.heap.size w W) → Below W.heap.size W w3 → (w3.ownsRow (b2) 26 2 (.slice A2 (drpV l i).length c2) ((drpV l i).length) (flat (drpV l i)) ∧ w3.ownsRow (b1) 26 2 (.slice A1 l.length c1) (l.length) (flat l) ∧ Below w.heap.size w w3)) _ (by first | (with_reducible assumption) | (exact hS) | (exact ⟨hS.1, hS.2.1, (by go_grown)⟩) | (exact ⟨(by first | (with_reducible assumption) | (exact World.ownsRow.alloc (by with_reducible assumption) _) | ((refine own_below (by with_reducible assumption) ?_); go_grown)), (by first | (with_reducible assumption) | (exact World.ownsRow.alloc (by with_reducible assumption) _) | ((refine own_below (by with_reducible assumption) ?_); go_grown)), (by go_grown)⟩)) hb⟩
  (try clear hS)
  have hS := hT
  clear hT
  have hB := hS.2.2.2
  have hzw : w.heap.size ≤ w3.heap.size := hB.size
  clear hb
  have hP := hS
  go_wp2_with fail
  refine (Drop_c _ _ l i _ (hide (own_reads (hS.1))) (by omega) (own_cap (hS.1))).mono ?_
  rintro e w4 ⟨A4, c4, rfl, ho4, hb⟩
  obtain ⟨b4, ho4, hbk4⟩ := own_based ho4 (m := w3.heap.size) (by first | omega | (simp; done) | (simp; omega))
  have ne1_4 := own_ne (hP.2.2.1) ho4 hbk4
  have ne2_4 := own_ne (hP.2.1) ho4 hbk4
  have ne3_4 := own_ne (hP.1) ho4 hbk4
  clear hP
  have hT : w4.ownsRow (b4) 26 2 (.slice A4 (drpV l i).length c4) ((drpV l i).length) (flat (drpV l i)) ∧ w4.ownsRow (b3) 26 2 (.slice A3 l.length c3) (l.length) (flat l) ∧ w4.ownsRow (b2) 26 2 (.slice A2 (drpV l i).length c2) ((drpV l i).length) (flat (drpV l i)) ∧ w4.ownsRow (b1) 26 2 (.slice A1 l.length c1) (l.length) (flat l) ∧ Below w.heap.size w w4 := ⟨ho4, (fun W h hb => ⟨own_below h.1 (hb), own_below h.2.1 (hb), own_below h.2.2.1 (hb), below_via h.2.2.2 (hb)⟩ : ∀ W : World, (W.ownsRow (b3) 26 2 (.slice A3 l.length c3) (l.length) (flat l) ∧ W.ownsRow (b2) 26 2 (.slice A2 (drpV l i).length c2) ((drpV l i).length) (flat (drpV l i)) ∧ W.ownsRow (b1) 26 2 (.slice A1 l.length c1) (l.length) (flat l) ∧ Below w.heap.size w W) → Below W.heap.size W w4 → (w4.ownsRow (b3) 26 2 (.slice A3 l.length c3) (l.length) (flat l) ∧ w4.ownsRow (b2) 26 2 (.slice A2 (drpV l i).length c2) ((drpV l i).length) (flat (drpV l i)) ∧ w4.ownsRow (b1) 26 2 (.slice A1 l.length c1) (l.length) (flat l) ∧ Below w.heap.size w w4)) _ (by first | (with_reducible assumption) | (exact hS) | (exact ⟨hS.1, hS.2.1, hS.2.2.1, (by go_grown)⟩) | (exact ⟨(by first | (with_reducible assumption) | (exact World.ownsRow.alloc (by with_reducible assumption) _) | ((refine own_below (by with_reducible assumption) ?_); go_grown)), (by first | (with_reducible assumption) | (exact World.ownsRow.alloc (by with_reducible assumption) _) | ((refine own_below (by with_reducible assumption) ?_); go_grown)), (by first | (with_reducible assumption) | (exact World.ownsRow.alloc (by with_reducible assumption) _) | ((refine own_below (by with_reducible assumption) ?_); go_grown)), (by go_grown)⟩)) hb⟩
  (try clear hS)
  have hS := hT
  clear hT
  have hB := hS.2.2.2.2
  have hzw : w.heap.size ≤ w4.heap.size := hB.size
  clear hb
  go_wp2_with fail
  refine (eqSiteS_c _ _ _ _ (drpV l i) (drpV l i) _ (hide (own_reads (hS.1))) (hide (own_reads (hS.2.2.1))) (by have := HVL.out; omega) (by have := HVL.out; omega)).mono ?_
  rintro e w5 ⟨rfl, hb⟩
  have hT : w5.ownsRow (b4) 26 2 (.slice A4 (drpV l i).length c4) ((drpV l i).length) (flat (drpV l i)) ∧ w5.ownsRow (b3) 26 2 (.slice A3 l.length c3) (l.length) (flat l) ∧ w5.ownsRow (b2) 26 2 (.slice A2 (drpV l i).length c2) ((drpV l i).length) (flat (drpV l i)) ∧ w5.ownsRow (b1) 26 2 (.slice A1 l.length c1) (l.length) (flat l) ∧ Below w.heap.size w w5 := (fun W h hb => ⟨own_below h.1 (hb), own_below h.2.1 (hb), own_below h.2.2.1 (hb), own_below h.2.2.2.1 (hb), below_via h.2.2.2.2 (hb)⟩ : ∀ W : World, (W.ownsRow (b4) 26 2 (.slice A4 (drpV l i).length c4) ((drpV l i).length) (flat (drpV l i)) ∧ W.ownsRow (b3) 26 2 (.slice A3 l.length c3) (l.length) (flat l) ∧ W.ownsRow (b2) 26 2 (.slice A2 (drpV l i).length c2) ((drpV l i).length) (flat (drpV l i)) ∧ W.ownsRow (b1) 26 2 (.slice A1 l.length c1) (l.length) (flat l) ∧ Below w.heap.size w W) → Below W.heap.size W w5 → (w5.ownsRow (b4) 26 2 (.slice A4 (drpV l i).length c4) ((drpV l i).length) (flat (drpV l i)) ∧ w5.ownsRow (b3) 26 2 (.slice A3 l.length c3) (l.length) (flat l) ∧ w5.ownsRow (b2) 26 2 (.slice A2 (drpV l i).length c2) ((drpV l i).length) (flat (drpV l i)) ∧ w5.ownsRow (b1) 26 2 (.slice A1 l.length c1) (l.length) (flat l) ∧ Below w.heap.size w w5)) _ (by first | (with_reducible assumption) | (exact hS) | (exact ⟨hS.1, hS.2.1, hS.2.2.1, hS.2.2.2.1, (by go_grown)⟩) | (exact ⟨(by first | (with_reducible assumption) | (exact World.ownsRow.alloc (by with_reducible assumption) _) | ((refine own_below (by with_reducible assumption) ?_); go_grown)), (by first | (with_reducible assumption) | (exact World.ownsRow.alloc (by with_reducible assumption) _) | ((refine own_below (by with_reducible assumption) ?_); go_grown)), (by first | (with_reducible assumption) | (exact World.ownsRow.alloc (by with_reducible assumption) _) | ((refine own_below (by with_reducible assumption) ?_); go_grown)), (by first | (with_reducible assumption) | (exact World.ownsRow.alloc (by with_reducible assumption) _) | ((refine own_below (by with_reducible assumption) ?_); go_grown)), (by go_grown)⟩)) hb
  (try clear hS)
  have hS := hT
  clear hT
  have hB := hS.2.2.2.2
  have hzw : w.heap.size ≤ w5.heap.size := hB.size
  clear hb
  have hP := hS
  go_wp2_with fail
  refine (toSiteS_c A c l _ (hide (reads_below h1.out (by go_grown))) (by omega)).mono ?_
  rintro e w6 ⟨A5, c5, rfl, ho5, hb⟩
  obtain ⟨b5, ho5, hbk5⟩ := own_based ho5 (m := w5.heap.size) (by first | omega | (simp; done) | (simp; omega))
  have ne1_5 := own_ne (hP.2.2.2.1) ho5 hbk5
  have ne2_5 := own_ne (hP.2.2.1) ho5 hbk5
  have ne3_5 := own_ne (hP.2.1) ho5 hbk5
  have ne4_5 := own_ne (hP.1) ho5 hbk5
  clear hP
  have hT : w6.ownsRow (b5) 26 2 (.slice A5 l.length c5) (l.length) (flat l) ∧ w6.ownsRow (b4) 26 2 (.slice A4 (drpV l i).length c4) ((drpV l i).length) (flat (drpV l i)) ∧ w6.ownsRow (b3) 26 2 (.slice A3 l.length c3) (l.length) (flat l) ∧ w6.ownsRow (b2) 26 2 (.slice A2 (drpV l i).length c2) ((drpV l i).length) (flat (drpV l i)) ∧ w6.ownsRow (b1) 26 2 (.slice A1 l.length c1) (l.length) (flat l) ∧ Below w.heap.size w w6 := ⟨ho5, (fun W h hb => ⟨own_below h.1 (hb), own_below h.2.1 (hb), own_below h.2.2.1 (hb), own_below h.2.2.2.1 (hb), below_via h.2.2.2.2 (hb)⟩ : ∀ W : World, (W.ownsRow (b4) 26 2 (.slice A4 (drpV l i).length c4) ((drpV l i).length) (flat (drpV l i)) ∧ W.ownsRow (b3) 26 2 (.slice A3 l.length c3) (l.length) (flat l) ∧ W.ownsRow (b2) 26 2 (.slice A2 (drpV l i).length c2) ((drpV l i).length) (flat (drpV l i)) ∧ W.ownsRow (b1) 26 2 (.slice A1 l.length c1) (l.length) (flat l) ∧ Below w.heap.size w W) → Below W.heap.size W w6 → (w6.ownsRow (b4) 26 2 (.slice A4 (drpV l i).length c4) ((drpV l i).length) (flat (drpV l i)) ∧ w6.ownsRow (b3) 26 2 (.slice A3 l.length c3) (l.length) (flat l) ∧ w6.ownsRow (b2) 26 2 (.slice A2 (drpV l i).length c2) ((drpV l i).length) (flat (drpV l i)) ∧ w6.ownsRow (b1) 26 2 (.slice A1 l.length c1) (l.length) (flat l) ∧ Below w.heap.size w w6)) _ (by first | (with_reducible assumption) | (exact hS) | (exact ⟨hS.1, hS.2.1, hS.2.2.1, hS.2.2.2.1, (by go_grown)⟩) | (exact ⟨(by first | (with_reducible assumption) | (exact World.ownsRow.alloc (by with_reducible assumption) _) | ((refine own_below (by with_reducible assumption) ?_); go_grown)), (by first | (with_reducible assumption) | (exact World.ownsRow.alloc (by with_reducible assumption) _) | ((refine own_below (by with_reducible assumption) ?_); go_grown)), (by first | (with_reducible assumption) | (exact World.ownsRow.alloc (by with_reducible assumption) _) | ((refine own_below (by with_reducible assumption) ?_); go_grown)), (by first | (with_reducible assumption) | (exact World.ownsRow.alloc (by with_reducible assumption) _) | ((refine own_below (by with_reducible assumption) ?_); go_grown)), (by go_grown)⟩)) hb⟩
  (try clear hS)
  have hS := hT
  clear hT
  have hB := hS.2.2.2.2.2
  have hzw : w.heap.size ≤ w6.heap.size := hB.size
  clear hb
  go_wp2_with fail
  refine (eqSiteS_c _ _ _ _ (l) (l) _ (hide (own_reads (hS.2.2.1))) (hide (own_reads (hS.1))) (by omega) (by omega)).mono ?_
  rintro e w7 ⟨rfl, hb⟩
  have hT : w7.ownsRow (b5) 26 2 (.slice A5 l.length c5) (l.length) (flat l) ∧ w7.ownsRow (b4) 26 2 (.slice A4 (drpV l i).length c4) ((drpV l i).length) (flat (drpV l i)) ∧ w7.ownsRow (b3) 26 2 (.slice A3 l.length c3) (l.length) (flat l) ∧ w7.ownsRow (b2) 26 2 (.slice A2 (drpV l i).length c2) ((drpV l i).length) (flat (drpV l i)) ∧ w7.ownsRow (b1) 26 2 (.slice A1 l.length c1) (l.length) (flat l) ∧ Below w.heap.size w w7 := (fun W h hb => ⟨own_below h.1 (hb), own_below h.2.1 (hb), own_below h.2.2.1 (hb), own_below h.2.2.2.1 (hb), own_below h.2.2.2.2.1 (hb), below_via h.2.2.2.2.2 (hb)⟩ : ∀ W : World, (W.ownsRow (b5) 26 2 (.slice A5 l.length c5) (l.length) (flat l) ∧ W.ownsRow (b4) 26 2 (.slice A4 (drpV l i).length c4) ((drpV l i).length) (flat (drpV l i)) ∧ W.ownsRow (b3) 26 2 (.slice A3 l.length c3) (l.length) (flat l) ∧ W.ownsRow (b2) 26 2 (.slice A2 (drpV l i).length c2) ((drpV l i).length) (flat (drpV l i)) ∧ W.ownsRow (b1) 26 2 (.slice A1 l.length c1) (l.length) (flat l) ∧ Below w.heap.size w W) → Below W.heap.size W w7 → (w7.ownsRow (b5) 26 2 (.slice A5 l.length c5) (l.length) (flat l) ∧ w7.ownsRow (b4) 26 2 (.slice A4 (drpV l i).length c4) ((drpV l i).length) (flat (drpV l i)) ∧ w7.ownsRow (b3) 26 2 (.slice A3 l.length c3) (l.length) (flat l) ∧ w7.ownsRow (b2) 26 2 (.slice A2 (drpV l i).length c2) ((drpV l i).length) (flat (drpV l i)) ∧ w7.ownsRow (b1) 26 2 (.slice A1 l.length c1) (l.length) (flat l) ∧ Below w.heap.size w w7)) _ (by first | (with_reducible assumption) | (exact hS) | (exact ⟨hS.1, hS.2.1, hS.2.2.1, hS.2.2.2.1, hS.2.2.2.2.1, (by go_grown)⟩) | (exact ⟨(by first | (with_reducible assumption) | (exact World.ownsRow.alloc (by with_reducible assumption) _) | ((refine own_below (by with_reducible assumption) ?_); go_grown)), (by first | (with_reducible assumption) | (exact World.ownsRow.alloc (by with_reducible assumption) _) | ((refine own_below (by with_reducible assumption) ?_); go_grown)), (by first | (with_reducible assumption) | (exact World.ownsRow.alloc (by with_reducible assumption) _) | ((refine own_below (by with_reducible assumption) ?_); go_grown)), (by first | (with_reducible assumption) | (exact World.ownsRow.alloc (by with_reducible assumption) _) | ((refine own_below (by with_reducible assumption) ?_); go_grown)), (by first | (with_reducible assumption) | (exact World.ownsRow.alloc (by with_reducible assumption) _) | ((refine own_below (by with_reducible assumption) ?_); go_grown)), (by go_grown)⟩)) hb
  (try clear hS)
  have hS := hT
  clear hT
  have hB := hS.2.2.2.2.2
  have hzw : w.heap.size ≤ w7.heap.size := hB.size
  clear hb
  go_wp2_with fail
  refine (markSiteS_c _ _ (l.length) _ _ 1 _ (hide (hS.2.2.1)) (by omega) (by omega) (by omega)).mono ?_
  rintro e w8 ⟨rfl, hn, hg⟩
  have hT : w8.ownsRow (b5) 26 2 (.slice A5 l.length c5) (l.length) (flat l) ∧ w8.ownsRow (b4) 26 2 (.slice A4 (drpV l i).length c4) ((drpV l i).length) (flat (drpV l i)) ∧ w8.ownsRow (b3) 26 2 (.slice A3 l.length c3) (l.length) (seqV (l.length * 2) 1) ∧ w8.ownsRow (b2) 26 2 (.slice A2 (drpV l i).length c2) ((drpV l i).length) (flat (drpV l i)) ∧ w8.ownsRow (b1) 26 2 (.slice A1 l.length c1) (l.length) (flat l) ∧ Below w.heap.size w w8 := ⟨World.ownsRow.kept (hS.1) hg ne3_5.2, World.ownsRow.kept (hS.2.1) hg ne3_4.2, hn, World.ownsRow.kept (hS.2.2.2.1) hg ne2_3.1, World.ownsRow.kept (hS.2.2.2.2.1) hg ne1_3.1, own_grown (hS.2.2.1) hg (hS.2.2.2.2.2) hzw (by omega)⟩
  clear hS
  have hS := hT
  clear hT
  have hB := hS.2.2.2.2.2
  have hzw : w.heap.size ≤ w8.heap.size := hB.size
  clear hn hg
  go_wp2_with fail
  refine (eqSiteS_c _ _ _ _ (drpV l i) (drpV l i) _ (hide (own_reads (hS.2.1))) (hide (own_reads (hS.2.2.2.1))) (by have := HVL.out; omega) (by have := HVL.out; omega)).mono ?_
  rintro e w9 ⟨rfl, hb⟩
  have hT : w9.ownsRow (b5) 26 2 (.slice A5 l.length c5) (l.length) (flat l) ∧ w9.ownsRow (b4) 26 2 (.slice A4 (drpV l i).length c4) ((drpV l i).length) (flat (drpV l i)) ∧ w9.ownsRow (b3) 26 2 (.slice A3 l.length c3) (l.length) (seqV (l.length * 2) 1) ∧ w9.ownsRow (b2) 26 2 (.slice A2 (drpV l i).length c2) ((drpV l i).length) (flat (drpV l i)) ∧ w9.ownsRow (b1) 26 2 (.slice A1 l.length c1) (l.length) (flat l) ∧ Below w.heap.size w w9 := (fun W h hb => ⟨own_below h.1 (hb), own_below h.2.1 (hb), own_below h.2.2.1 (hb), own_below h.2.2.2.1 (hb), own_below h.2.2.2.2.1 (hb), below_via h.2.2.2.2.2 (hb)⟩ : ∀ W : World, (W.ownsRow (b5) 26 2 (.slice A5 l.length c5) (l.length) (flat l) ∧ W.ownsRow (b4) 26 2 (.slice A4 (drpV l i).length c4) ((drpV l i).length) (flat (drpV l i)) ∧ W.ownsRow (b3) 26 2 (.slice A3 l.length c3) (l.length) (seqV (l.length * 2) 1) ∧ W.ownsRow (b2) 26 2 (.slice A2 (drpV l i).length c2) ((drpV l i).length) (flat (drpV l i)) ∧ W.ownsRow (b1) 26 2 (.slice A1 l.length c1) (l.length) (flat l) ∧ Below w.heap.size w W) → Below W.heap.size W w9 → (w9.ownsRow (b5) 26 2 (.slice A5 l.length c5) (l.length) (flat l) ∧ w9.ownsRow (b4) 26 2 (.slice A4 (drpV l i).length c4) ((drpV l i).length) (flat (drpV l i)) ∧ w9.ownsRow (b3) 26 2 (.slice A3 l.length c3) (l.length) (seqV (l.length * 2) 1) ∧ w9.ownsRow (b2) 26 2 (.slice A2 (drpV l i).length c2) ((drpV l i).length) (flat (drpV l i)) ∧ w9.ownsRow (b1) 26 2 (.slice A1 l.length c1) (l.length) (flat l) ∧ Below w.heap.size w w9)) _ (by first | (with_reducible assumption) | (exact hS) | (exact ⟨hS.1, hS.2.1, hS.2.2.1, hS.2.2.2.1, hS.2.2.2.2.1, (by go_grown)⟩) | (exact ⟨(by first | (with_reducible assumption) | (exact World.ownsRow.alloc (by with_reducible assumption) _) | ((refine own_below (by with_reducible assumption) ?_); go_grown)), (by first | (with_reducible assumption) | (exact World.ownsRow.alloc (by with_reducible assumption) _) | ((refine own_below (by with_reducible assumption) ?_); go_grown)), (by first | (with_reducible assumption) | (exact World.ownsRow.alloc (by with_reducible assumption) _) | ((refine own_below (by with_reducible assumption) ?_); go_grown)), (by first | (with_reducible assumption) | (exact World.ownsRow.alloc (by with_reducible assumption) _) | ((refine own_below (by with_reducible assumption) ?_); go_grown)), (by first | (with_reducible assumption) | (exact World.ownsRow.alloc (by with_reducible assumption) _) | ((refine own_below (by with_reducible assumption) ?_); go_grown)), (by go_grown)⟩)) hb
  (try clear hS)
  have hS := hT
  clear hT
  have hB := hS.2.2.2.2.2
  have hzw : w.heap.size ≤ w9.heap.size := hB.size
  clear hb
  go_wp2_with fail
  refine (markSiteS_c _ _ ((drpV l i).length) _ _ 1 _ (hide (hS.2.1)) (by have := HVL.out; omega) (by omega) (by omega)).mono ?_
  rintro e w10 ⟨rfl, hn, hg⟩
  have hT : w10.ownsRow (b5) 26 2 (.slice A5 l.length c5) (l.length) (flat l) ∧ w10.ownsRow (b4) 26 2 (.slice A4 (drpV l i).length c4) ((drpV l i).length) (seqV ((drpV l i).length * 2) 1) ∧ w10.ownsRow (b3) 26 2 (.slice A3 l.length c3) (l.length) (seqV (l.length * 2) 1) ∧ w10.ownsRow (b2) 26 2 (.slice A2 (drpV l i).length c2) ((drpV l i).length) (flat (drpV l i)) ∧ w10.ownsRow (b1) 26 2 (.slice A1 l.length c1) (l.length) (flat l) ∧ Below w.heap.size w w10 := ⟨World.ownsRow.kept (hS.1) hg ne4_5.2, hn, World.ownsRow.kept (hS.2.2.1) hg ne3_4.1, World.ownsRow.kept (hS.2.2.2.1) hg ne2_4.1, World.ownsRow.kept (hS.2.2.2.2.1) hg ne1_4.1, own_grown (hS.2.1) hg (hS.2.2.2.2.2) hzw (by omega)⟩
  clear hS
  have hS := hT
  clear hT
  have hB := hS.2.2.2.2.2
  have hzw : w.heap.size ≤ w10.heap.size := hB.size
  clear hn hg
  go_wp2_with fail
  refine (heldSiteS_c _ _ ((drpV l i).length) 1 _ (hide (own_reads (hS.2.1))) (by have := HVL.out; omega) (by omega) (by omega)).mono ?_
  rintro e wz ⟨rfl, rfl⟩
  have hP := hS
  go_wp2_with fail
  refine (toSiteS_c A c l _ (hide (reads_below h1.out (by go_grown))) (by omega)).mono ?_
  rintro e w11 ⟨A6, c6, rfl, ho6, hb⟩
  obtain ⟨b6, ho6, hbk6⟩ := own_based ho6 (m := w10.heap.size) (by first | omega | (simp; done) | (simp; omega))
  have ne1_6 := own_ne (hP.2.2.2.2.1) ho6 hbk6
  have ne2_6 := own_ne (hP.2.2.2.1) ho6 hbk6
  have ne3_6 := own_ne (hP.2.2.1) ho6 hbk6
  have ne4_6 := own_ne (hP.2.1) ho6 hbk6
  have ne5_6 := own_ne (hP.1) ho6 hbk6
  clear hP
  have hT : w11.ownsRow (b6) 26 2 (.slice A6 l.length c6) (l.length) (flat l) ∧ w11.ownsRow (b5) 26 2 (.slice A5 l.length c5) (l.length) (flat l) ∧ w11.ownsRow (b4) 26 2 (.slice A4 (drpV l i).length c4) ((drpV l i).length) (seqV ((drpV l i).length * 2) 1) ∧ w11.ownsRow (b3) 26 2 (.slice A3 l.length c3) (l.length) (seqV (l.length * 2) 1) ∧ w11.ownsRow (b2) 26 2 (.slice A2 (drpV l i).length c2) ((drpV l i).length) (flat (drpV l i)) ∧ w11.ownsRow (b1) 26 2 (.slice A1 l.length c1) (l.length) (flat l) ∧ Below w.heap.size w w11 := ⟨ho6, (fun W h hb => ⟨own_below h.1 (hb), own_below h.2.1 (hb), own_below h.2.2.1 (hb), own_below h.2.2.2.1 (hb), own_below h.2.2.2.2.1 (hb), below_via h.2.2.2.2.2 (hb)⟩ : ∀ W : World, (W.ownsRow (b5) 26 2 (.slice A5 l.length c5) (l.length) (flat l) ∧ W.ownsRow (b4) 26 2 (.slice A4 (drpV l i).length c4) ((drpV l i).length) (seqV ((drpV l i).length * 2) 1) ∧ W.ownsRow (b3) 26 2 (.slice A3 l.length c3) (l.length) (seqV (l.length * 2) 1) ∧ W.ownsRow (b2) 26 2 (.slice A2 (drpV l i).length c2) ((drpV l i).length) (flat (drpV l i)) ∧ W.ownsRow (b1) 26 2 (.slice A1 l.length c1) (l.length) (flat l) ∧ Below w.heap.size w W) → Below W.heap.size W w11 → (w11.ownsRow (b5) 26 2 (.slice A5 l.length c5) (l.length) (flat l) ∧ w11.ownsRow (b4) 26 2 (.slice A4 (drpV l i).length c4) ((drpV l i).length) (seqV ((drpV l i).length * 2) 1) ∧ w11.ownsRow (b3) 26 2 (.slice A3 l.length c3) (l.length) (seqV (l.length * 2) 1) ∧ w11.ownsRow (b2) 26 2 (.slice A2 (drpV l i).length c2) ((drpV l i).length) (flat (drpV l i)) ∧ w11.ownsRow (b1) 26 2 (.slice A1 l.length c1) (l.length) (flat l) ∧ Below w.heap.size w w11)) _ (by first | (with_reducible assumption) | (exact hS) | (exact ⟨hS.1, hS.2.1, hS.2.2.1, hS.2.2.2.1, hS.2.2.2.2.1, (by go_grown)⟩) | (exact ⟨(by first | (with_reducible assumption) | (exact World.ownsRow.alloc (by with_reducible assumption) _) | ((refine own_below (by with_reducible assumption) ?_); go_grown)), (by first | (with_reducible assumption) | (exact World.ownsRow.alloc (by with_reducible assumption) _) | ((refine own_below (by with_reducible assumption) ?_); go_grown)), (by first | (with_reducible assumption) | (exact World.ownsRow.alloc (by with_reducible assumption) _) | ((refine own_below (by with_reducible assumption) ?_); go_grown)), (by first | (with_reducible assumption) | (exact World.ownsRow.alloc (by with_reducible assumption) _) | ((refine own_below (by with_reducible assumption) ?_); go_grown)), (by first | (with_reducible assumption) | (exact World.ownsRow.alloc (by with_reducible assumption) _) | ((refine own_below (by with_reducible assumption) ?_); go_grown)), (by go_grown)⟩)) hb⟩
  (try clear hS)
  have hS := hT
  clear hT
  have hB := hS.2.2.2.2.2.2
  have hzw : w.heap.size ≤ w11.heap.size := hB.size
  clear hb
  have hP := hS
  go_wp2_with fail
  refine (Drop_c _ _ l i _ (hide (own_reads (hS.1))) (by omega) (own_cap (hS.1))).mono ?_
  rintro e w12 ⟨A7, c7, rfl, ho7, hb⟩
  obtain ⟨b7, ho7, hbk7⟩ := own_based ho7 (m := w11.heap.size) (by first | omega | (simp; done) | (simp; omega))
  have ne1_7 := own_ne (hP.2.2.2.2.2.1) ho7 hbk7
  have ne2_7 := own_ne (hP.2.2.2.2.1) ho7 hbk7
  have ne3_7 := own_ne (hP.2.2.2.1) ho7 hbk7
  have ne4_7 := own_ne (hP.2.2.1) ho7 hbk7
  have ne5_7 := own_ne (hP.2.1) ho7 hbk7
  have ne6_7 := own_ne (hP.1) ho7 hbk7
  clear hP
  have hT : w12.ownsRow (b7) 26 2 (.slice A7 (drpV l i).length c7) ((drpV l i).length) (flat (drpV l i)) ∧ w12.ownsRow (b6) 26 2 (.slice A6 l.length c6) (l.length) (flat l) ∧ w12.ownsRow (b5) 26 2 (.slice A5 l.length c5) (l.length) (flat l) ∧ w12.ownsRow (b4) 26 2 (.slice A4 (drpV l i).length c4) ((drpV l i).length) (seqV ((drpV l i).length * 2) 1) ∧ w12.ownsRow (b3) 26 2 (.slice A3 l.length c3) (l.length) (seqV (l.length * 2) 1) ∧ w12.ownsRow (b2) 26 2 (.slice A2 (drpV l i).length c2) ((drpV l i).length) (flat (drpV l i)) ∧ w12.ownsRow (b1) 26 2 (.slice A1 l.length c1) (l.length) (flat l) ∧ Below w.heap.size w w12 := ⟨ho7, (fun W h hb => ⟨own_below h.1 (hb), own_below h.2.1 (hb), own_below h.2.2.1 (hb), own_below h.2.2.2.1 (hb), own_below h.2.2.2.2.1 (hb), own_below h.2.2.2.2.2.1 (hb), below_via h.2.2.2.2.2.2 (hb)⟩ : ∀ W : World, (W.ownsRow (b6) 26 2 (.slice A6 l.length c6) (l.length) (flat l) ∧ W.ownsRow (b5) 26 2 (.slice A5 l.length c5) (l.length) (flat l) ∧ W.ownsRow (b4) 26 2 (.slice A4 (drpV l i).length c4) ((drpV l i).length) (seqV ((drpV l i).length * 2) 1) ∧ W.ownsRow (b3) 26 2 (.slice A3 l.length c3) (l.length) (seqV (l.length * 2) 1) ∧ W.ownsRow (b2) 26 2 (.slice A2 (drpV l i).length c2) ((drpV l i).length) (flat (drpV l i)) ∧ W.ownsRow (b1) 26 2 (.slice A1 l.length c1) (l.length) (flat l) ∧ Below w.heap.size w W) → Below W.heap.size W w12 → (w12.ownsRow (b6) 26 2 (.slice A6 l.length c6) (l.length) (flat l) ∧ w12.ownsRow (b5) 26 2 (.slice A5 l.length c5) (l.length) (flat l) ∧ w12.ownsRow (b4) 26 2 (.slice A4 (drpV l i).length c4) ((drpV l i).length) (seqV ((drpV l i).length * 2) 1) ∧ w12.ownsRow (b3) 26 2 (.slice A3 l.length c3) (l.length) (seqV (l.length * 2) 1) ∧ w12.ownsRow (b2) 26 2 (.slice A2 (drpV l i).length c2) ((drpV l i).length) (flat (drpV l i)) ∧ w12.ownsRow (b1) 26 2 (.slice A1 l.length c1) (l.length) (flat l) ∧ Below w.heap.size w w12)) _ (by first | (with_reducible assumption) | (exact hS) | (exact ⟨hS.1, hS.2.1, hS.2.2.1, hS.2.2.2.1, hS.2.2.2.2.1, hS.2.2.2.2.2.1, (by go_grown)⟩) | (exact ⟨(by first | (with_reducible assumption) | (exact World.ownsRow.alloc (by with_reducible assumption) _) | ((refine own_below (by with_reducible assumption) ?_); go_grown)), (by first | (with_reducible assumption) | (exact World.ownsRow.alloc (by with_reducible assumption) _) | ((refine own_below (by with_reducible assumption) ?_); go_grown)), (by first | (with_reducible assumption) | (exact World.ownsRow.alloc (by with_reducible assumption) _) | ((refine own_below (by with_reducible assumption) ?_); go_grown)), (by first | (with_reducible assumption) | (exact World.ownsRow.alloc (by with_reducible assumption) _) | ((refine own_below (by with_reducible assumption) ?_); go_grown)), (by first | (with_reducible assumption) | (exact World.ownsRow.alloc (by with_reducible assumption) _) | ((refine own_below (by with_reducible assumption) ?_); go_grown)), (by first | (with_reducible assumption) | (exact World.ownsRow.alloc (by with_reducible assumption) _) | ((refine own_below (by with_reducible assumption) ?_); go_grown)), (by go_grown)⟩)) hb⟩
  (try clear hS)
  have hS := hT
  clear hT
  have hB := hS.2.2.2.2.2.2.2
  have hzw : w.heap.size ≤ w12.heap.size := hB.size
  clear hb
  go_wp2_with fail
  refine (eqSiteS_c _ _ _ _ (drpV l i) (drpV l i) _ (hide (own_reads (hS.1))) (hide (own_reads (hS.2.2.2.2.2.1))) (by have := HVL.out; omega) (by have := HVL.out; omega)).mono ?_
  rintro e w13 ⟨rfl, hb⟩
  have hT : w13.ownsRow (b7) 26 2 (.slice A7 (drpV l i).length c7) ((drpV l i).length) (flat (drpV l i)) ∧ w13.ownsRow (b6) 26 2 (.slice A6 l.length c6) (l.length) (flat l) ∧ w13.ownsRow (b5) 26 2 (.slice A5 l.length c5) (l.length) (flat l) ∧ w13.ownsRow (b4) 26 2 (.slice A4 (drpV l i).length c4) ((drpV l i).length) (seqV ((drpV l i).length * 2) 1) ∧ w13.ownsRow (b3) 26 2 (.slice A3 l.length c3) (l.length) (seqV (l.length * 2) 1) ∧ w13.ownsRow (b2) 26 2 (.slice A2 (drpV l i).length c2) ((drpV l i).length) (flat (drpV l i)) ∧ w13.ownsRow (b1) 26 2 (.slice A1 l.length c1) (l.length) (flat l) ∧ Below w.heap.size w w13 := (fun W h hb => ⟨own_below h.1 (hb), own_below h.2.1 (hb), own_below h.2.2.1 (hb), own_below h.2.2.2.1 (hb), own_below h.2.2.2.2.1 (hb), own_below h.2.2.2.2.2.1 (hb), own_below h.2.2.2.2.2.2.1 (hb), below_via h.2.2.2.2.2.2.2 (hb)⟩ : ∀ W : World, (W.ownsRow (b7) 26 2 (.slice A7 (drpV l i).length c7) ((drpV l i).length) (flat (drpV l i)) ∧ W.ownsRow (b6) 26 2 (.slice A6 l.length c6) (l.length) (flat l) ∧ W.ownsRow (b5) 26 2 (.slice A5 l.length c5) (l.length) (flat l) ∧ W.ownsRow (b4) 26 2 (.slice A4 (drpV l i).length c4) ((drpV l i).length) (seqV ((drpV l i).length * 2) 1) ∧ W.ownsRow (b3) 26 2 (.slice A3 l.length c3) (l.length) (seqV (l.length * 2) 1) ∧ W.ownsRow (b2) 26 2 (.slice A2 (drpV l i).length c2) ((drpV l i).length) (flat (drpV l i)) ∧ W.ownsRow (b1) 26 2 (.slice A1 l.length c1) (l.length) (flat l) ∧ Below w.heap.size w W) → Below W.heap.size W w13 → (w13.ownsRow (b7) 26 2 (.slice A7 (drpV l i).length c7) ((drpV l i).length) (flat (drpV l i)) ∧ w13.ownsRow (b6) 26 2 (.slice A6 l.length c6) (l.length) (flat l) ∧ w13.ownsRow (b5) 26 2 (.slice A5 l.length c5) (l.length) (flat l) ∧ w13.ownsRow (b4) 26 2 (.slice A4 (drpV l i).length c4) ((drpV l i).length) (seqV ((drpV l i).length * 2) 1) ∧ w13.ownsRow (b3) 26 2 (.slice A3 l.length c3) (l.length) (seqV (l.length * 2) 1) ∧ w13.ownsRow (b2) 26 2 (.slice A2 (drpV l i).length c2) ((drpV l i).length) (flat (drpV l i)) ∧ w13.ownsRow (b1) 26 2 (.slice A1 l.length c1) (l.length) (flat l) ∧ Below w.heap.size w w13)) _ (by first | (with_reducible assumption) | (exact hS) | (exact ⟨hS.1, hS.2.1, hS.2.2.1, hS.2.2.2.1, hS.2.2.2.2.1, hS.2.2.2.2.2.1, hS.2.2.2.2.2.2.1, (by go_grown)⟩) | (exact ⟨(by first | (with_reducible assumption) | (exact World.ownsRow.alloc (by with_reducible assumption) _) | ((refine own_below (by with_reducible assumption) ?_); go_grown)), (by first | (with_reducible assumption) | (exact World.ownsRow.alloc (by with_reducible assumption) _) | ((refine own_below (by with_reducible assumption) ?_); go_grown)), (by first | (with_reducible assumption) | (exact World.ownsRow.alloc (by with_reducible assumption) _) | ((refine own_below (by with_reducible assumption) ?_); go_grown)), (by first | (with_reducible assumption) | (exact World.ownsRow.alloc (by with_reducible assumption) _) | ((refine own_below (by with_reducible assumption) ?_); go_grown)), (by first | (with_reducible assumption) | (exact World.ownsRow.alloc (by with_reducible assumption) _) | ((refine own_below (by with_reducible assumption) ?_); go_grown)), (by first | (with_reducible assumption) | (exact World.ownsRow.alloc (by with_reducible assumption) _) | ((refine own_below (by with_reducible assumption) ?_); go_grown)), (by first | (with_reducible assumption) | (exact World.ownsRow.alloc (by with_reducible assumption) _) | ((refine own_below (by with_reducible assumption) ?_); go_grown)), (by go_grown)⟩)) hb
  (try clear hS)
  have hS := hT
  clear hT
  have hB := hS.2.2.2.2.2.2.2
  have hzw : w.heap.size ≤ w13.heap.size := hB.size
  clear hb
  go_wp2_with fail
  refine (heldSiteS_c _ _ ((drpV l i).length) 1 _ (hide (own_reads (hS.2.2.2.1))) (by have := HVL.out; omega) (by omega) (by omega)).mono ?_
  rintro e wz ⟨rfl, rfl⟩
  go_wp2
  go_returns
  exact ⟨ret_eq (by simp), hB⟩
end Go.Proofs.Ytammpdoobbcboaa
