/- Law: the best point. -/
import Derived.Test.YtnocgcfepkdjeaaSbF
import Derived.Test.YtnocgcfepkdjeaaSiDp
import Derived.Test.YtnocgcfepkdjeaaSeq
namespace Go.Proofs.Ytnocgcfepkdjeaa
open Go.RowKit

theorem eqSame_c (x y : Int) (w : World) : Calls Try.prog 21 #[.agg #[.int .i64 x, .int .i64 y], .agg #[.int .i64 x, .int .i64 y]] w (Gives w (.bool true)) := by
  have h := eqSite_c x y x y w
  rw [show peq (x, y) (x, y) = true from decide_eq_true rfl] at h
  exact h

set_option maxHeartbeats 4000000 in
theorem fnBestPoint (A : Option Addr) (c : Nat) (l : List Pt) (Ar : Option Addr) (cr : Nat) (a : List Int) (w : World) (h1 : Hid (Reads w w.heap.size 2 A l.length (flat l))) (bm : l.length ≤ 9223372036854775807) (h2 : Hid (Reads w w.heap.size 1 Ar a.length (ints a)))  : Calls Try.prog 4 #[.slice A l.length c, .slice Ar a.length cr] w (Gives w (.bool true)) := by
  by_cases hbig2 : 1048576 < a.length
  · go_enter Try.func4, Try.ntmps4
    go_wp2
    go_returns
    exact ⟨ret_eq rfl, by go_grown⟩
  have b2 : a.length ≤ 1048576 := by omega
  by_cases hbig : 1048576 < l.length
  · go_enter Try.func4, Try.ntmps4
    go_wp2_with (first | (go_at_call 13; refine (szSiteS_c _ _ _ _ bm (by omega) (by omega) _).mono ?_; rintro e w1 ⟨rfl, rfl⟩; rw [if_pos (by omega)]))
    go_returns
    exact ⟨ret_eq rfl, by go_grown⟩
  have b1 : l.length ≤ 1048576 := by omega
  go_enter Try.func4, Try.ntmps4
  go_wp2_with fail
  refine (szSiteS_c _ _ _ _ bm (by omega) (by omega) _).mono ?_
  rintro e wz ⟨rfl, rfl⟩
  rw [if_neg (by omega)]
  go_wp2_with fail
  refine (toSiteS_c A c l _ (hide (reads_below h1.out (by go_grown))) (by omega)).mono ?_
  rintro e w1 ⟨A1, c1, rfl, ho1, hb⟩
  obtain ⟨b1, ho1, hbk1⟩ := own_based ho1 (m := w.heap.size) (by first | omega | (simp; done) | (simp; omega))
  have hT : w1.ownsRow (b1) 32 2 (.slice A1 l.length c1) (l.length) (flat l) ∧ Below w.heap.size w w1 := ⟨ho1, (fun W h hb => below_via h (hb) : ∀ W : World, (Below w.heap.size w W) → Below W.heap.size W w1 → (Below w.heap.size w w1)) _ (by first | (with_reducible assumption) | go_grown) hb⟩
  (try clear hS)
  have hS := hT
  clear hT
  have hB := hS.2
  have hzw : w.heap.size ≤ w1.heap.size := hB.size
  clear hb
  have hP := hS
  go_wp2_with fail
  refine (toIntS_c Ar cr a _ (hide (reads_below h2.out (by go_grown))) (by omega)).mono ?_
  rintro e w2 ⟨A2, c2, rfl, ho2, hb⟩
  obtain ⟨b2, ho2, hbk2⟩ := own_based ho2 (m := w1.heap.size) (by first | omega | (simp; done) | (simp; omega))
  have ne1_2 := own_ne (hP.1) ho2 hbk2
  clear hP
  have hT : w2.ownsRow (b2) 3 1 (.slice A2 a.length c2) (a.length) (ints a) ∧ w2.ownsRow (b1) 32 2 (.slice A1 l.length c1) (l.length) (flat l) ∧ Below w.heap.size w w2 := ⟨ho2, (fun W h hb => ⟨own_below h.1 (hb), below_via h.2 (hb)⟩ : ∀ W : World, (W.ownsRow (b1) 32 2 (.slice A1 l.length c1) (l.length) (flat l) ∧ Below w.heap.size w W) → Below W.heap.size W w2 → (w2.ownsRow (b1) 32 2 (.slice A1 l.length c1) (l.length) (flat l) ∧ Below w.heap.size w w2)) _ (by first | (with_reducible assumption) | (exact hS) | (exact ⟨hS.1, (by go_grown)⟩) | (exact ⟨(by first | (with_reducible assumption) | (exact World.ownsRow.alloc (by with_reducible assumption) _) | ((refine own_below (by with_reducible assumption) ?_); go_grown)), (by go_grown)⟩)) hb⟩
  (try clear hS)
  have hS := hT
  clear hT
  have hB := hS.2.2
  have hzw : w.heap.size ≤ w2.heap.size := hB.size
  clear hb
  go_wp2_with fail
  refine (sBest_c _ _ l _ _ a _ (hide (own_reads (hS.2.1))) (hide (own_reads (hS.1))) (by omega) (by omega)).mono ?_
  rintro e w3 ⟨rfl, hb⟩
  have hT : w3.ownsRow (b2) 3 1 (.slice A2 a.length c2) (a.length) (ints a) ∧ w3.ownsRow (b1) 32 2 (.slice A1 l.length c1) (l.length) (flat l) ∧ Below w.heap.size w w3 := (fun W h hb => ⟨own_below h.1 (hb), own_below h.2.1 (hb), below_via h.2.2 (hb)⟩ : ∀ W : World, (W.ownsRow (b2) 3 1 (.slice A2 a.length c2) (a.length) (ints a) ∧ W.ownsRow (b1) 32 2 (.slice A1 l.length c1) (l.length) (flat l) ∧ Below w.heap.size w W) → Below W.heap.size W w3 → (w3.ownsRow (b2) 3 1 (.slice A2 a.length c2) (a.length) (ints a) ∧ w3.ownsRow (b1) 32 2 (.slice A1 l.length c1) (l.length) (flat l) ∧ Below w.heap.size w w3)) _ (by first | (with_reducible assumption) | (exact hS) | (exact ⟨hS.1, hS.2.1, (by go_grown)⟩) | (exact ⟨(by first | (with_reducible assumption) | (exact World.ownsRow.alloc (by with_reducible assumption) _) | ((refine own_below (by with_reducible assumption) ?_); go_grown)), (by first | (with_reducible assumption) | (exact World.ownsRow.alloc (by with_reducible assumption) _) | ((refine own_below (by with_reducible assumption) ?_); go_grown)), (by go_grown)⟩)) hb
  (try clear hS)
  have hS := hT
  clear hT
  have hB := hS.2.2
  have hzw : w.heap.size ≤ w3.heap.size := hB.size
  clear hb
  go_wp2_with fail
  obtain ⟨w4, hww4⟩ : ∃ W, W = w3.alloc (.cells #[.int .i64 (bstV l a).1.1, .int .i64 (bstV l a).1.2] 32) := ⟨_, rfl⟩
  have hT : w4.cell? ⟨w3.heap.size, 0, none⟩ = some (.int .i64 (bstV l a).1.1) ∧ w4.cell? ⟨w3.heap.size, 1, none⟩ = some (.int .i64 (bstV l a).1.2) ∧ w4.ownsRow (b2) 3 1 (.slice A2 a.length c2) (a.length) (ints a) ∧ w4.ownsRow (b1) 32 2 (.slice A1 l.length c1) (l.length) (flat l) ∧ Below w.heap.size w w4 := by
    rw [hww4]
    exact ⟨by simp [go_sem], by simp [go_sem], own_below hS.1 (by go_grown), own_below hS.2.1 (by go_grown), below_via hS.2.2 (by go_grown)⟩
  rw [← hww4]
  clear hS hww4
  have hS := hT
  clear hT
  (try clear hB hzw)
  have hB := hS.2.2.2.2
  have hzw : w.heap.size ≤ w4.heap.size := hB.size
  have hz1 : w3.heap.size < w4.heap.size := World.block_lt_of_cell? w4 _ (hS.1)
  have hP := hS
  go_wp2_with fail
  refine (toSiteS_c A c l _ (hide (reads_below h1.out (by go_grown))) (by omega)).mono ?_
  rintro e w5 ⟨A3, c3, rfl, ho3, hb⟩
  obtain ⟨b3, ho3, hbk3⟩ := own_based ho3 (m := w4.heap.size) (by first | omega | (simp; done) | (simp; omega))
  have ne1_3 := own_ne (hP.2.2.2.1) ho3 hbk3
  have ne2_3 := own_ne (hP.2.2.1) ho3 hbk3
  clear hP
  have hT : w5.ownsRow (b3) 32 2 (.slice A3 l.length c3) (l.length) (flat l) ∧ w5.cell? ⟨w3.heap.size, 0, none⟩ = some (.int .i64 (bstV l a).1.1) ∧ w5.cell? ⟨w3.heap.size, 1, none⟩ = some (.int .i64 (bstV l a).1.2) ∧ w5.ownsRow (b2) 3 1 (.slice A2 a.length c2) (a.length) (ints a) ∧ w5.ownsRow (b1) 32 2 (.slice A1 l.length c1) (l.length) (flat l) ∧ Below w.heap.size w w5 := ⟨ho3, (fun W h hb => ⟨keep_cell (hb) h.1, keep_cell (hb) h.2.1, own_below h.2.2.1 (hb), own_below h.2.2.2.1 (hb), below_via h.2.2.2.2 (hb)⟩ : ∀ W : World, (W.cell? ⟨w3.heap.size, 0, none⟩ = some (.int .i64 (bstV l a).1.1) ∧ W.cell? ⟨w3.heap.size, 1, none⟩ = some (.int .i64 (bstV l a).1.2) ∧ W.ownsRow (b2) 3 1 (.slice A2 a.length c2) (a.length) (ints a) ∧ W.ownsRow (b1) 32 2 (.slice A1 l.length c1) (l.length) (flat l) ∧ Below w.heap.size w W) → Below W.heap.size W w5 → (w5.cell? ⟨w3.heap.size, 0, none⟩ = some (.int .i64 (bstV l a).1.1) ∧ w5.cell? ⟨w3.heap.size, 1, none⟩ = some (.int .i64 (bstV l a).1.2) ∧ w5.ownsRow (b2) 3 1 (.slice A2 a.length c2) (a.length) (ints a) ∧ w5.ownsRow (b1) 32 2 (.slice A1 l.length c1) (l.length) (flat l) ∧ Below w.heap.size w w5)) _ (by first | (with_reducible assumption) | (exact hS) | (exact ⟨hS.1, hS.2.1, hS.2.2.1, hS.2.2.2.1, (by go_grown)⟩) | (exact ⟨(by first | (with_reducible assumption) | (simp [go_sem]; done) | ((simp only [go_sem]); (with_reducible assumption)) | ((refine keep_cell ?_ (by with_reducible assumption)); go_grown; done) | (simp [go_sem, *]; done)), (by first | (with_reducible assumption) | (simp [go_sem]; done) | ((simp only [go_sem]); (with_reducible assumption)) | ((refine keep_cell ?_ (by with_reducible assumption)); go_grown; done) | (simp [go_sem, *]; done)), (by first | (with_reducible assumption) | (exact World.ownsRow.alloc (by with_reducible assumption) _) | ((refine own_below (by with_reducible assumption) ?_); go_grown)), (by first | (with_reducible assumption) | (exact World.ownsRow.alloc (by with_reducible assumption) _) | ((refine own_below (by with_reducible assumption) ?_); go_grown)), (by go_grown)⟩)) hb⟩
  (try clear hS)
  have hS := hT
  clear hT
  have hB := hS.2.2.2.2.2
  have hzw : w.heap.size ≤ w5.heap.size := hB.size
  have hz1 : w3.heap.size < w5.heap.size := World.block_lt_of_cell? w5 _ (hS.2.1)
  clear hb
  have hP := hS
  go_wp2_with fail
  refine (toIntS_c Ar cr a _ (hide (reads_below h2.out (by go_grown))) (by omega)).mono ?_
  rintro e w6 ⟨A4, c4, rfl, ho4, hb⟩
  obtain ⟨b4, ho4, hbk4⟩ := own_based ho4 (m := w5.heap.size) (by first | omega | (simp; done) | (simp; omega))
  have ne1_4 := own_ne (hP.2.2.2.2.1) ho4 hbk4
  have ne2_4 := own_ne (hP.2.2.2.1) ho4 hbk4
  have ne3_4 := own_ne (hP.1) ho4 hbk4
  clear hP
  have hT : w6.ownsRow (b4) 3 1 (.slice A4 a.length c4) (a.length) (ints a) ∧ w6.ownsRow (b3) 32 2 (.slice A3 l.length c3) (l.length) (flat l) ∧ w6.cell? ⟨w3.heap.size, 0, none⟩ = some (.int .i64 (bstV l a).1.1) ∧ w6.cell? ⟨w3.heap.size, 1, none⟩ = some (.int .i64 (bstV l a).1.2) ∧ w6.ownsRow (b2) 3 1 (.slice A2 a.length c2) (a.length) (ints a) ∧ w6.ownsRow (b1) 32 2 (.slice A1 l.length c1) (l.length) (flat l) ∧ Below w.heap.size w w6 := ⟨ho4, (fun W h hb => ⟨own_below h.1 (hb), keep_cell (hb) h.2.1, keep_cell (hb) h.2.2.1, own_below h.2.2.2.1 (hb), own_below h.2.2.2.2.1 (hb), below_via h.2.2.2.2.2 (hb)⟩ : ∀ W : World, (W.ownsRow (b3) 32 2 (.slice A3 l.length c3) (l.length) (flat l) ∧ W.cell? ⟨w3.heap.size, 0, none⟩ = some (.int .i64 (bstV l a).1.1) ∧ W.cell? ⟨w3.heap.size, 1, none⟩ = some (.int .i64 (bstV l a).1.2) ∧ W.ownsRow (b2) 3 1 (.slice A2 a.length c2) (a.length) (ints a) ∧ W.ownsRow (b1) 32 2 (.slice A1 l.length c1) (l.length) (flat l) ∧ Below w.heap.size w W) → Below W.heap.size W w6 → (w6.ownsRow (b3) 32 2 (.slice A3 l.length c3) (l.length) (flat l) ∧ w6.cell? ⟨w3.heap.size, 0, none⟩ = some (.int .i64 (bstV l a).1.1) ∧ w6.cell? ⟨w3.heap.size, 1, none⟩ = some (.int .i64 (bstV l a).1.2) ∧ w6.ownsRow (b2) 3 1 (.slice A2 a.length c2) (a.length) (ints a) ∧ w6.ownsRow (b1) 32 2 (.slice A1 l.length c1) (l.length) (flat l) ∧ Below w.heap.size w w6)) _ (by first | (with_reducible assumption) | (exact hS) | (exact ⟨hS.1, hS.2.1, hS.2.2.1, hS.2.2.2.1, hS.2.2.2.2.1, (by go_grown)⟩) | (exact ⟨(by first | (with_reducible assumption) | (exact World.ownsRow.alloc (by with_reducible assumption) _) | ((refine own_below (by with_reducible assumption) ?_); go_grown)), (by first | (with_reducible assumption) | (simp [go_sem]; done) | ((simp only [go_sem]); (with_reducible assumption)) | ((refine keep_cell ?_ (by with_reducible assumption)); go_grown; done) | (simp [go_sem, *]; done)), (by first | (with_reducible assumption) | (simp [go_sem]; done) | ((simp only [go_sem]); (with_reducible assumption)) | ((refine keep_cell ?_ (by with_reducible assumption)); go_grown; done) | (simp [go_sem, *]; done)), (by first | (with_reducible assumption) | (exact World.ownsRow.alloc (by with_reducible assumption) _) | ((refine own_below (by with_reducible assumption) ?_); go_grown)), (by first | (with_reducible assumption) | (exact World.ownsRow.alloc (by with_reducible assumption) _) | ((refine own_below (by with_reducible assumption) ?_); go_grown)), (by go_grown)⟩)) hb⟩
  (try clear hS)
  have hS := hT
  clear hT
  have hB := hS.2.2.2.2.2.2
  have hzw : w.heap.size ≤ w6.heap.size := hB.size
  have hz1 : w3.heap.size < w6.heap.size := World.block_lt_of_cell? w6 _ (hS.2.2.1)
  clear hb
  go_wp2_with fail
  refine (Best_c _ _ l _ _ a _ (hide (own_reads (hS.2.1))) (hide (own_reads (hS.1))) (by omega) (by omega) (own_cap (hS.2.1))).mono ?_
  rintro e w7 ⟨rfl, hb⟩
  have hT : w7.ownsRow (b4) 3 1 (.slice A4 a.length c4) (a.length) (ints a) ∧ w7.ownsRow (b3) 32 2 (.slice A3 l.length c3) (l.length) (flat l) ∧ w7.cell? ⟨w3.heap.size, 0, none⟩ = some (.int .i64 (bstV l a).1.1) ∧ w7.cell? ⟨w3.heap.size, 1, none⟩ = some (.int .i64 (bstV l a).1.2) ∧ w7.ownsRow (b2) 3 1 (.slice A2 a.length c2) (a.length) (ints a) ∧ w7.ownsRow (b1) 32 2 (.slice A1 l.length c1) (l.length) (flat l) ∧ Below w.heap.size w w7 := (fun W h hb => ⟨own_below h.1 (hb), own_below h.2.1 (hb), keep_cell (hb) h.2.2.1, keep_cell (hb) h.2.2.2.1, own_below h.2.2.2.2.1 (hb), own_below h.2.2.2.2.2.1 (hb), below_via h.2.2.2.2.2.2 (hb)⟩ : ∀ W : World, (W.ownsRow (b4) 3 1 (.slice A4 a.length c4) (a.length) (ints a) ∧ W.ownsRow (b3) 32 2 (.slice A3 l.length c3) (l.length) (flat l) ∧ W.cell? ⟨w3.heap.size, 0, none⟩ = some (.int .i64 (bstV l a).1.1) ∧ W.cell? ⟨w3.heap.size, 1, none⟩ = some (.int .i64 (bstV l a).1.2) ∧ W.ownsRow (b2) 3 1 (.slice A2 a.length c2) (a.length) (ints a) ∧ W.ownsRow (b1) 32 2 (.slice A1 l.length c1) (l.length) (flat l) ∧ Below w.heap.size w W) → Below W.heap.size W w7 → (w7.ownsRow (b4) 3 1 (.slice A4 a.length c4) (a.length) (ints a) ∧ w7.ownsRow (b3) 32 2 (.slice A3 l.length c3) (l.length) (flat l) ∧ w7.cell? ⟨w3.heap.size, 0, none⟩ = some (.int .i64 (bstV l a).1.1) ∧ w7.cell? ⟨w3.heap.size, 1, none⟩ = some (.int .i64 (bstV l a).1.2) ∧ w7.ownsRow (b2) 3 1 (.slice A2 a.length c2) (a.length) (ints a) ∧ w7.ownsRow (b1) 32 2 (.slice A1 l.length c1) (l.length) (flat l) ∧ Below w.heap.size w w7)) _ (by first | (with_reducible assumption) | (exact hS) | (exact ⟨hS.1, hS.2.1, hS.2.2.1, hS.2.2.2.1, hS.2.2.2.2.1, hS.2.2.2.2.2.1, (by go_grown)⟩) | (exact ⟨(by first | (with_reducible assumption) | (exact World.ownsRow.alloc (by with_reducible assumption) _) | ((refine own_below (by with_reducible assumption) ?_); go_grown)), (by first | (with_reducible assumption) | (exact World.ownsRow.alloc (by with_reducible assumption) _) | ((refine own_below (by with_reducible assumption) ?_); go_grown)), (by first | (with_reducible assumption) | (simp [go_sem]; done) | ((simp only [go_sem]); (with_reducible assumption)) | ((refine keep_cell ?_ (by with_reducible assumption)); go_grown; done) | (simp [go_sem, *]; done)), (by first | (with_reducible assumption) | (simp [go_sem]; done) | ((simp only [go_sem]); (with_reducible assumption)) | ((refine keep_cell ?_ (by with_reducible assumption)); go_grown; done) | (simp [go_sem, *]; done)), (by first | (with_reducible assumption) | (exact World.ownsRow.alloc (by with_reducible assumption) _) | ((refine own_below (by with_reducible assumption) ?_); go_grown)), (by first | (with_reducible assumption) | (exact World.ownsRow.alloc (by with_reducible assumption) _) | ((refine own_below (by with_reducible assumption) ?_); go_grown)), (by go_grown)⟩)) hb
  (try clear hS)
  have hS := hT
  clear hT
  have hB := hS.2.2.2.2.2.2
  have hzw : w.heap.size ≤ w7.heap.size := hB.size
  have hz1 : w3.heap.size < w7.heap.size := World.block_lt_of_cell? w7 _ (hS.2.2.1)
  clear hb
  go_wp2_with fail
  obtain ⟨w8, hww8⟩ : ∃ W, W = w7.alloc (.cells #[.int .i64 (bstV l a).1.1, .int .i64 (bstV l a).1.2] 32) := ⟨_, rfl⟩
  have hT : w8.cell? ⟨w7.heap.size, 0, none⟩ = some (.int .i64 (bstV l a).1.1) ∧ w8.cell? ⟨w7.heap.size, 1, none⟩ = some (.int .i64 (bstV l a).1.2) ∧ w8.ownsRow (b4) 3 1 (.slice A4 a.length c4) (a.length) (ints a) ∧ w8.ownsRow (b3) 32 2 (.slice A3 l.length c3) (l.length) (flat l) ∧ w8.cell? ⟨w3.heap.size, 0, none⟩ = some (.int .i64 (bstV l a).1.1) ∧ w8.cell? ⟨w3.heap.size, 1, none⟩ = some (.int .i64 (bstV l a).1.2) ∧ w8.ownsRow (b2) 3 1 (.slice A2 a.length c2) (a.length) (ints a) ∧ w8.ownsRow (b1) 32 2 (.slice A1 l.length c1) (l.length) (flat l) ∧ Below w.heap.size w w8 := by
    rw [hww8]
    exact ⟨by simp [go_sem], by simp [go_sem], own_below hS.1 (by go_grown), own_below hS.2.1 (by go_grown), keep_cell (by go_grown) hS.2.2.1, keep_cell (by go_grown) hS.2.2.2.1, own_below hS.2.2.2.2.1 (by go_grown), own_below hS.2.2.2.2.2.1 (by go_grown), below_via hS.2.2.2.2.2.2 (by go_grown)⟩
  rw [← hww8]
  clear hS hww8
  have hS := hT
  clear hT
  (try clear hB hzw)
  have hB := hS.2.2.2.2.2.2.2.2
  have hzw : w.heap.size ≤ w8.heap.size := hB.size
  have hz1 : w7.heap.size < w8.heap.size := World.block_lt_of_cell? w8 _ (hS.1)
  have hz2 : w3.heap.size < w8.heap.size := World.block_lt_of_cell? w8 _ (hS.2.2.2.2.1)
  go_wp2_with fail
  refine (eqSame_c _ _ _).mono ?_
  rintro e w9 ⟨rfl, hb⟩
  have hT : w9.cell? ⟨w7.heap.size, 0, none⟩ = some (.int .i64 (bstV l a).1.1) ∧ w9.cell? ⟨w7.heap.size, 1, none⟩ = some (.int .i64 (bstV l a).1.2) ∧ w9.ownsRow (b4) 3 1 (.slice A4 a.length c4) (a.length) (ints a) ∧ w9.ownsRow (b3) 32 2 (.slice A3 l.length c3) (l.length) (flat l) ∧ w9.cell? ⟨w3.heap.size, 0, none⟩ = some (.int .i64 (bstV l a).1.1) ∧ w9.cell? ⟨w3.heap.size, 1, none⟩ = some (.int .i64 (bstV l a).1.2) ∧ w9.ownsRow (b2) 3 1 (.slice A2 a.length c2) (a.length) (ints a) ∧ w9.ownsRow (b1) 32 2 (.slice A1 l.length c1) (l.length) (flat l) ∧ Below w.heap.size w w9 := (fun W h hb => ⟨keep_cell (hb) h.1, keep_cell (hb) h.2.1, own_below h.2.2.1 (hb), own_below h.2.2.2.1 (hb), keep_cell (hb) h.2.2.2.2.1, keep_cell (hb) h.2.2.2.2.2.1, own_below h.2.2.2.2.2.2.1 (hb), own_below h.2.2.2.2.2.2.2.1 (hb), below_via h.2.2.2.2.2.2.2.2 (hb)⟩ : ∀ W : World, (W.cell? ⟨w7.heap.size, 0, none⟩ = some (.int .i64 (bstV l a).1.1) ∧ W.cell? ⟨w7.heap.size, 1, none⟩ = some (.int .i64 (bstV l a).1.2) ∧ W.ownsRow (b4) 3 1 (.slice A4 a.length c4) (a.length) (ints a) ∧ W.ownsRow (b3) 32 2 (.slice A3 l.length c3) (l.length) (flat l) ∧ W.cell? ⟨w3.heap.size, 0, none⟩ = some (.int .i64 (bstV l a).1.1) ∧ W.cell? ⟨w3.heap.size, 1, none⟩ = some (.int .i64 (bstV l a).1.2) ∧ W.ownsRow (b2) 3 1 (.slice A2 a.length c2) (a.length) (ints a) ∧ W.ownsRow (b1) 32 2 (.slice A1 l.length c1) (l.length) (flat l) ∧ Below w.heap.size w W) → Below W.heap.size W w9 → (w9.cell? ⟨w7.heap.size, 0, none⟩ = some (.int .i64 (bstV l a).1.1) ∧ w9.cell? ⟨w7.heap.size, 1, none⟩ = some (.int .i64 (bstV l a).1.2) ∧ w9.ownsRow (b4) 3 1 (.slice A4 a.length c4) (a.length) (ints a) ∧ w9.ownsRow (b3) 32 2 (.slice A3 l.length c3) (l.length) (flat l) ∧ w9.cell? ⟨w3.heap.size, 0, none⟩ = some (.int .i64 (bstV l a).1.1) ∧ w9.cell? ⟨w3.heap.size, 1, none⟩ = some (.int .i64 (bstV l a).1.2) ∧ w9.ownsRow (b2) 3 1 (.slice A2 a.length c2) (a.length) (ints a) ∧ w9.ownsRow (b1) 32 2 (.slice A1 l.length c1) (l.length) (flat l) ∧ Below w.heap.size w w9)) _ (by first | (with_reducible assumption) | (exact hS) | (exact ⟨hS.1, hS.2.1, hS.2.2.1, hS.2.2.2.1, hS.2.2.2.2.1, hS.2.2.2.2.2.1, hS.2.2.2.2.2.2.1, hS.2.2.2.2.2.2.2.1, (by go_grown)⟩) | (exact ⟨(by first | (with_reducible assumption) | (simp [go_sem]; done) | ((simp only [go_sem]); (with_reducible assumption)) | ((refine keep_cell ?_ (by with_reducible assumption)); go_grown; done) | (simp [go_sem, *]; done)), (by first | (with_reducible assumption) | (simp [go_sem]; done) | ((simp only [go_sem]); (with_reducible assumption)) | ((refine keep_cell ?_ (by with_reducible assumption)); go_grown; done) | (simp [go_sem, *]; done)), (by first | (with_reducible assumption) | (exact World.ownsRow.alloc (by with_reducible assumption) _) | ((refine own_below (by with_reducible assumption) ?_); go_grown)), (by first | (with_reducible assumption) | (exact World.ownsRow.alloc (by with_reducible assumption) _) | ((refine own_below (by with_reducible assumption) ?_); go_grown)), (by first | (with_reducible assumption) | (simp [go_sem]; done) | ((simp only [go_sem]); (with_reducible assumption)) | ((refine keep_cell ?_ (by with_reducible assumption)); go_grown; done) | (simp [go_sem, *]; done)), (by first | (with_reducible assumption) | (simp [go_sem]; done) | ((simp only [go_sem]); (with_reducible assumption)) | ((refine keep_cell ?_ (by with_reducible assumption)); go_grown; done) | (simp [go_sem, *]; done)), (by first | (with_reducible assumption) | (exact World.ownsRow.alloc (by with_reducible assumption) _) | ((refine own_below (by with_reducible assumption) ?_); go_grown)), (by first | (with_reducible assumption) | (exact World.ownsRow.alloc (by with_reducible assumption) _) | ((refine own_below (by with_reducible assumption) ?_); go_grown)), (by go_grown)⟩)) hb
  (try clear hS)
  have hS := hT
  clear hT
  have hB := hS.2.2.2.2.2.2.2.2
  have hzw : w.heap.size ≤ w9.heap.size := hB.size
  have hz1 : w7.heap.size < w9.heap.size := World.block_lt_of_cell? w9 _ (hS.1)
  have hz2 : w3.heap.size < w9.heap.size := World.block_lt_of_cell? w9 _ (hS.2.2.2.2.1)
  clear hb
  have hP := hS
  go_wp2_with fail
  refine (toSiteS_c A c l _ (hide (reads_below h1.out (by go_grown))) (by omega)).mono ?_
  rintro e w10 ⟨A5, c5, rfl, ho5, hb⟩
  obtain ⟨b5, ho5, hbk5⟩ := own_based ho5 (m := w9.heap.size) (by first | omega | (simp; done) | (simp; omega))
  have ne1_5 := own_ne (hP.2.2.2.2.2.2.2.1) ho5 hbk5
  have ne2_5 := own_ne (hP.2.2.2.2.2.2.1) ho5 hbk5
  have ne3_5 := own_ne (hP.2.2.2.1) ho5 hbk5
  have ne4_5 := own_ne (hP.2.2.1) ho5 hbk5
  clear hP
  have hT : w10.ownsRow (b5) 32 2 (.slice A5 l.length c5) (l.length) (flat l) ∧ w10.cell? ⟨w7.heap.size, 0, none⟩ = some (.int .i64 (bstV l a).1.1) ∧ w10.cell? ⟨w7.heap.size, 1, none⟩ = some (.int .i64 (bstV l a).1.2) ∧ w10.ownsRow (b4) 3 1 (.slice A4 a.length c4) (a.length) (ints a) ∧ w10.ownsRow (b3) 32 2 (.slice A3 l.length c3) (l.length) (flat l) ∧ w10.cell? ⟨w3.heap.size, 0, none⟩ = some (.int .i64 (bstV l a).1.1) ∧ w10.cell? ⟨w3.heap.size, 1, none⟩ = some (.int .i64 (bstV l a).1.2) ∧ w10.ownsRow (b2) 3 1 (.slice A2 a.length c2) (a.length) (ints a) ∧ w10.ownsRow (b1) 32 2 (.slice A1 l.length c1) (l.length) (flat l) ∧ Below w.heap.size w w10 := ⟨ho5, (fun W h hb => ⟨keep_cell (hb) h.1, keep_cell (hb) h.2.1, own_below h.2.2.1 (hb), own_below h.2.2.2.1 (hb), keep_cell (hb) h.2.2.2.2.1, keep_cell (hb) h.2.2.2.2.2.1, own_below h.2.2.2.2.2.2.1 (hb), own_below h.2.2.2.2.2.2.2.1 (hb), below_via h.2.2.2.2.2.2.2.2 (hb)⟩ : ∀ W : World, (W.cell? ⟨w7.heap.size, 0, none⟩ = some (.int .i64 (bstV l a).1.1) ∧ W.cell? ⟨w7.heap.size, 1, none⟩ = some (.int .i64 (bstV l a).1.2) ∧ W.ownsRow (b4) 3 1 (.slice A4 a.length c4) (a.length) (ints a) ∧ W.ownsRow (b3) 32 2 (.slice A3 l.length c3) (l.length) (flat l) ∧ W.cell? ⟨w3.heap.size, 0, none⟩ = some (.int .i64 (bstV l a).1.1) ∧ W.cell? ⟨w3.heap.size, 1, none⟩ = some (.int .i64 (bstV l a).1.2) ∧ W.ownsRow (b2) 3 1 (.slice A2 a.length c2) (a.length) (ints a) ∧ W.ownsRow (b1) 32 2 (.slice A1 l.length c1) (l.length) (flat l) ∧ Below w.heap.size w W) → Below W.heap.size W w10 → (w10.cell? ⟨w7.heap.size, 0, none⟩ = some (.int .i64 (bstV l a).1.1) ∧ w10.cell? ⟨w7.heap.size, 1, none⟩ = some (.int .i64 (bstV l a).1.2) ∧ w10.ownsRow (b4) 3 1 (.slice A4 a.length c4) (a.length) (ints a) ∧ w10.ownsRow (b3) 32 2 (.slice A3 l.length c3) (l.length) (flat l) ∧ w10.cell? ⟨w3.heap.size, 0, none⟩ = some (.int .i64 (bstV l a).1.1) ∧ w10.cell? ⟨w3.heap.size, 1, none⟩ = some (.int .i64 (bstV l a).1.2) ∧ w10.ownsRow (b2) 3 1 (.slice A2 a.length c2) (a.length) (ints a) ∧ w10.ownsRow (b1) 32 2 (.slice A1 l.length c1) (l.length) (flat l) ∧ Below w.heap.size w w10)) _ (by first | (with_reducible assumption) | (exact hS) | (exact ⟨hS.1, hS.2.1, hS.2.2.1, hS.2.2.2.1, hS.2.2.2.2.1, hS.2.2.2.2.2.1, hS.2.2.2.2.2.2.1, hS.2.2.2.2.2.2.2.1, (by go_grown)⟩) | (exact ⟨(by first | (with_reducible assumption) | (simp [go_sem]; done) | ((simp only [go_sem]); (with_reducible assumption)) | ((refine keep_cell ?_ (by with_reducible assumption)); go_grown; done) | (simp [go_sem, *]; done)), (by first | (with_reducible assumption) | (simp [go_sem]; done) | ((simp only [go_sem]); (with_reducible assumption)) | ((refine keep_cell ?_ (by with_reducible assumption)); go_grown; done) | (simp [go_sem, *]; done)), (by first | (with_reducible assumption) | (exact World.ownsRow.alloc (by with_reducible assumption) _) | ((refine own_below (by with_reducible assumption) ?_); go_grown)), (by first | (with_reducible assumption) | (exact World.ownsRow.alloc (by with_reducible assumption) _) | ((refine own_below (by with_reducible assumption) ?_); go_grown)), (by first | (with_reducible assumption) | (simp [go_sem]; done) | ((simp only [go_sem]); (with_reducible assumption)) | ((refine keep_cell ?_ (by with_reducible assumption)); go_grown; done) | (simp [go_sem, *]; done)), (by first | (with_reducible assumption) | (simp [go_sem]; done) | ((simp only [go_sem]); (with_reducible assumption)) | ((refine keep_cell ?_ (by with_reducible assumption)); go_grown; done) | (simp [go_sem, *]; done)), (by first | (with_reducible assumption) | (exact World.ownsRow.alloc (by with_reducible assumption) _) | ((refine own_below (by with_reducible assumption) ?_); go_grown)), (by first | (with_reducible assumption) | (exact World.ownsRow.alloc (by with_reducible assumption) _) | ((refine own_below (by with_reducible assumption) ?_); go_grown)), (by go_grown)⟩)) hb⟩
  (try clear hS)
  have hS := hT
  clear hT
  have hB := hS.2.2.2.2.2.2.2.2.2
  have hzw : w.heap.size ≤ w10.heap.size := hB.size
  have hz1 : w7.heap.size < w10.heap.size := World.block_lt_of_cell? w10 _ (hS.2.1)
  have hz2 : w3.heap.size < w10.heap.size := World.block_lt_of_cell? w10 _ (hS.2.2.2.2.2.1)
  clear hb
  go_wp2_with fail
  refine (eqSiteS_c _ _ _ _ (l) (l) _ (hide (own_reads (hS.2.2.2.2.1))) (hide (own_reads (hS.1))) (by omega) (by omega)).mono ?_
  rintro e w11 ⟨rfl, hb⟩
  have hT : w11.ownsRow (b5) 32 2 (.slice A5 l.length c5) (l.length) (flat l) ∧ w11.cell? ⟨w7.heap.size, 0, none⟩ = some (.int .i64 (bstV l a).1.1) ∧ w11.cell? ⟨w7.heap.size, 1, none⟩ = some (.int .i64 (bstV l a).1.2) ∧ w11.ownsRow (b4) 3 1 (.slice A4 a.length c4) (a.length) (ints a) ∧ w11.ownsRow (b3) 32 2 (.slice A3 l.length c3) (l.length) (flat l) ∧ w11.cell? ⟨w3.heap.size, 0, none⟩ = some (.int .i64 (bstV l a).1.1) ∧ w11.cell? ⟨w3.heap.size, 1, none⟩ = some (.int .i64 (bstV l a).1.2) ∧ w11.ownsRow (b2) 3 1 (.slice A2 a.length c2) (a.length) (ints a) ∧ w11.ownsRow (b1) 32 2 (.slice A1 l.length c1) (l.length) (flat l) ∧ Below w.heap.size w w11 := (fun W h hb => ⟨own_below h.1 (hb), keep_cell (hb) h.2.1, keep_cell (hb) h.2.2.1, own_below h.2.2.2.1 (hb), own_below h.2.2.2.2.1 (hb), keep_cell (hb) h.2.2.2.2.2.1, keep_cell (hb) h.2.2.2.2.2.2.1, own_below h.2.2.2.2.2.2.2.1 (hb), own_below h.2.2.2.2.2.2.2.2.1 (hb), below_via h.2.2.2.2.2.2.2.2.2 (hb)⟩ : ∀ W : World, (W.ownsRow (b5) 32 2 (.slice A5 l.length c5) (l.length) (flat l) ∧ W.cell? ⟨w7.heap.size, 0, none⟩ = some (.int .i64 (bstV l a).1.1) ∧ W.cell? ⟨w7.heap.size, 1, none⟩ = some (.int .i64 (bstV l a).1.2) ∧ W.ownsRow (b4) 3 1 (.slice A4 a.length c4) (a.length) (ints a) ∧ W.ownsRow (b3) 32 2 (.slice A3 l.length c3) (l.length) (flat l) ∧ W.cell? ⟨w3.heap.size, 0, none⟩ = some (.int .i64 (bstV l a).1.1) ∧ W.cell? ⟨w3.heap.size, 1, none⟩ = some (.int .i64 (bstV l a).1.2) ∧ W.ownsRow (b2) 3 1 (.slice A2 a.length c2) (a.length) (ints a) ∧ W.ownsRow (b1) 32 2 (.slice A1 l.length c1) (l.length) (flat l) ∧ Below w.heap.size w W) → Below W.heap.size W w11 → (w11.ownsRow (b5) 32 2 (.slice A5 l.length c5) (l.length) (flat l) ∧ w11.cell? ⟨w7.heap.size, 0, none⟩ = some (.int .i64 (bstV l a).1.1) ∧ w11.cell? ⟨w7.heap.size, 1, none⟩ = some (.int .i64 (bstV l a).1.2) ∧ w11.ownsRow (b4) 3 1 (.slice A4 a.length c4) (a.length) (ints a) ∧ w11.ownsRow (b3) 32 2 (.slice A3 l.length c3) (l.length) (flat l) ∧ w11.cell? ⟨w3.heap.size, 0, none⟩ = some (.int .i64 (bstV l a).1.1) ∧ w11.cell? ⟨w3.heap.size, 1, none⟩ = some (.int .i64 (bstV l a).1.2) ∧ w11.ownsRow (b2) 3 1 (.slice A2 a.length c2) (a.length) (ints a) ∧ w11.ownsRow (b1) 32 2 (.slice A1 l.length c1) (l.length) (flat l) ∧ Below w.heap.size w w11)) _ (by first | (with_reducible assumption) | (exact hS) | (exact ⟨hS.1, hS.2.1, hS.2.2.1, hS.2.2.2.1, hS.2.2.2.2.1, hS.2.2.2.2.2.1, hS.2.2.2.2.2.2.1, hS.2.2.2.2.2.2.2.1, hS.2.2.2.2.2.2.2.2.1, (by go_grown)⟩) | (exact ⟨(by first | (with_reducible assumption) | (exact World.ownsRow.alloc (by with_reducible assumption) _) | ((refine own_below (by with_reducible assumption) ?_); go_grown)), (by first | (with_reducible assumption) | (simp [go_sem]; done) | ((simp only [go_sem]); (with_reducible assumption)) | ((refine keep_cell ?_ (by with_reducible assumption)); go_grown; done) | (simp [go_sem, *]; done)), (by first | (with_reducible assumption) | (simp [go_sem]; done) | ((simp only [go_sem]); (with_reducible assumption)) | ((refine keep_cell ?_ (by with_reducible assumption)); go_grown; done) | (simp [go_sem, *]; done)), (by first | (with_reducible assumption) | (exact World.ownsRow.alloc (by with_reducible assumption) _) | ((refine own_below (by with_reducible assumption) ?_); go_grown)), (by first | (with_reducible assumption) | (exact World.ownsRow.alloc (by with_reducible assumption) _) | ((refine own_below (by with_reducible assumption) ?_); go_grown)), (by first | (with_reducible assumption) | (simp [go_sem]; done) | ((simp only [go_sem]); (with_reducible assumption)) | ((refine keep_cell ?_ (by with_reducible assumption)); go_grown; done) | (simp [go_sem, *]; done)), (by first | (with_reducible assumption) | (simp [go_sem]; done) | ((simp only [go_sem]); (with_reducible assumption)) | ((refine keep_cell ?_ (by with_reducible assumption)); go_grown; done) | (simp [go_sem, *]; done)), (by first | (with_reducible assumption) | (exact World.ownsRow.alloc (by with_reducible assumption) _) | ((refine own_below (by with_reducible assumption) ?_); go_grown)), (by first | (with_reducible assumption) | (exact World.ownsRow.alloc (by with_reducible assumption) _) | ((refine own_below (by with_reducible assumption) ?_); go_grown)), (by go_grown)⟩)) hb
  (try clear hS)
  have hS := hT
  clear hT
  have hB := hS.2.2.2.2.2.2.2.2.2
  have hzw : w.heap.size ≤ w11.heap.size := hB.size
  have hz1 : w7.heap.size < w11.heap.size := World.block_lt_of_cell? w11 _ (hS.2.1)
  have hz2 : w3.heap.size < w11.heap.size := World.block_lt_of_cell? w11 _ (hS.2.2.2.2.2.1)
  clear hb
  have hP := hS
  go_wp2_with fail
  refine (toIntS_c Ar cr a _ (hide (reads_below h2.out (by go_grown))) (by omega)).mono ?_
  rintro e w12 ⟨A6, c6, rfl, ho6, hb⟩
  obtain ⟨b6, ho6, hbk6⟩ := own_based ho6 (m := w11.heap.size) (by first | omega | (simp; done) | (simp; omega))
  have ne1_6 := own_ne (hP.2.2.2.2.2.2.2.2.1) ho6 hbk6
  have ne2_6 := own_ne (hP.2.2.2.2.2.2.2.1) ho6 hbk6
  have ne3_6 := own_ne (hP.2.2.2.2.1) ho6 hbk6
  have ne4_6 := own_ne (hP.2.2.2.1) ho6 hbk6
  have ne5_6 := own_ne (hP.1) ho6 hbk6
  clear hP
  have hT : w12.ownsRow (b6) 3 1 (.slice A6 a.length c6) (a.length) (ints a) ∧ w12.ownsRow (b5) 32 2 (.slice A5 l.length c5) (l.length) (flat l) ∧ w12.cell? ⟨w7.heap.size, 0, none⟩ = some (.int .i64 (bstV l a).1.1) ∧ w12.cell? ⟨w7.heap.size, 1, none⟩ = some (.int .i64 (bstV l a).1.2) ∧ w12.ownsRow (b4) 3 1 (.slice A4 a.length c4) (a.length) (ints a) ∧ w12.ownsRow (b3) 32 2 (.slice A3 l.length c3) (l.length) (flat l) ∧ w12.cell? ⟨w3.heap.size, 0, none⟩ = some (.int .i64 (bstV l a).1.1) ∧ w12.cell? ⟨w3.heap.size, 1, none⟩ = some (.int .i64 (bstV l a).1.2) ∧ w12.ownsRow (b2) 3 1 (.slice A2 a.length c2) (a.length) (ints a) ∧ w12.ownsRow (b1) 32 2 (.slice A1 l.length c1) (l.length) (flat l) ∧ Below w.heap.size w w12 := ⟨ho6, (fun W h hb => ⟨own_below h.1 (hb), keep_cell (hb) h.2.1, keep_cell (hb) h.2.2.1, own_below h.2.2.2.1 (hb), own_below h.2.2.2.2.1 (hb), keep_cell (hb) h.2.2.2.2.2.1, keep_cell (hb) h.2.2.2.2.2.2.1, own_below h.2.2.2.2.2.2.2.1 (hb), own_below h.2.2.2.2.2.2.2.2.1 (hb), below_via h.2.2.2.2.2.2.2.2.2 (hb)⟩ : ∀ W : World, (W.ownsRow (b5) 32 2 (.slice A5 l.length c5) (l.length) (flat l) ∧ W.cell? ⟨w7.heap.size, 0, none⟩ = some (.int .i64 (bstV l a).1.1) ∧ W.cell? ⟨w7.heap.size, 1, none⟩ = some (.int .i64 (bstV l a).1.2) ∧ W.ownsRow (b4) 3 1 (.slice A4 a.length c4) (a.length) (ints a) ∧ W.ownsRow (b3) 32 2 (.slice A3 l.length c3) (l.length) (flat l) ∧ W.cell? ⟨w3.heap.size, 0, none⟩ = some (.int .i64 (bstV l a).1.1) ∧ W.cell? ⟨w3.heap.size, 1, none⟩ = some (.int .i64 (bstV l a).1.2) ∧ W.ownsRow (b2) 3 1 (.slice A2 a.length c2) (a.length) (ints a) ∧ W.ownsRow (b1) 32 2 (.slice A1 l.length c1) (l.length) (flat l) ∧ Below w.heap.size w W) → Below W.heap.size W w12 → (w12.ownsRow (b5) 32 2 (.slice A5 l.length c5) (l.length) (flat l) ∧ w12.cell? ⟨w7.heap.size, 0, none⟩ = some (.int .i64 (bstV l a).1.1) ∧ w12.cell? ⟨w7.heap.size, 1, none⟩ = some (.int .i64 (bstV l a).1.2) ∧ w12.ownsRow (b4) 3 1 (.slice A4 a.length c4) (a.length) (ints a) ∧ w12.ownsRow (b3) 32 2 (.slice A3 l.length c3) (l.length) (flat l) ∧ w12.cell? ⟨w3.heap.size, 0, none⟩ = some (.int .i64 (bstV l a).1.1) ∧ w12.cell? ⟨w3.heap.size, 1, none⟩ = some (.int .i64 (bstV l a).1.2) ∧ w12.ownsRow (b2) 3 1 (.slice A2 a.length c2) (a.length) (ints a) ∧ w12.ownsRow (b1) 32 2 (.slice A1 l.length c1) (l.length) (flat l) ∧ Below w.heap.size w w12)) _ (by first | (with_reducible assumption) | (exact hS) | (exact ⟨hS.1, hS.2.1, hS.2.2.1, hS.2.2.2.1, hS.2.2.2.2.1, hS.2.2.2.2.2.1, hS.2.2.2.2.2.2.1, hS.2.2.2.2.2.2.2.1, hS.2.2.2.2.2.2.2.2.1, (by go_grown)⟩) | (exact ⟨(by first | (with_reducible assumption) | (exact World.ownsRow.alloc (by with_reducible assumption) _) | ((refine own_below (by with_reducible assumption) ?_); go_grown)), (by first | (with_reducible assumption) | (simp [go_sem]; done) | ((simp only [go_sem]); (with_reducible assumption)) | ((refine keep_cell ?_ (by with_reducible assumption)); go_grown; done) | (simp [go_sem, *]; done)), (by first | (with_reducible assumption) | (simp [go_sem]; done) | ((simp only [go_sem]); (with_reducible assumption)) | ((refine keep_cell ?_ (by with_reducible assumption)); go_grown; done) | (simp [go_sem, *]; done)), (by first | (with_reducible assumption) | (exact World.ownsRow.alloc (by with_reducible assumption) _) | ((refine own_below (by with_reducible assumption) ?_); go_grown)), (by first | (with_reducible assumption) | (exact World.ownsRow.alloc (by with_reducible assumption) _) | ((refine own_below (by with_reducible assumption) ?_); go_grown)), (by first | (with_reducible assumption) | (simp [go_sem]; done) | ((simp only [go_sem]); (with_reducible assumption)) | ((refine keep_cell ?_ (by with_reducible assumption)); go_grown; done) | (simp [go_sem, *]; done)), (by first | (with_reducible assumption) | (simp [go_sem]; done) | ((simp only [go_sem]); (with_reducible assumption)) | ((refine keep_cell ?_ (by with_reducible assumption)); go_grown; done) | (simp [go_sem, *]; done)), (by first | (with_reducible assumption) | (exact World.ownsRow.alloc (by with_reducible assumption) _) | ((refine own_below (by with_reducible assumption) ?_); go_grown)), (by first | (with_reducible assumption) | (exact World.ownsRow.alloc (by with_reducible assumption) _) | ((refine own_below (by with_reducible assumption) ?_); go_grown)), (by go_grown)⟩)) hb⟩
  (try clear hS)
  have hS := hT
  clear hT
  have hB := hS.2.2.2.2.2.2.2.2.2.2
  have hzw : w.heap.size ≤ w12.heap.size := hB.size
  have hz1 : w7.heap.size < w12.heap.size := World.block_lt_of_cell? w12 _ (hS.2.2.1)
  have hz2 : w3.heap.size < w12.heap.size := World.block_lt_of_cell? w12 _ (hS.2.2.2.2.2.2.1)
  clear hb
  go_wp2_with fail
  refine (eqIntS_c _ _ _ _ (a) (a) _ (hide (own_reads (hS.2.2.2.2.1))) (hide (own_reads (hS.1))) (by omega) (by omega)).mono ?_
  rintro e w13 ⟨rfl, hb⟩
  have hT : w13.ownsRow (b6) 3 1 (.slice A6 a.length c6) (a.length) (ints a) ∧ w13.ownsRow (b5) 32 2 (.slice A5 l.length c5) (l.length) (flat l) ∧ w13.cell? ⟨w7.heap.size, 0, none⟩ = some (.int .i64 (bstV l a).1.1) ∧ w13.cell? ⟨w7.heap.size, 1, none⟩ = some (.int .i64 (bstV l a).1.2) ∧ w13.ownsRow (b4) 3 1 (.slice A4 a.length c4) (a.length) (ints a) ∧ w13.ownsRow (b3) 32 2 (.slice A3 l.length c3) (l.length) (flat l) ∧ w13.cell? ⟨w3.heap.size, 0, none⟩ = some (.int .i64 (bstV l a).1.1) ∧ w13.cell? ⟨w3.heap.size, 1, none⟩ = some (.int .i64 (bstV l a).1.2) ∧ w13.ownsRow (b2) 3 1 (.slice A2 a.length c2) (a.length) (ints a) ∧ w13.ownsRow (b1) 32 2 (.slice A1 l.length c1) (l.length) (flat l) ∧ Below w.heap.size w w13 := (fun W h hb => ⟨own_below h.1 (hb), own_below h.2.1 (hb), keep_cell (hb) h.2.2.1, keep_cell (hb) h.2.2.2.1, own_below h.2.2.2.2.1 (hb), own_below h.2.2.2.2.2.1 (hb), keep_cell (hb) h.2.2.2.2.2.2.1, keep_cell (hb) h.2.2.2.2.2.2.2.1, own_below h.2.2.2.2.2.2.2.2.1 (hb), own_below h.2.2.2.2.2.2.2.2.2.1 (hb), below_via h.2.2.2.2.2.2.2.2.2.2 (hb)⟩ : ∀ W : World, (W.ownsRow (b6) 3 1 (.slice A6 a.length c6) (a.length) (ints a) ∧ W.ownsRow (b5) 32 2 (.slice A5 l.length c5) (l.length) (flat l) ∧ W.cell? ⟨w7.heap.size, 0, none⟩ = some (.int .i64 (bstV l a).1.1) ∧ W.cell? ⟨w7.heap.size, 1, none⟩ = some (.int .i64 (bstV l a).1.2) ∧ W.ownsRow (b4) 3 1 (.slice A4 a.length c4) (a.length) (ints a) ∧ W.ownsRow (b3) 32 2 (.slice A3 l.length c3) (l.length) (flat l) ∧ W.cell? ⟨w3.heap.size, 0, none⟩ = some (.int .i64 (bstV l a).1.1) ∧ W.cell? ⟨w3.heap.size, 1, none⟩ = some (.int .i64 (bstV l a).1.2) ∧ W.ownsRow (b2) 3 1 (.slice A2 a.length c2) (a.length) (ints a) ∧ W.ownsRow (b1) 32 2 (.slice A1 l.length c1) (l.length) (flat l) ∧ Below w.heap.size w W) → Below W.heap.size W w13 → (w13.ownsRow (b6) 3 1 (.slice A6 a.length c6) (a.length) (ints a) ∧ w13.ownsRow (b5) 32 2 (.slice A5 l.length c5) (l.length) (flat l) ∧ w13.cell? ⟨w7.heap.size, 0, none⟩ = some (.int .i64 (bstV l a).1.1) ∧ w13.cell? ⟨w7.heap.size, 1, none⟩ = some (.int .i64 (bstV l a).1.2) ∧ w13.ownsRow (b4) 3 1 (.slice A4 a.length c4) (a.length) (ints a) ∧ w13.ownsRow (b3) 32 2 (.slice A3 l.length c3) (l.length) (flat l) ∧ w13.cell? ⟨w3.heap.size, 0, none⟩ = some (.int .i64 (bstV l a).1.1) ∧ w13.cell? ⟨w3.heap.size, 1, none⟩ = some (.int .i64 (bstV l a).1.2) ∧ w13.ownsRow (b2) 3 1 (.slice A2 a.length c2) (a.length) (ints a) ∧ w13.ownsRow (b1) 32 2 (.slice A1 l.length c1) (l.length) (flat l) ∧ Below w.heap.size w w13)) _ (by first | (with_reducible assumption) | (exact hS) | (exact ⟨hS.1, hS.2.1, hS.2.2.1, hS.2.2.2.1, hS.2.2.2.2.1, hS.2.2.2.2.2.1, hS.2.2.2.2.2.2.1, hS.2.2.2.2.2.2.2.1, hS.2.2.2.2.2.2.2.2.1, hS.2.2.2.2.2.2.2.2.2.1, (by go_grown)⟩) | (exact ⟨(by first | (with_reducible assumption) | (exact World.ownsRow.alloc (by with_reducible assumption) _) | ((refine own_below (by with_reducible assumption) ?_); go_grown)), (by first | (with_reducible assumption) | (exact World.ownsRow.alloc (by with_reducible assumption) _) | ((refine own_below (by with_reducible assumption) ?_); go_grown)), (by first | (with_reducible assumption) | (simp [go_sem]; done) | ((simp only [go_sem]); (with_reducible assumption)) | ((refine keep_cell ?_ (by with_reducible assumption)); go_grown; done) | (simp [go_sem, *]; done)), (by first | (with_reducible assumption) | (simp [go_sem]; done) | ((simp only [go_sem]); (with_reducible assumption)) | ((refine keep_cell ?_ (by with_reducible assumption)); go_grown; done) | (simp [go_sem, *]; done)), (by first | (with_reducible assumption) | (exact World.ownsRow.alloc (by with_reducible assumption) _) | ((refine own_below (by with_reducible assumption) ?_); go_grown)), (by first | (with_reducible assumption) | (exact World.ownsRow.alloc (by with_reducible assumption) _) | ((refine own_below (by with_reducible assumption) ?_); go_grown)), (by first | (with_reducible assumption) | (simp [go_sem]; done) | ((simp only [go_sem]); (with_reducible assumption)) | ((refine keep_cell ?_ (by with_reducible assumption)); go_grown; done) | (simp [go_sem, *]; done)), (by first | (with_reducible assumption) | (simp [go_sem]; done) | ((simp only [go_sem]); (with_reducible assumption)) | ((refine keep_cell ?_ (by with_reducible assumption)); go_grown; done) | (simp [go_sem, *]; done)), (by first | (with_reducible assumption) | (exact World.ownsRow.alloc (by with_reducible assumption) _) | ((refine own_below (by with_reducible assumption) ?_); go_grown)), (by first | (with_reducible assumption) | (exact World.ownsRow.alloc (by with_reducible assumption) _) | ((refine own_below (by with_reducible assumption) ?_); go_grown)), (by go_grown)⟩)) hb
  (try clear hS)
  have hS := hT
  clear hT
  have hB := hS.2.2.2.2.2.2.2.2.2.2
  have hzw : w.heap.size ≤ w13.heap.size := hB.size
  have hz1 : w7.heap.size < w13.heap.size := World.block_lt_of_cell? w13 _ (hS.2.2.1)
  have hz2 : w3.heap.size < w13.heap.size := World.block_lt_of_cell? w13 _ (hS.2.2.2.2.2.2.1)
  clear hb
  go_wp2
  go_returns
  exact ⟨ret_eq (by simp), hB⟩
end Go.Proofs.Ytnocgcfepkdjeaa
