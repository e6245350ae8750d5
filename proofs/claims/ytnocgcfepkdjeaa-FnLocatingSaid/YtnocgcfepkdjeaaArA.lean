/- Law: arrivals. -/
import Derived.Test.YtnocgcfepkdjeaaDrC
import Derived.Test.YtnocgcfepkdjeaaLwA
import Derived.Test.YtnocgcfepkdjeaaArMath
import Derived.Test.YtnocgcfepkdjeaaSiI
import Derived.Test.YtnocgcfepkdjeaaSiLb
import Derived.Test.YtnocgcfepkdjeaaSiM
namespace Go.Proofs.Ytnocgcfepkdjeaa
open Go.RowKit

set_option maxRecDepth 100000 in
set_option maxHeartbeats 4000000 in
theorem fnArrivals (A : Option Addr) (n c : Nat) (w : World) (h1 : Hid (CodeOk w A n))  : Calls Try.prog 10 #[.slice A n c] w (Gives w (.bool true)) := by
  rcases kb : bigB n with _ | _
  rotate_left
  · have HKB := hide kb
    clear kb
    go_enter Try.func10, Try.ntmps10
    go_wp2_with (first | (go_at_call 27; refine (vBig_c _ _ _ _).mono ?_; rintro e w1 ⟨rfl, rfl⟩; rw [HKB.out]))
    go_returns
    exact ⟨ret_eq rfl, by go_grown⟩
  have HKB := hide kb
  have HN := hide (bigB_no kb)
  clear kb
  go_enter Try.func10, Try.ntmps10
  go_wp2_with fail
  refine (vBig_c _ _ _ _).mono ?_
  rintro e wz ⟨rfl, rfl⟩
  rw [HKB.out]
  go_wp2_with fail
  refine (drawArr_c A n c _ (hide (h1.out.below (by go_grown))) HN.out).mono ?_
  rintro e w1 ⟨l, A1, c1, x, y, t, rfl, ho1, hl6, hp6, ⟨⟨hx0, hx1⟩, ⟨hy0, hy1⟩, ht0, ht1⟩, hb⟩
  obtain ⟨b1, ho1, hbk1⟩ := own_based ho1 (m := w.heap.size) (by first | omega | (simp; done) | (simp; omega))
  have hT : w1.ownsRow (b1) 32 2 (.slice A1 l.length c1) (l.length) (flat l) ∧ Below w.heap.size w w1 := ⟨ho1, (fun W h hb => below_via h (hb) : ∀ W : World, (Below w.heap.size w W) → Below W.heap.size W w1 → (Below w.heap.size w w1)) _ (by first | (with_reducible assumption) | go_grown) hb⟩
  (try clear hS)
  have hS := hT
  clear hT
  have hB := hS.2
  have hzw : w.heap.size ≤ w1.heap.size := hB.size
  clear hb
  go_wp2_with fail
  obtain ⟨w2, hww2⟩ : ∃ W, W = w1.alloc (.cells #[.int .i64 (x), .int .i64 (y)] 32) := ⟨_, rfl⟩
  have hT : w2.cell? ⟨w1.heap.size, 0, none⟩ = some (.int .i64 (x)) ∧ w2.cell? ⟨w1.heap.size, 1, none⟩ = some (.int .i64 (y)) ∧ w2.ownsRow (b1) 32 2 (.slice A1 l.length c1) (l.length) (flat l) ∧ Below w.heap.size w w2 := by
    rw [hww2]
    exact ⟨by simp [go_sem], by simp [go_sem], own_below hS.1 (by go_grown), below_via hS.2 (by go_grown)⟩
  rw [← hww2]
  clear hS hww2
  have hS := hT
  clear hT
  (try clear hB hzw)
  have hB := hS.2.2.2
  have hzw : w.heap.size ≤ w2.heap.size := hB.size
  have hz1 : w1.heap.size < w2.heap.size := World.block_lt_of_cell? w2 _ (hS.1)
  have hvl := arrV_len l (x, y) t
  obtain ⟨K, HK0⟩ : ∃ q, (arrK l (x, y) t) = q := ⟨_, rfl⟩
  have HK := hide HK0
  obtain ⟨a, ha0⟩ : ∃ q, arrV l (x, y) t = q := ⟨_, rfl⟩
  have HA := hide ha0
  rw [ha0] at hvl
  clear ha0
  obtain ⟨G, HGD0⟩ : ∃ q, (okS l) = q := ⟨_, rfl⟩
  have HGD := hide HGD0
  have hP := hS
  go_wp2_with fail
  refine (ArrivalsOf_c _ _ _ l x y t (hide (own_reads (hS.2.2.1))) (by omega) (own_cap (hS.2.2.1))).mono ?_
  rw [HA.out, HK.out]
  rintro e w3 ⟨A2, c2, rfl, ho2, hb⟩
  obtain ⟨b2, ho2, hbk2⟩ := own_based ho2 (m := w2.heap.size) (by first | omega | (simp; done) | (simp; omega))
  have ne1_2 := own_ne (hP.2.2.1) ho2 hbk2
  clear hP
  have hT : w3.ownsRow (b2) 3 1 (.slice A2 a.length c2) (a.length) (ints a) ∧ w3.cell? ⟨w1.heap.size, 0, none⟩ = some (.int .i64 (x)) ∧ w3.cell? ⟨w1.heap.size, 1, none⟩ = some (.int .i64 (y)) ∧ w3.ownsRow (b1) 32 2 (.slice A1 l.length c1) (l.length) (flat l) ∧ Below w.heap.size w w3 := ⟨ho2, (fun W h hb => ⟨keep_cell (hb) h.1, keep_cell (hb) h.2.1, own_below h.2.2.1 (hb), below_via h.2.2.2 (hb)⟩ : ∀ W : World, (W.cell? ⟨w1.heap.size, 0, none⟩ = some (.int .i64 (x)) ∧ W.cell? ⟨w1.heap.size, 1, none⟩ = some (.int .i64 (y)) ∧ W.ownsRow (b1) 32 2 (.slice A1 l.length c1) (l.length) (flat l) ∧ Below w.heap.size w W) → Below W.heap.size W w3 → (w3.cell? ⟨w1.heap.size, 0, none⟩ = some (.int .i64 (x)) ∧ w3.cell? ⟨w1.heap.size, 1, none⟩ = some (.int .i64 (y)) ∧ w3.ownsRow (b1) 32 2 (.slice A1 l.length c1) (l.length) (flat l) ∧ Below w.heap.size w w3)) _ (by first | (with_reducible assumption) | (exact hS) | (exact ⟨hS.1, hS.2.1, hS.2.2.1, (by go_grown)⟩) | (exact ⟨(by first | (with_reducible assumption) | (simp [go_sem]; done) | ((simp only [go_sem]); (with_reducible assumption)) | ((refine keep_cell ?_ (by with_reducible assumption)); go_grown; done) | (simp [go_sem, *]; done)), (by first | (with_reducible assumption) | (simp [go_sem]; done) | ((simp only [go_sem]); (with_reducible assumption)) | ((refine keep_cell ?_ (by with_reducible assumption)); go_grown; done) | (simp [go_sem, *]; done)), (by first | (with_reducible assumption) | (exact World.ownsRow.alloc (by with_reducible assumption) _) | ((refine own_below (by with_reducible assumption) ?_); go_grown)), (by go_grown)⟩)) hb⟩
  (try clear hS)
  have hS := hT
  clear hT
  have hB := hS.2.2.2.2
  have hzw : w.heap.size ≤ w3.heap.size := hB.size
  have hz1 : w1.heap.size < w3.heap.size := World.block_lt_of_cell? w3 _ (hS.2.1)
  clear hb
  have hP := hS
  go_wp2_with fail
  refine (sArrivalsOf_c _ _ _ l x y t (hide (own_reads (hS.2.2.2.1))) (by omega)).mono ?_
  rw [HA.out, HK.out]
  rintro e w4 ⟨A3, c3, rfl, ho3, hb⟩
  obtain ⟨b3, ho3, hbk3⟩ := own_based ho3 (m := w3.heap.size) (by first | omega | (simp; done) | (simp; omega))
  have ne1_3 := own_ne (hP.2.2.2.1) ho3 hbk3
  have ne2_3 := own_ne (hP.1) ho3 hbk3
  clear hP
  have hT : w4.ownsRow (b3) 3 1 (.slice A3 a.length c3) (a.length) (ints a) ∧ w4.ownsRow (b2) 3 1 (.slice A2 a.length c2) (a.length) (ints a) ∧ w4.cell? ⟨w1.heap.size, 0, none⟩ = some (.int .i64 (x)) ∧ w4.cell? ⟨w1.heap.size, 1, none⟩ = some (.int .i64 (y)) ∧ w4.ownsRow (b1) 32 2 (.slice A1 l.length c1) (l.length) (flat l) ∧ Below w.heap.size w w4 := ⟨ho3, (fun W h hb => ⟨own_below h.1 (hb), keep_cell (hb) h.2.1, keep_cell (hb) h.2.2.1, own_below h.2.2.2.1 (hb), below_via h.2.2.2.2 (hb)⟩ : ∀ W : World, (W.ownsRow (b2) 3 1 (.slice A2 a.length c2) (a.length) (ints a) ∧ W.cell? ⟨w1.heap.size, 0, none⟩ = some (.int .i64 (x)) ∧ W.cell? ⟨w1.heap.size, 1, none⟩ = some (.int .i64 (y)) ∧ W.ownsRow (b1) 32 2 (.slice A1 l.length c1) (l.length) (flat l) ∧ Below w.heap.size w W) → Below W.heap.size W w4 → (w4.ownsRow (b2) 3 1 (.slice A2 a.length c2) (a.length) (ints a) ∧ w4.cell? ⟨w1.heap.size, 0, none⟩ = some (.int .i64 (x)) ∧ w4.cell? ⟨w1.heap.size, 1, none⟩ = some (.int .i64 (y)) ∧ w4.ownsRow (b1) 32 2 (.slice A1 l.length c1) (l.length) (flat l) ∧ Below w.heap.size w w4)) _ (by first | (with_reducible assumption) | (exact hS) | (exact ⟨hS.1, hS.2.1, hS.2.2.1, hS.2.2.2.1, (by go_grown)⟩) | (exact ⟨(by first | (with_reducible assumption) | (exact World.ownsRow.alloc (by with_reducible assumption) _) | ((refine own_below (by with_reducible assumption) ?_); go_grown)), (by first | (with_reducible assumption) | (simp [go_sem]; done) | ((simp only [go_sem]); (with_reducible assumption)) | ((refine keep_cell ?_ (by with_reducible assumption)); go_grown; done) | (simp [go_sem, *]; done)), (by first | (with_reducible assumption) | (simp [go_sem]; done) | ((simp only [go_sem]); (with_reducible assumption)) | ((refine keep_cell ?_ (by with_reducible assumption)); go_grown; done) | (simp [go_sem, *]; done)), (by first | (with_reducible assumption) | (exact World.ownsRow.alloc (by with_reducible assumption) _) | ((refine own_below (by with_reducible assumption) ?_); go_grown)), (by go_grown)⟩)) hb⟩
  (try clear hS)
  have hS := hT
  clear hT
  have hB := hS.2.2.2.2.2
  have hzw : w.heap.size ≤ w4.heap.size := hB.size
  have hz1 : w1.heap.size < w4.heap.size := World.block_lt_of_cell? w4 _ (hS.2.2.1)
  clear hb
  go_wp2_with fail
  refine (vInts_c _ _ _ _ a a _ (hide (own_reads (hS.2.1))) (hide (own_reads (hS.1))) (by omega) (by omega)).mono ?_
  rw [decide_eq_true (show a = a from rfl)]
  rintro e w5 ⟨rfl, hb⟩
  have hT : w5.ownsRow (b3) 3 1 (.slice A3 a.length c3) (a.length) (ints a) ∧ w5.ownsRow (b2) 3 1 (.slice A2 a.length c2) (a.length) (ints a) ∧ w5.cell? ⟨w1.heap.size, 0, none⟩ = some (.int .i64 (x)) ∧ w5.cell? ⟨w1.heap.size, 1, none⟩ = some (.int .i64 (y)) ∧ w5.ownsRow (b1) 32 2 (.slice A1 l.length c1) (l.length) (flat l) ∧ Below w.heap.size w w5 := (fun W h hb => ⟨own_below h.1 (hb), own_below h.2.1 (hb), keep_cell (hb) h.2.2.1, keep_cell (hb) h.2.2.2.1, own_below h.2.2.2.2.1 (hb), below_via h.2.2.2.2.2 (hb)⟩ : ∀ W : World, (W.ownsRow (b3) 3 1 (.slice A3 a.length c3) (a.length) (ints a) ∧ W.ownsRow (b2) 3 1 (.slice A2 a.length c2) (a.length) (ints a) ∧ W.cell? ⟨w1.heap.size, 0, none⟩ = some (.int .i64 (x)) ∧ W.cell? ⟨w1.heap.size, 1, none⟩ = some (.int .i64 (y)) ∧ W.ownsRow (b1) 32 2 (.slice A1 l.length c1) (l.length) (flat l) ∧ Below w.heap.size w W) → Below W.heap.size W w5 → (w5.ownsRow (b3) 3 1 (.slice A3 a.length c3) (a.length) (ints a) ∧ w5.ownsRow (b2) 3 1 (.slice A2 a.length c2) (a.length) (ints a) ∧ w5.cell? ⟨w1.heap.size, 0, none⟩ = some (.int .i64 (x)) ∧ w5.cell? ⟨w1.heap.size, 1, none⟩ = some (.int .i64 (y)) ∧ w5.ownsRow (b1) 32 2 (.slice A1 l.length c1) (l.length) (flat l) ∧ Below w.heap.size w w5)) _ (by first | (with_reducible assumption) | (exact hS) | (exact ⟨hS.1, hS.2.1, hS.2.2.1, hS.2.2.2.1, hS.2.2.2.2.1, (by go_grown)⟩) | (exact ⟨(by first | (with_reducible assumption) | (exact World.ownsRow.alloc (by with_reducible assumption) _) | ((refine own_below (by with_reducible assumption) ?_); go_grown)), (by first | (with_reducible assumption) | (exact World.ownsRow.alloc (by with_reducible assumption) _) | ((refine own_below (by with_reducible assumption) ?_); go_grown)), (by first | (with_reducible assumption) | (simp [go_sem]; done) | ((simp only [go_sem]); (with_reducible assumption)) | ((refine keep_cell ?_ (by with_reducible assumption)); go_grown; done) | (simp [go_sem, *]; done)), (by first | (with_reducible assumption) | (simp [go_sem]; done) | ((simp only [go_sem]); (with_reducible assumption)) | ((refine keep_cell ?_ (by with_reducible assumption)); go_grown; done) | (simp [go_sem, *]; done)), (by first | (with_reducible assumption) | (exact World.ownsRow.alloc (by with_reducible assumption) _) | ((refine own_below (by with_reducible assumption) ?_); go_grown)), (by go_grown)⟩)) hb
  (try clear hS)
  have hS := hT
  clear hT
  have hB := hS.2.2.2.2.2
  have hzw : w.heap.size ≤ w5.heap.size := hB.size
  have hz1 : w1.heap.size < w5.heap.size := World.block_lt_of_cell? w5 _ (hS.2.2.1)
  clear hb
  go_wp2_with fail
  refine (validS_c _ _ l _ (hide (own_reads (hS.2.2.2.2.1))) (by omega) (own_cap (hS.2.2.2.2.1))).mono ?_
  rw [HGD.out]
  rintro e w6 ⟨rfl, hb⟩
  have hT : w6.ownsRow (b3) 3 1 (.slice A3 a.length c3) (a.length) (ints a) ∧ w6.ownsRow (b2) 3 1 (.slice A2 a.length c2) (a.length) (ints a) ∧ w6.cell? ⟨w1.heap.size, 0, none⟩ = some (.int .i64 (x)) ∧ w6.cell? ⟨w1.heap.size, 1, none⟩ = some (.int .i64 (y)) ∧ w6.ownsRow (b1) 32 2 (.slice A1 l.length c1) (l.length) (flat l) ∧ Below w.heap.size w w6 := (fun W h hb => ⟨own_below h.1 (hb), own_below h.2.1 (hb), keep_cell (hb) h.2.2.1, keep_cell (hb) h.2.2.2.1, own_below h.2.2.2.2.1 (hb), below_via h.2.2.2.2.2 (hb)⟩ : ∀ W : World, (W.ownsRow (b3) 3 1 (.slice A3 a.length c3) (a.length) (ints a) ∧ W.ownsRow (b2) 3 1 (.slice A2 a.length c2) (a.length) (ints a) ∧ W.cell? ⟨w1.heap.size, 0, none⟩ = some (.int .i64 (x)) ∧ W.cell? ⟨w1.heap.size, 1, none⟩ = some (.int .i64 (y)) ∧ W.ownsRow (b1) 32 2 (.slice A1 l.length c1) (l.length) (flat l) ∧ Below w.heap.size w W) → Below W.heap.size W w6 → (w6.ownsRow (b3) 3 1 (.slice A3 a.length c3) (a.length) (ints a) ∧ w6.ownsRow (b2) 3 1 (.slice A2 a.length c2) (a.length) (ints a) ∧ w6.cell? ⟨w1.heap.size, 0, none⟩ = some (.int .i64 (x)) ∧ w6.cell? ⟨w1.heap.size, 1, none⟩ = some (.int .i64 (y)) ∧ w6.ownsRow (b1) 32 2 (.slice A1 l.length c1) (l.length) (flat l) ∧ Below w.heap.size w w6)) _ (by first | (with_reducible assumption) | (exact hS) | (exact ⟨hS.1, hS.2.1, hS.2.2.1, hS.2.2.2.1, hS.2.2.2.2.1, (by go_grown)⟩) | (exact ⟨(by first | (with_reducible assumption) | (exact World.ownsRow.alloc (by with_reducible assumption) _) | ((refine own_below (by with_reducible assumption) ?_); go_grown)), (by first | (with_reducible assumption) | (exact World.ownsRow.alloc (by with_reducible assumption) _) | ((refine own_below (by with_reducible assumption) ?_); go_grown)), (by first | (with_reducible assumption) | (simp [go_sem]; done) | ((simp only [go_sem]); (with_reducible assumption)) | ((refine keep_cell ?_ (by with_reducible assumption)); go_grown; done) | (simp [go_sem, *]; done)), (by first | (with_reducible assumption) | (simp [go_sem]; done) | ((simp only [go_sem]); (with_reducible assumption)) | ((refine keep_cell ?_ (by with_reducible assumption)); go_grown; done) | (simp [go_sem, *]; done)), (by first | (with_reducible assumption) | (exact World.ownsRow.alloc (by with_reducible assumption) _) | ((refine own_below (by with_reducible assumption) ?_); go_grown)), (by go_grown)⟩)) hb
  (try clear hS)
  have hS := hT
  clear hT
  have hB := hS.2.2.2.2.2
  have hzw : w.heap.size ≤ w6.heap.size := hB.size
  have hz1 : w1.heap.size < w6.heap.size := World.block_lt_of_cell? w6 _ (hS.2.2.1)
  clear hb
  go_wp2_with fail
  refine (sValidS_c _ _ l _ (hide (own_reads (hS.2.2.2.2.1))) (by omega)).mono ?_
  rw [HGD.out]
  rintro e w7 ⟨rfl, hb⟩
  have hT : w7.ownsRow (b3) 3 1 (.slice A3 a.length c3) (a.length) (ints a) ∧ w7.ownsRow (b2) 3 1 (.slice A2 a.length c2) (a.length) (ints a) ∧ w7.cell? ⟨w1.heap.size, 0, none⟩ = some (.int .i64 (x)) ∧ w7.cell? ⟨w1.heap.size, 1, none⟩ = some (.int .i64 (y)) ∧ w7.ownsRow (b1) 32 2 (.slice A1 l.length c1) (l.length) (flat l) ∧ Below w.heap.size w w7 := (fun W h hb => ⟨own_below h.1 (hb), own_below h.2.1 (hb), keep_cell (hb) h.2.2.1, keep_cell (hb) h.2.2.2.1, own_below h.2.2.2.2.1 (hb), below_via h.2.2.2.2.2 (hb)⟩ : ∀ W : World, (W.ownsRow (b3) 3 1 (.slice A3 a.length c3) (a.length) (ints a) ∧ W.ownsRow (b2) 3 1 (.slice A2 a.length c2) (a.length) (ints a) ∧ W.cell? ⟨w1.heap.size, 0, none⟩ = some (.int .i64 (x)) ∧ W.cell? ⟨w1.heap.size, 1, none⟩ = some (.int .i64 (y)) ∧ W.ownsRow (b1) 32 2 (.slice A1 l.length c1) (l.length) (flat l) ∧ Below w.heap.size w W) → Below W.heap.size W w7 → (w7.ownsRow (b3) 3 1 (.slice A3 a.length c3) (a.length) (ints a) ∧ w7.ownsRow (b2) 3 1 (.slice A2 a.length c2) (a.length) (ints a) ∧ w7.cell? ⟨w1.heap.size, 0, none⟩ = some (.int .i64 (x)) ∧ w7.cell? ⟨w1.heap.size, 1, none⟩ = some (.int .i64 (y)) ∧ w7.ownsRow (b1) 32 2 (.slice A1 l.length c1) (l.length) (flat l) ∧ Below w.heap.size w w7)) _ (by first | (with_reducible assumption) | (exact hS) | (exact ⟨hS.1, hS.2.1, hS.2.2.1, hS.2.2.2.1, hS.2.2.2.2.1, (by go_grown)⟩) | (exact ⟨(by first | (with_reducible assumption) | (exact World.ownsRow.alloc (by with_reducible assumption) _) | ((refine own_below (by with_reducible assumption) ?_); go_grown)), (by first | (with_reducible assumption) | (exact World.ownsRow.alloc (by with_reducible assumption) _) | ((refine own_below (by with_reducible assumption) ?_); go_grown)), (by first | (with_reducible assumption) | (simp [go_sem]; done) | ((simp only [go_sem]); (with_reducible assumption)) | ((refine keep_cell ?_ (by with_reducible assumption)); go_grown; done) | (simp [go_sem, *]; done)), (by first | (with_reducible assumption) | (simp [go_sem]; done) | ((simp only [go_sem]); (with_reducible assumption)) | ((refine keep_cell ?_ (by with_reducible assumption)); go_grown; done) | (simp [go_sem, *]; done)), (by first | (with_reducible assumption) | (exact World.ownsRow.alloc (by with_reducible assumption) _) | ((refine own_below (by with_reducible assumption) ?_); go_grown)), (by go_grown)⟩)) hb
  (try clear hS)
  have hS := hT
  clear hT
  have hB := hS.2.2.2.2.2
  have hzw : w.heap.size ≤ w7.heap.size := hB.size
  have hz1 : w1.heap.size < w7.heap.size := World.block_lt_of_cell? w7 _ (hS.2.2.1)
  clear hb
  cases K
  · have hB := hS.2.2.2.2.2
    clear hS
    go_wp2_with fail
    refine (drawPoss_c A n c _ (hide (h1.out.below (by go_grown))) HN.out).mono ?_
    rintro e w31 ⟨l4, A4, c4, a4, A5, c5, rfl, ho4, ho5, hl46, ha47, hp46, hb⟩
    obtain ⟨b4, ho4, hbk4⟩ := own_based ho4 (m := w7.heap.size) (by first | omega | (simp; done) | (simp; omega))
    obtain ⟨b5, ho5, hbk5⟩ := own_based ho5 (m := w7.heap.size) (by first | omega | (simp; done) | (simp; omega))
    have hT : w31.ownsRow (b4) 32 2 (.slice A4 l4.length c4) (l4.length) (flat l4) ∧ w31.ownsRow (b5) 3 1 (.slice A5 a4.length c5) (a4.length) (ints a4) ∧ Below w.heap.size w w31 := ⟨ho4, ho5, (fun W h hb => below_via h (hb) : ∀ W : World, (Below w.heap.size w W) → Below W.heap.size W w31 → (Below w.heap.size w w31)) _ (by first | (with_reducible assumption) | go_grown) hb⟩
    (try clear hS)
    have hS := hT
    clear hT
    have hB := hS.2.2
    have hzw : w.heap.size ≤ w31.heap.size := hB.size
    clear hb
    obtain ⟨P4, HP40⟩ : ∃ q, (posV l4 a4) = q := ⟨_, rfl⟩
    have HP4 := hide HP40
    obtain ⟨K4, HK40⟩ : ∃ q, (askB l4 a4) = q := ⟨_, rfl⟩
    have HK4 := hide HK40
    go_wp2_with fail
    refine (Possible_c _ _ l4 _ _ a4 _ (hide (own_reads (hS.1))) (hide (own_reads (hS.2.1))) (by omega) (by omega) (own_cap (hS.1))).mono ?_
    rw [HP4.out, HK4.out]
    rintro e w32 ⟨rfl, hb⟩
    have hT : w32.ownsRow (b4) 32 2 (.slice A4 l4.length c4) (l4.length) (flat l4) ∧ w32.ownsRow (b5) 3 1 (.slice A5 a4.length c5) (a4.length) (ints a4) ∧ Below w.heap.size w w32 := (fun W h hb => ⟨own_below h.1 (hb), own_below h.2.1 (hb), below_via h.2.2 (hb)⟩ : ∀ W : World, (W.ownsRow (b4) 32 2 (.slice A4 l4.length c4) (l4.length) (flat l4) ∧ W.ownsRow (b5) 3 1 (.slice A5 a4.length c5) (a4.length) (ints a4) ∧ Below w.heap.size w W) → Below W.heap.size W w32 → (w32.ownsRow (b4) 32 2 (.slice A4 l4.length c4) (l4.length) (flat l4) ∧ w32.ownsRow (b5) 3 1 (.slice A5 a4.length c5) (a4.length) (ints a4) ∧ Below w.heap.size w w32)) _ (by first | (with_reducible assumption) | (exact hS) | (exact ⟨hS.1, hS.2.1, (by go_grown)⟩) | (exact ⟨(by first | (with_reducible assumption) | (exact World.ownsRow.alloc (by with_reducible assumption) _) | ((refine own_below (by with_reducible assumption) ?_); go_grown)), (by first | (with_reducible assumption) | (exact World.ownsRow.alloc (by with_reducible assumption) _) | ((refine own_below (by with_reducible assumption) ?_); go_grown)), (by go_grown)⟩)) hb
    (try clear hS)
    have hS := hT
    clear hT
    have hB := hS.2.2
    have hzw : w.heap.size ≤ w32.heap.size := hB.size
    clear hb
    go_wp2_with fail
    refine (sPossible_c _ _ l4 _ _ a4 _ (hide (own_reads (hS.1))) (hide (own_reads (hS.2.1))) (by omega) (by omega)).mono ?_
    rw [HP4.out, HK4.out]
    rintro e w33 ⟨rfl, hb⟩
    have hT : w33.ownsRow (b4) 32 2 (.slice A4 l4.length c4) (l4.length) (flat l4) ∧ w33.ownsRow (b5) 3 1 (.slice A5 a4.length c5) (a4.length) (ints a4) ∧ Below w.heap.size w w33 := (fun W h hb => ⟨own_below h.1 (hb), own_below h.2.1 (hb), below_via h.2.2 (hb)⟩ : ∀ W : World, (W.ownsRow (b4) 32 2 (.slice A4 l4.length c4) (l4.length) (flat l4) ∧ W.ownsRow (b5) 3 1 (.slice A5 a4.length c5) (a4.length) (ints a4) ∧ Below w.heap.size w W) → Below W.heap.size W w33 → (w33.ownsRow (b4) 32 2 (.slice A4 l4.length c4) (l4.length) (flat l4) ∧ w33.ownsRow (b5) 3 1 (.slice A5 a4.length c5) (a4.length) (ints a4) ∧ Below w.heap.size w w33)) _ (by first | (with_reducible assumption) | (exact hS) | (exact ⟨hS.1, hS.2.1, (by go_grown)⟩) | (exact ⟨(by first | (with_reducible assumption) | (exact World.ownsRow.alloc (by with_reducible assumption) _) | ((refine own_below (by with_reducible assumption) ?_); go_grown)), (by first | (with_reducible assumption) | (exact World.ownsRow.alloc (by with_reducible assumption) _) | ((refine own_below (by with_reducible assumption) ?_); go_grown)), (by go_grown)⟩)) hb
    (try clear hS)
    have hS := hT
    clear hT
    have hB := hS.2.2
    have hzw : w.heap.size ≤ w33.heap.size := hB.size
    clear hb
    have hB := hS.2.2
    clear hS
    go_wp2_with fail
    refine (drawSend_c A n c _ (hide (h1.out.below (by go_grown))) HN.out).mono ?_
    rintro e w34 ⟨l6, A6, c6, a6, A7, c7, u, v, rfl, ho6, ho7, hl66, ha67, hp66, ⟨hu0, hu1⟩, ⟨hv0, hv1⟩, hb⟩
    obtain ⟨b6, ho6, hbk6⟩ := own_based ho6 (m := w33.heap.size) (by first | omega | (simp; done) | (simp; omega))
    obtain ⟨b7, ho7, hbk7⟩ := own_based ho7 (m := w33.heap.size) (by first | omega | (simp; done) | (simp; omega))
    have hT : w34.ownsRow (b6) 32 2 (.slice A6 l6.length c6) (l6.length) (flat l6) ∧ w34.ownsRow (b7) 3 1 (.slice A7 a6.length c7) (a6.length) (ints a6) ∧ Below w.heap.size w w34 := ⟨ho6, ho7, (fun W h hb => below_via h (hb) : ∀ W : World, (Below w.heap.size w W) → Below W.heap.size W w34 → (Below w.heap.size w w34)) _ (by first | (with_reducible assumption) | go_grown) hb⟩
    (try clear hS)
    have hS := hT
    clear hT
    have hB := hS.2.2
    have hzw : w.heap.size ≤ w34.heap.size := hB.size
    clear hb
    go_wp2_with fail
    obtain ⟨w35, hww35⟩ : ∃ W, W = w34.alloc (.cells #[.int .i64 (u), .int .i64 (v)] 32) := ⟨_, rfl⟩
    have hT : w35.cell? ⟨w34.heap.size, 0, none⟩ = some (.int .i64 (u)) ∧ w35.cell? ⟨w34.heap.size, 1, none⟩ = some (.int .i64 (v)) ∧ w35.ownsRow (b6) 32 2 (.slice A6 l6.length c6) (l6.length) (flat l6) ∧ w35.ownsRow (b7) 3 1 (.slice A7 a6.length c7) (a6.length) (ints a6) ∧ Below w.heap.size w w35 := by
      rw [hww35]
      exact ⟨by simp [go_sem], by simp [go_sem], own_below hS.1 (by go_grown), own_below hS.2.1 (by go_grown), below_via hS.2.2 (by go_grown)⟩
    rw [← hww35]
    clear hS hww35
    have hS := hT
    clear hT
    (try clear hB hzw)
    have hB := hS.2.2.2.2
    have hzw : w.heap.size ≤ w35.heap.size := hB.size
    have hz1 : w34.heap.size < w35.heap.size := World.block_lt_of_cell? w35 _ (hS.1)
    have hvs := sndV_len l6 (u, v) a6
    obtain ⟨K6, HK60⟩ : ∃ q, (sndK l6 (u, v) a6) = q := ⟨_, rfl⟩
    have HK6 := hide HK60
    obtain ⟨s6, hs60⟩ : ∃ q, sndV l6 (u, v) a6 = q := ⟨_, rfl⟩
    have HS6 := hide hs60
    rw [hs60] at hvs
    clear hs60
    have hP := hS
    go_wp2_with fail
    refine (SendTimes_c _ _ _ l6 u v _ _ a6 (hide (own_reads (hS.2.2.1))) (by omega) (hide (own_reads (hS.2.2.2.1))) (by omega) (own_cap (hS.2.2.1))).mono ?_
    rw [HS6.out, HK6.out]
    rintro e w36 ⟨A8, c8, rfl, ho8, hb⟩
    obtain ⟨b8, ho8, hbk8⟩ := own_based ho8 (m := w35.heap.size) (by first | omega | (simp; done) | (simp; omega))
    have ne6_8 := own_ne (hP.2.2.1) ho8 hbk8
    have ne7_8 := own_ne (hP.2.2.2.1) ho8 hbk8
    clear hP
    have hT : w36.ownsRow (b8) 3 1 (.slice A8 s6.length c8) (s6.length) (ints s6) ∧ w36.cell? ⟨w34.heap.size, 0, none⟩ = some (.int .i64 (u)) ∧ w36.cell? ⟨w34.heap.size, 1, none⟩ = some (.int .i64 (v)) ∧ w36.ownsRow (b6) 32 2 (.slice A6 l6.length c6) (l6.length) (flat l6) ∧ w36.ownsRow (b7) 3 1 (.slice A7 a6.length c7) (a6.length) (ints a6) ∧ Below w.heap.size w w36 := ⟨ho8, (fun W h hb => ⟨keep_cell (hb) h.1, keep_cell (hb) h.2.1, own_below h.2.2.1 (hb), own_below h.2.2.2.1 (hb), below_via h.2.2.2.2 (hb)⟩ : ∀ W : World, (W.cell? ⟨w34.heap.size, 0, none⟩ = some (.int .i64 (u)) ∧ W.cell? ⟨w34.heap.size, 1, none⟩ = some (.int .i64 (v)) ∧ W.ownsRow (b6) 32 2 (.slice A6 l6.length c6) (l6.length) (flat l6) ∧ W.ownsRow (b7) 3 1 (.slice A7 a6.length c7) (a6.length) (ints a6) ∧ Below w.heap.size w W) → Below W.heap.size W w36 → (w36.cell? ⟨w34.heap.size, 0, none⟩ = some (.int .i64 (u)) ∧ w36.cell? ⟨w34.heap.size, 1, none⟩ = some (.int .i64 (v)) ∧ w36.ownsRow (b6) 32 2 (.slice A6 l6.length c6) (l6.length) (flat l6) ∧ w36.ownsRow (b7) 3 1 (.slice A7 a6.length c7) (a6.length) (ints a6) ∧ Below w.heap.size w w36)) _ (by first | (with_reducible assumption) | (exact hS) | (exact ⟨hS.1, hS.2.1, hS.2.2.1, hS.2.2.2.1, (by go_grown)⟩) | (exact ⟨(by first | (with_reducible assumption) | (simp [go_sem]; done) | ((simp only [go_sem]); (with_reducible assumption)) | ((refine keep_cell ?_ (by with_reducible assumption)); go_grown; done) | (simp [go_sem, *]; done)), (by first | (with_reducible assumption) | (simp [go_sem]; done) | ((simp only [go_sem]); (with_reducible assumption)) | ((refine keep_cell ?_ (by with_reducible assumption)); go_grown; done) | (simp [go_sem, *]; done)), (by first | (with_reducible assumption) | (exact World.ownsRow.alloc (by with_reducible assumption) _) | ((refine own_below (by with_reducible assumption) ?_); go_grown)), (by first | (with_reducible assumption) | (exact World.ownsRow.alloc (by with_reducible assumption) _) | ((refine own_below (by with_reducible assumption) ?_); go_grown)), (by go_grown)⟩)) hb⟩
    (try clear hS)
    have hS := hT
    clear hT
    have hB := hS.2.2.2.2.2
    have hzw : w.heap.size ≤ w36.heap.size := hB.size
    have hz1 : w34.heap.size < w36.heap.size := World.block_lt_of_cell? w36 _ (hS.2.1)
    clear hb
    have hP := hS
    go_wp2_with fail
    refine (sSendTimes_c _ _ _ l6 u v _ _ a6 (hide (own_reads (hS.2.2.2.1))) (by omega) (hide (own_reads (hS.2.2.2.2.1))) (by omega)).mono ?_
    rw [HS6.out, HK6.out]
    rintro e w37 ⟨A9, c9, rfl, ho9, hb⟩
    obtain ⟨b9, ho9, hbk9⟩ := own_based ho9 (m := w36.heap.size) (by first | omega | (simp; done) | (simp; omega))
    have ne6_9 := own_ne (hP.2.2.2.1) ho9 hbk9
    have ne7_9 := own_ne (hP.2.2.2.2.1) ho9 hbk9
    have ne8_9 := own_ne (hP.1) ho9 hbk9
    clear hP
    have hT : w37.ownsRow (b9) 3 1 (.slice A9 s6.length c9) (s6.length) (ints s6) ∧ w37.ownsRow (b8) 3 1 (.slice A8 s6.length c8) (s6.length) (ints s6) ∧ w37.cell? ⟨w34.heap.size, 0, none⟩ = some (.int .i64 (u)) ∧ w37.cell? ⟨w34.heap.size, 1, none⟩ = some (.int .i64 (v)) ∧ w37.ownsRow (b6) 32 2 (.slice A6 l6.length c6) (l6.length) (flat l6) ∧ w37.ownsRow (b7) 3 1 (.slice A7 a6.length c7) (a6.length) (ints a6) ∧ Below w.heap.size w w37 := ⟨ho9, (fun W h hb => ⟨own_below h.1 (hb), keep_cell (hb) h.2.1, keep_cell (hb) h.2.2.1, own_below h.2.2.2.1 (hb), own_below h.2.2.2.2.1 (hb), below_via h.2.2.2.2.2 (hb)⟩ : ∀ W : World, (W.ownsRow (b8) 3 1 (.slice A8 s6.length c8) (s6.length) (ints s6) ∧ W.cell? ⟨w34.heap.size, 0, none⟩ = some (.int .i64 (u)) ∧ W.cell? ⟨w34.heap.size, 1, none⟩ = some (.int .i64 (v)) ∧ W.ownsRow (b6) 32 2 (.slice A6 l6.length c6) (l6.length) (flat l6) ∧ W.ownsRow (b7) 3 1 (.slice A7 a6.length c7) (a6.length) (ints a6) ∧ Below w.heap.size w W) → Below W.heap.size W w37 → (w37.ownsRow (b8) 3 1 (.slice A8 s6.length c8) (s6.length) (ints s6) ∧ w37.cell? ⟨w34.heap.size, 0, none⟩ = some (.int .i64 (u)) ∧ w37.cell? ⟨w34.heap.size, 1, none⟩ = some (.int .i64 (v)) ∧ w37.ownsRow (b6) 32 2 (.slice A6 l6.length c6) (l6.length) (flat l6) ∧ w37.ownsRow (b7) 3 1 (.slice A7 a6.length c7) (a6.length) (ints a6) ∧ Below w.heap.size w w37)) _ (by first | (with_reducible assumption) | (exact hS) | (exact ⟨hS.1, hS.2.1, hS.2.2.1, hS.2.2.2.1, hS.2.2.2.2.1, (by go_grown)⟩) | (exact ⟨(by first | (with_reducible assumption) | (exact World.ownsRow.alloc (by with_reducible assumption) _) | ((refine own_below (by with_reducible assumption) ?_); go_grown)), (by first | (with_reducible assumption) | (simp [go_sem]; done) | ((simp only [go_sem]); (with_reducible assumption)) | ((refine keep_cell ?_ (by with_reducible assumption)); go_grown; done) | (simp [go_sem, *]; done)), (by first | (with_reducible assumption) | (simp [go_sem]; done) | ((simp only [go_sem]); (with_reducible assumption)) | ((refine keep_cell ?_ (by with_reducible assumption)); go_grown; done) | (simp [go_sem, *]; done)), (by first | (with_reducible assumption) | (exact World.ownsRow.alloc (by with_reducible assumption) _) | ((refine own_below (by with_reducible assumption) ?_); go_grown)), (by first | (with_reducible assumption) | (exact World.ownsRow.alloc (by with_reducible assumption) _) | ((refine own_below (by with_reducible assumption) ?_); go_grown)), (by go_grown)⟩)) hb⟩
    (try clear hS)
    have hS := hT
    clear hT
    have hB := hS.2.2.2.2.2.2
    have hzw : w.heap.size ≤ w37.heap.size := hB.size
    have hz1 : w34.heap.size < w37.heap.size := World.block_lt_of_cell? w37 _ (hS.2.2.1)
    clear hb
    go_wp2_with fail
    refine (vInts_c _ _ _ _ s6 s6 _ (hide (own_reads (hS.2.1))) (hide (own_reads (hS.1))) (by omega) (by omega)).mono ?_
    rw [decide_eq_true (show s6 = s6 from rfl)]
    rintro e w38 ⟨rfl, hb⟩
    have hT : w38.ownsRow (b9) 3 1 (.slice A9 s6.length c9) (s6.length) (ints s6) ∧ w38.ownsRow (b8) 3 1 (.slice A8 s6.length c8) (s6.length) (ints s6) ∧ w38.cell? ⟨w34.heap.size, 0, none⟩ = some (.int .i64 (u)) ∧ w38.cell? ⟨w34.heap.size, 1, none⟩ = some (.int .i64 (v)) ∧ w38.ownsRow (b6) 32 2 (.slice A6 l6.length c6) (l6.length) (flat l6) ∧ w38.ownsRow (b7) 3 1 (.slice A7 a6.length c7) (a6.length) (ints a6) ∧ Below w.heap.size w w38 := (fun W h hb => ⟨own_below h.1 (hb), own_below h.2.1 (hb), keep_cell (hb) h.2.2.1, keep_cell (hb) h.2.2.2.1, own_below h.2.2.2.2.1 (hb), own_below h.2.2.2.2.2.1 (hb), below_via h.2.2.2.2.2.2 (hb)⟩ : ∀ W : World, (W.ownsRow (b9) 3 1 (.slice A9 s6.length c9) (s6.length) (ints s6) ∧ W.ownsRow (b8) 3 1 (.slice A8 s6.length c8) (s6.length) (ints s6) ∧ W.cell? ⟨w34.heap.size, 0, none⟩ = some (.int .i64 (u)) ∧ W.cell? ⟨w34.heap.size, 1, none⟩ = some (.int .i64 (v)) ∧ W.ownsRow (b6) 32 2 (.slice A6 l6.length c6) (l6.length) (flat l6) ∧ W.ownsRow (b7) 3 1 (.slice A7 a6.length c7) (a6.length) (ints a6) ∧ Below w.heap.size w W) → Below W.heap.size W w38 → (w38.ownsRow (b9) 3 1 (.slice A9 s6.length c9) (s6.length) (ints s6) ∧ w38.ownsRow (b8) 3 1 (.slice A8 s6.length c8) (s6.length) (ints s6) ∧ w38.cell? ⟨w34.heap.size, 0, none⟩ = some (.int .i64 (u)) ∧ w38.cell? ⟨w34.heap.size, 1, none⟩ = some (.int .i64 (v)) ∧ w38.ownsRow (b6) 32 2 (.slice A6 l6.length c6) (l6.length) (flat l6) ∧ w38.ownsRow (b7) 3 1 (.slice A7 a6.length c7) (a6.length) (ints a6) ∧ Below w.heap.size w w38)) _ (by first | (with_reducible assumption) | (exact hS) | (exact ⟨hS.1, hS.2.1, hS.2.2.1, hS.2.2.2.1, hS.2.2.2.2.1, hS.2.2.2.2.2.1, (by go_grown)⟩) | (exact ⟨(by first | (with_reducible assumption) | (exact World.ownsRow.alloc (by with_reducible assumption) _) | ((refine own_below (by with_reducible assumption) ?_); go_grown)), (by first | (with_reducible assumption) | (exact World.ownsRow.alloc (by with_reducible assumption) _) | ((refine own_below (by with_reducible assumption) ?_); go_grown)), (by first | (with_reducible assumption) | (simp [go_sem]; done) | ((simp only [go_sem]); (with_reducible assumption)) | ((refine keep_cell ?_ (by with_reducible assumption)); go_grown; done) | (simp [go_sem, *]; done)), (by first | (with_reducible assumption) | (simp [go_sem]; done) | ((simp only [go_sem]); (with_reducible assumption)) | ((refine keep_cell ?_ (by with_reducible assumption)); go_grown; done) | (simp [go_sem, *]; done)), (by first | (with_reducible assumption) | (exact World.ownsRow.alloc (by with_reducible assumption) _) | ((refine own_below (by with_reducible assumption) ?_); go_grown)), (by first | (with_reducible assumption) | (exact World.ownsRow.alloc (by with_reducible assumption) _) | ((refine own_below (by with_reducible assumption) ?_); go_grown)), (by go_grown)⟩)) hb
    (try clear hS)
    have hS := hT
    clear hT
    have hB := hS.2.2.2.2.2.2
    have hzw : w.heap.size ≤ w38.heap.size := hB.size
    have hz1 : w34.heap.size < w38.heap.size := World.block_lt_of_cell? w38 _ (hS.2.2.1)
    clear hb
    go_wp2
    go_returns
    exact ⟨ret_eq (by simp), by go_grown⟩
  have HF : Hid (ArrFacts l (x, y) t a) := hide (by have h := arr_facts HK.out; have e := HA.out; unfold arrV at e; rw [if_pos HK.out] at e; rwa [e] at h)
  obtain ⟨k1, k2, k3⟩ : okS l = true ∧ pt (x, y) = true ∧ wi t 0 100000 = true := by have h := HK.out; unfold arrK at h; simpa using h
  obtain ⟨n1, n5⟩ := (okS_iff.1 k1).1
  obtain ⟨tt0, tt1⟩ := wi_iff.1 k3
  have hgd := hide (okS_iff.1 k1).2
  have HPT := hide k2
  clear k1 k2 k3
  have halen : a.length = l.length := HF.out.len
  have HAL := hide halen
  clear halen
  have HAa : Hid (∀ i, i < l.length → nth a i = t + dst (px l i, py l i) (x, y)) := hide (fun i hi => by have e := HA.out; unfold arrV at e; rw [if_pos HK.out] at e; rw [← e]; exact arrL_at hi)
  go_wp2_with fail
  refine (Possible_c _ _ l _ _ a _ (hide (own_reads (hS.2.2.2.2.1))) (hide (own_reads (hS.2.1))) (by omega) (by omega) (own_cap (hS.2.2.2.2.1))).mono ?_
  rw [HF.out.pos, HF.out.ask]
  rintro e w8 ⟨rfl, hb⟩
  have hT : w8.ownsRow (b3) 3 1 (.slice A3 a.length c3) (a.length) (ints a) ∧ w8.ownsRow (b2) 3 1 (.slice A2 a.length c2) (a.length) (ints a) ∧ w8.cell? ⟨w1.heap.size, 0, none⟩ = some (.int .i64 (x)) ∧ w8.cell? ⟨w1.heap.size, 1, none⟩ = some (.int .i64 (y)) ∧ w8.ownsRow (b1) 32 2 (.slice A1 l.length c1) (l.length) (flat l) ∧ Below w.heap.size w w8 := (fun W h hb => ⟨own_below h.1 (hb), own_below h.2.1 (hb), keep_cell (hb) h.2.2.1, keep_cell (hb) h.2.2.2.1, own_below h.2.2.2.2.1 (hb), below_via h.2.2.2.2.2 (hb)⟩ : ∀ W : World, (W.ownsRow (b3) 3 1 (.slice A3 a.length c3) (a.length) (ints a) ∧ W.ownsRow (b2) 3 1 (.slice A2 a.length c2) (a.length) (ints a) ∧ W.cell? ⟨w1.heap.size, 0, none⟩ = some (.int .i64 (x)) ∧ W.cell? ⟨w1.heap.size, 1, none⟩ = some (.int .i64 (y)) ∧ W.ownsRow (b1) 32 2 (.slice A1 l.length c1) (l.length) (flat l) ∧ Below w.heap.size w W) → Below W.heap.size W w8 → (w8.ownsRow (b3) 3 1 (.slice A3 a.length c3) (a.length) (ints a) ∧ w8.ownsRow (b2) 3 1 (.slice A2 a.length c2) (a.length) (ints a) ∧ w8.cell? ⟨w1.heap.size, 0, none⟩ = some (.int .i64 (x)) ∧ w8.cell? ⟨w1.heap.size, 1, none⟩ = some (.int .i64 (y)) ∧ w8.ownsRow (b1) 32 2 (.slice A1 l.length c1) (l.length) (flat l) ∧ Below w.heap.size w w8)) _ (by first | (with_reducible assumption) | (exact hS) | (exact ⟨hS.1, hS.2.1, hS.2.2.1, hS.2.2.2.1, hS.2.2.2.2.1, (by go_grown)⟩) | (exact ⟨(by first | (with_reducible assumption) | (exact World.ownsRow.alloc (by with_reducible assumption) _) | ((refine own_below (by with_reducible assumption) ?_); go_grown)), (by first | (with_reducible assumption) | (exact World.ownsRow.alloc (by with_reducible assumption) _) | ((refine own_below (by with_reducible assumption) ?_); go_grown)), (by first | (with_reducible assumption) | (simp [go_sem]; done) | ((simp only [go_sem]); (with_reducible assumption)) | ((refine keep_cell ?_ (by with_reducible assumption)); go_grown; done) | (simp [go_sem, *]; done)), (by first | (with_reducible assumption) | (simp [go_sem]; done) | ((simp only [go_sem]); (with_reducible assumption)) | ((refine keep_cell ?_ (by with_reducible assumption)); go_grown; done) | (simp [go_sem, *]; done)), (by first | (with_reducible assumption) | (exact World.ownsRow.alloc (by with_reducible assumption) _) | ((refine own_below (by with_reducible assumption) ?_); go_grown)), (by go_grown)⟩)) hb
  (try clear hS)
  have hS := hT
  clear hT
  have hB := hS.2.2.2.2.2
  have hzw : w.heap.size ≤ w8.heap.size := hB.size
  have hz1 : w1.heap.size < w8.heap.size := World.block_lt_of_cell? w8 _ (hS.2.2.1)
  clear hb
  go_wp2_with fail
  refine (SendTimes_c _ _ _ l x y _ _ a (hide (own_reads (hS.2.2.2.2.1))) (by omega) (hide (own_reads (hS.2.1))) (by omega) (own_cap (hS.2.2.2.2.1))).mono ?_
  rw [HF.out.snd, HF.out.sndk]
  rintro e w9 ⟨As, cs, rfl, hos, hb⟩
  obtain ⟨bs, hos, hbks⟩ := own_based hos (m := w8.heap.size) (by first | omega | (simp; done) | (simp; omega))
  have hT : w9.ownsRow (bs) 3 1 (.slice As (List.replicate l.length t).length cs) ((List.replicate l.length t).length) (ints (List.replicate l.length t)) ∧ w9.ownsRow (b3) 3 1 (.slice A3 a.length c3) (a.length) (ints a) ∧ w9.ownsRow (b2) 3 1 (.slice A2 a.length c2) (a.length) (ints a) ∧ w9.cell? ⟨w1.heap.size, 0, none⟩ = some (.int .i64 (x)) ∧ w9.cell? ⟨w1.heap.size, 1, none⟩ = some (.int .i64 (y)) ∧ w9.ownsRow (b1) 32 2 (.slice A1 l.length c1) (l.length) (flat l) ∧ Below w.heap.size w w9 := ⟨hos, (fun W h hb => ⟨own_below h.1 (hb), own_below h.2.1 (hb), keep_cell (hb) h.2.2.1, keep_cell (hb) h.2.2.2.1, own_below h.2.2.2.2.1 (hb), below_via h.2.2.2.2.2 (hb)⟩ : ∀ W : World, (W.ownsRow (b3) 3 1 (.slice A3 a.length c3) (a.length) (ints a) ∧ W.ownsRow (b2) 3 1 (.slice A2 a.length c2) (a.length) (ints a) ∧ W.cell? ⟨w1.heap.size, 0, none⟩ = some (.int .i64 (x)) ∧ W.cell? ⟨w1.heap.size, 1, none⟩ = some (.int .i64 (y)) ∧ W.ownsRow (b1) 32 2 (.slice A1 l.length c1) (l.length) (flat l) ∧ Below w.heap.size w W) → Below W.heap.size W w9 → (w9.ownsRow (b3) 3 1 (.slice A3 a.length c3) (a.length) (ints a) ∧ w9.ownsRow (b2) 3 1 (.slice A2 a.length c2) (a.length) (ints a) ∧ w9.cell? ⟨w1.heap.size, 0, none⟩ = some (.int .i64 (x)) ∧ w9.cell? ⟨w1.heap.size, 1, none⟩ = some (.int .i64 (y)) ∧ w9.ownsRow (b1) 32 2 (.slice A1 l.length c1) (l.length) (flat l) ∧ Below w.heap.size w w9)) _ (by first | (with_reducible assumption) | (exact hS) | (exact ⟨hS.1, hS.2.1, hS.2.2.1, hS.2.2.2.1, hS.2.2.2.2.1, (by go_grown)⟩) | (exact ⟨(by first | (with_reducible assumption) | (exact World.ownsRow.alloc (by with_reducible assumption) _) | ((refine own_below (by with_reducible assumption) ?_); go_grown)), (by first | (with_reducible assumption) | (exact World.ownsRow.alloc (by with_reducible assumption) _) | ((refine own_below (by with_reducible assumption) ?_); go_grown)), (by first | (with_reducible assumption) | (simp [go_sem]; done) | ((simp only [go_sem]); (with_reducible assumption)) | ((refine keep_cell ?_ (by with_reducible assumption)); go_grown; done) | (simp [go_sem, *]; done)), (by first | (with_reducible assumption) | (simp [go_sem]; done) | ((simp only [go_sem]); (with_reducible assumption)) | ((refine keep_cell ?_ (by with_reducible assumption)); go_grown; done) | (simp [go_sem, *]; done)), (by first | (with_reducible assumption) | (exact World.ownsRow.alloc (by with_reducible assumption) _) | ((refine own_below (by with_reducible assumption) ?_); go_grown)), (by go_grown)⟩)) hb⟩
  (try clear hS)
  have hS := hT
  clear hT
  have hB := hS.2.2.2.2.2.2
  have hzw : w.heap.size ≤ w9.heap.size := hB.size
  have hz1 : w1.heap.size < w9.heap.size := World.block_lt_of_cell? w9 _ (hS.2.2.2.1)
  clear hb
  obtain ⟨f, harg, hfl, hfm⟩ := HF.out.arg
  have HARG := hide harg
  have HFM := hide hfm
  clear harg hfm
  go_wp2_with fail
  refine (FirstHeard_c _ _ l _ _ a _ (hide (own_reads (hS.2.2.2.2.2.1))) (hide (own_reads (hS.2.2.1))) (by omega) (by omega) (own_cap (hS.2.2.2.2.2.1))).mono ?_
  rw [HARG.out, HF.out.ask]
  rintro e w10 ⟨rfl, hb⟩
  have hT : w10.ownsRow (bs) 3 1 (.slice As (List.replicate l.length t).length cs) ((List.replicate l.length t).length) (ints (List.replicate l.length t)) ∧ w10.ownsRow (b3) 3 1 (.slice A3 a.length c3) (a.length) (ints a) ∧ w10.ownsRow (b2) 3 1 (.slice A2 a.length c2) (a.length) (ints a) ∧ w10.cell? ⟨w1.heap.size, 0, none⟩ = some (.int .i64 (x)) ∧ w10.cell? ⟨w1.heap.size, 1, none⟩ = some (.int .i64 (y)) ∧ w10.ownsRow (b1) 32 2 (.slice A1 l.length c1) (l.length) (flat l) ∧ Below w.heap.size w w10 := (fun W h hb => ⟨own_below h.1 (hb), own_below h.2.1 (hb), own_below h.2.2.1 (hb), keep_cell (hb) h.2.2.2.1, keep_cell (hb) h.2.2.2.2.1, own_below h.2.2.2.2.2.1 (hb), below_via h.2.2.2.2.2.2 (hb)⟩ : ∀ W : World, (W.ownsRow (bs) 3 1 (.slice As (List.replicate l.length t).length cs) ((List.replicate l.length t).length) (ints (List.replicate l.length t)) ∧ W.ownsRow (b3) 3 1 (.slice A3 a.length c3) (a.length) (ints a) ∧ W.ownsRow (b2) 3 1 (.slice A2 a.length c2) (a.length) (ints a) ∧ W.cell? ⟨w1.heap.size, 0, none⟩ = some (.int .i64 (x)) ∧ W.cell? ⟨w1.heap.size, 1, none⟩ = some (.int .i64 (y)) ∧ W.ownsRow (b1) 32 2 (.slice A1 l.length c1) (l.length) (flat l) ∧ Below w.heap.size w W) → Below W.heap.size W w10 → (w10.ownsRow (bs) 3 1 (.slice As (List.replicate l.length t).length cs) ((List.replicate l.length t).length) (ints (List.replicate l.length t)) ∧ w10.ownsRow (b3) 3 1 (.slice A3 a.length c3) (a.length) (ints a) ∧ w10.ownsRow (b2) 3 1 (.slice A2 a.length c2) (a.length) (ints a) ∧ w10.cell? ⟨w1.heap.size, 0, none⟩ = some (.int .i64 (x)) ∧ w10.cell? ⟨w1.heap.size, 1, none⟩ = some (.int .i64 (y)) ∧ w10.ownsRow (b1) 32 2 (.slice A1 l.length c1) (l.length) (flat l) ∧ Below w.heap.size w w10)) _ (by first | (with_reducible assumption) | (exact hS) | (exact ⟨hS.1, hS.2.1, hS.2.2.1, hS.2.2.2.1, hS.2.2.2.2.1, hS.2.2.2.2.2.1, (by go_grown)⟩) | (exact ⟨(by first | (with_reducible assumption) | (exact World.ownsRow.alloc (by with_reducible assumption) _) | ((refine own_below (by with_reducible assumption) ?_); go_grown)), (by first | (with_reducible assumption) | (exact World.ownsRow.alloc (by with_reducible assumption) _) | ((refine own_below (by with_reducible assumption) ?_); go_grown)), (by first | (with_reducible assumption) | (exact World.ownsRow.alloc (by with_reducible assumption) _) | ((refine own_below (by with_reducible assumption) ?_); go_grown)), (by first | (with_reducible assumption) | (simp [go_sem]; done) | ((simp only [go_sem]); (with_reducible assumption)) | ((refine keep_cell ?_ (by with_reducible assumption)); go_grown; done) | (simp [go_sem, *]; done)), (by first | (with_reducible assumption) | (simp [go_sem]; done) | ((simp only [go_sem]); (with_reducible assumption)) | ((refine keep_cell ?_ (by with_reducible assumption)); go_grown; done) | (simp [go_sem, *]; done)), (by first | (with_reducible assumption) | (exact World.ownsRow.alloc (by with_reducible assumption) _) | ((refine own_below (by with_reducible assumption) ?_); go_grown)), (by go_grown)⟩)) hb
  (try clear hS)
  have hS := hT
  clear hT
  have hB := hS.2.2.2.2.2.2
  have hzw : w.heap.size ≤ w10.heap.size := hB.size
  have hz1 : w1.heap.size < w10.heap.size := World.block_lt_of_cell? w10 _ (hS.2.2.2.1)
  clear hb
  go_wp2_with fail
  refine (SendTime_c _ _ l _ _ a x y _ (hide (own_reads (hS.2.2.2.2.2.1))) (hide (own_reads (hS.2.2.1))) (by omega) (by omega) (own_cap (hS.2.2.2.2.2.1))).mono ?_
  rw [HF.out.stv, HF.out.stk]
  rintro e w11 ⟨rfl, hb⟩
  have hT : w11.ownsRow (bs) 3 1 (.slice As (List.replicate l.length t).length cs) ((List.replicate l.length t).length) (ints (List.replicate l.length t)) ∧ w11.ownsRow (b3) 3 1 (.slice A3 a.length c3) (a.length) (ints a) ∧ w11.ownsRow (b2) 3 1 (.slice A2 a.length c2) (a.length) (ints a) ∧ w11.cell? ⟨w1.heap.size, 0, none⟩ = some (.int .i64 (x)) ∧ w11.cell? ⟨w1.heap.size, 1, none⟩ = some (.int .i64 (y)) ∧ w11.ownsRow (b1) 32 2 (.slice A1 l.length c1) (l.length) (flat l) ∧ Below w.heap.size w w11 := (fun W h hb => ⟨own_below h.1 (hb), own_below h.2.1 (hb), own_below h.2.2.1 (hb), keep_cell (hb) h.2.2.2.1, keep_cell (hb) h.2.2.2.2.1, own_below h.2.2.2.2.2.1 (hb), below_via h.2.2.2.2.2.2 (hb)⟩ : ∀ W : World, (W.ownsRow (bs) 3 1 (.slice As (List.replicate l.length t).length cs) ((List.replicate l.length t).length) (ints (List.replicate l.length t)) ∧ W.ownsRow (b3) 3 1 (.slice A3 a.length c3) (a.length) (ints a) ∧ W.ownsRow (b2) 3 1 (.slice A2 a.length c2) (a.length) (ints a) ∧ W.cell? ⟨w1.heap.size, 0, none⟩ = some (.int .i64 (x)) ∧ W.cell? ⟨w1.heap.size, 1, none⟩ = some (.int .i64 (y)) ∧ W.ownsRow (b1) 32 2 (.slice A1 l.length c1) (l.length) (flat l) ∧ Below w.heap.size w W) → Below W.heap.size W w11 → (w11.ownsRow (bs) 3 1 (.slice As (List.replicate l.length t).length cs) ((List.replicate l.length t).length) (ints (List.replicate l.length t)) ∧ w11.ownsRow (b3) 3 1 (.slice A3 a.length c3) (a.length) (ints a) ∧ w11.ownsRow (b2) 3 1 (.slice A2 a.length c2) (a.length) (ints a) ∧ w11.cell? ⟨w1.heap.size, 0, none⟩ = some (.int .i64 (x)) ∧ w11.cell? ⟨w1.heap.size, 1, none⟩ = some (.int .i64 (y)) ∧ w11.ownsRow (b1) 32 2 (.slice A1 l.length c1) (l.length) (flat l) ∧ Below w.heap.size w w11)) _ (by first | (with_reducible assumption) | (exact hS) | (exact ⟨hS.1, hS.2.1, hS.2.2.1, hS.2.2.2.1, hS.2.2.2.2.1, hS.2.2.2.2.2.1, (by go_grown)⟩) | (exact ⟨(by first | (with_reducible assumption) | (exact World.ownsRow.alloc (by with_reducible assumption) _) | ((refine own_below (by with_reducible assumption) ?_); go_grown)), (by first | (with_reducible assumption) | (exact World.ownsRow.alloc (by with_reducible assumption) _) | ((refine own_below (by with_reducible assumption) ?_); go_grown)), (by first | (with_reducible assumption) | (exact World.ownsRow.alloc (by with_reducible assumption) _) | ((refine own_below (by with_reducible assumption) ?_); go_grown)), (by first | (with_reducible assumption) | (simp [go_sem]; done) | ((simp only [go_sem]); (with_reducible assumption)) | ((refine keep_cell ?_ (by with_reducible assumption)); go_grown; done) | (simp [go_sem, *]; done)), (by first | (with_reducible assumption) | (simp [go_sem]; done) | ((simp only [go_sem]); (with_reducible assumption)) | ((refine keep_cell ?_ (by with_reducible assumption)); go_grown; done) | (simp [go_sem, *]; done)), (by first | (with_reducible assumption) | (exact World.ownsRow.alloc (by with_reducible assumption) _) | ((refine own_below (by with_reducible assumption) ?_); go_grown)), (by go_grown)⟩)) hb
  (try clear hS)
  have hS := hT
  clear hT
  have hB := hS.2.2.2.2.2.2
  have hzw : w.heap.size ≤ w11.heap.size := hB.size
  have hz1 : w1.heap.size < w11.heap.size := World.block_lt_of_cell? w11 _ (hS.2.2.2.1)
  clear hb
  have hS3 : w11.ownsRow (bs) 3 1 (.slice As (List.replicate l.length t).length cs) ((List.replicate l.length t).length) (ints (List.replicate l.length t)) ∧ w11.ownsRow (b2) 3 1 (.slice A2 a.length c2) (a.length) (ints a) ∧ w11.cell? ⟨w1.heap.size, 0, none⟩ = some (.int .i64 (x)) ∧ w11.cell? ⟨w1.heap.size, 1, none⟩ = some (.int .i64 (y)) ∧ w11.ownsRow (b1) 32 2 (.slice A1 l.length c1) (l.length) (flat l) ∧ Below w.heap.size w w11 := ⟨hS.1, hS.2.2.1, hS.2.2.2.1, hS.2.2.2.2.1, hS.2.2.2.2.2.1, hS.2.2.2.2.2.2⟩
  clear hS
  have hS := hS3
  clear hS3
  obtain ⟨g9, hA1, hg9, hg99⟩ := own_at (hS.2.2.2.2.1) (by omega)
  subst hA1
  obtain ⟨ga, hA2, hga, hga9⟩ := own_at (hS.2.1) (by have := HAL.out; omega)
  subst hA2
  obtain ⟨gs, hA3, hgs, hgs9⟩ := own_at (hS.1) (by rw [List.length_replicate]; omega)
  subst hA3
  go_wp2
  go_loopw [18] (fun iv wr => ∃ i : Nat, i ≤ l.length ∧ iv = .int .i64 i ∧ (wr.ownsRow (bs) 3 1 (.slice (some ⟨gs, 0, none⟩) (List.replicate l.length t).length cs) ((List.replicate l.length t).length) (ints (List.replicate l.length t)) ∧ wr.ownsRow (b2) 3 1 (.slice (some ⟨ga, 0, none⟩) a.length c2) (a.length) (ints a) ∧ wr.cell? ⟨w1.heap.size, 0, none⟩ = some (.int .i64 (x)) ∧ wr.cell? ⟨w1.heap.size, 1, none⟩ = some (.int .i64 (y)) ∧ wr.ownsRow (b1) 32 2 (.slice (some ⟨g9, 0, none⟩) l.length c1) (l.length) (flat l) ∧ Below w.heap.size w wr)) (fun iv _ => l.length - (intOf iv).toNat)
  case atStart => exact ⟨0, by omega, rfl, (by first | (with_reducible assumption) | (exact hS) | (exact ⟨hS.1, hS.2.1, hS.2.2.1, hS.2.2.2.1, hS.2.2.2.2.1, (by go_grown)⟩) | (exact ⟨(by first | (with_reducible assumption) | (exact World.ownsRow.alloc (by with_reducible assumption) _) | ((refine own_below (by with_reducible assumption) ?_); go_grown)), (by first | (with_reducible assumption) | (exact World.ownsRow.alloc (by with_reducible assumption) _) | ((refine own_below (by with_reducible assumption) ?_); go_grown)), (by first | (with_reducible assumption) | (simp [go_sem]; done) | ((simp only [go_sem]); (with_reducible assumption)) | ((refine keep_cell ?_ (by with_reducible assumption)); go_grown; done) | (simp [go_sem, *]; done)), (by first | (with_reducible assumption) | (simp [go_sem]; done) | ((simp only [go_sem]); (with_reducible assumption)) | ((refine keep_cell ?_ (by with_reducible assumption)); go_grown; done) | (simp [go_sem, *]; done)), (by first | (with_reducible assumption) | (exact World.ownsRow.alloc (by with_reducible assumption) _) | ((refine own_below (by with_reducible assumption) ?_); go_grown)), (by go_grown)⟩))⟩
  case round =>
    obtain ⟨i, hi, rfl, hS⟩ := hrel
    have hB := hS.2.2.2.2.2
    have hzw : w.heap.size ≤ wr.heap.size := hB.size
    by_cases hlt : i < l.length
    rotate_left
    · obtain rfl : i = l.length := by omega
      (try clear hS)
      go_wp2_with fail
      refine (drawPoss_c A n c _ (hide (h1.out.below (by go_grown))) HN.out).mono ?_
      rintro e w31 ⟨l4, A4, c4, a4, A5, c5, rfl, ho4, ho5, hl46, ha47, hp46, hb⟩
      obtain ⟨b4, ho4, hbk4⟩ := own_based ho4 (m := wr.heap.size) (by first | omega | (simp; done) | (simp; omega))
      obtain ⟨b5, ho5, hbk5⟩ := own_based ho5 (m := wr.heap.size) (by first | omega | (simp; done) | (simp; omega))
      have hT : w31.ownsRow (b4) 32 2 (.slice A4 l4.length c4) (l4.length) (flat l4) ∧ w31.ownsRow (b5) 3 1 (.slice A5 a4.length c5) (a4.length) (ints a4) ∧ Below w.heap.size w w31 := ⟨ho4, ho5, (fun W h hb => below_via h (hb) : ∀ W : World, (Below w.heap.size w W) → Below W.heap.size W w31 → (Below w.heap.size w w31)) _ (by first | (with_reducible assumption) | go_grown) hb⟩
      (try clear hS)
      have hS := hT
      clear hT
      have hB := hS.2.2
      have hzw : w.heap.size ≤ w31.heap.size := hB.size
      clear hb
      obtain ⟨P4, HP40⟩ : ∃ q, (posV l4 a4) = q := ⟨_, rfl⟩
      have HP4 := hide HP40
      obtain ⟨K4, HK40⟩ : ∃ q, (askB l4 a4) = q := ⟨_, rfl⟩
      have HK4 := hide HK40
      go_wp2_with fail
      refine (Possible_c _ _ l4 _ _ a4 _ (hide (own_reads (hS.1))) (hide (own_reads (hS.2.1))) (by omega) (by omega) (own_cap (hS.1))).mono ?_
      rw [HP4.out, HK4.out]
      rintro e w32 ⟨rfl, hb⟩
      have hT : w32.ownsRow (b4) 32 2 (.slice A4 l4.length c4) (l4.length) (flat l4) ∧ w32.ownsRow (b5) 3 1 (.slice A5 a4.length c5) (a4.length) (ints a4) ∧ Below w.heap.size w w32 := (fun W h hb => ⟨own_below h.1 (hb), own_below h.2.1 (hb), below_via h.2.2 (hb)⟩ : ∀ W : World, (W.ownsRow (b4) 32 2 (.slice A4 l4.length c4) (l4.length) (flat l4) ∧ W.ownsRow (b5) 3 1 (.slice A5 a4.length c5) (a4.length) (ints a4) ∧ Below w.heap.size w W) → Below W.heap.size W w32 → (w32.ownsRow (b4) 32 2 (.slice A4 l4.length c4) (l4.length) (flat l4) ∧ w32.ownsRow (b5) 3 1 (.slice A5 a4.length c5) (a4.length) (ints a4) ∧ Below w.heap.size w w32)) _ (by first | (with_reducible assumption) | (exact hS) | (exact ⟨hS.1, hS.2.1, (by go_grown)⟩) | (exact ⟨(by first | (with_reducible assumption) | (exact World.ownsRow.alloc (by with_reducible assumption) _) | ((refine own_below (by with_reducible assumption) ?_); go_grown)), (by first | (with_reducible assumption) | (exact World.ownsRow.alloc (by with_reducible assumption) _) | ((refine own_below (by with_reducible assumption) ?_); go_grown)), (by go_grown)⟩)) hb
      (try clear hS)
      have hS := hT
      clear hT
      have hB := hS.2.2
      have hzw : w.heap.size ≤ w32.heap.size := hB.size
      clear hb
      go_wp2_with fail
      refine (sPossible_c _ _ l4 _ _ a4 _ (hide (own_reads (hS.1))) (hide (own_reads (hS.2.1))) (by omega) (by omega)).mono ?_
      rw [HP4.out, HK4.out]
      rintro e w33 ⟨rfl, hb⟩
      have hT : w33.ownsRow (b4) 32 2 (.slice A4 l4.length c4) (l4.length) (flat l4) ∧ w33.ownsRow (b5) 3 1 (.slice A5 a4.length c5) (a4.length) (ints a4) ∧ Below w.heap.size w w33 := (fun W h hb => ⟨own_below h.1 (hb), own_below h.2.1 (hb), below_via h.2.2 (hb)⟩ : ∀ W : World, (W.ownsRow (b4) 32 2 (.slice A4 l4.length c4) (l4.length) (flat l4) ∧ W.ownsRow (b5) 3 1 (.slice A5 a4.length c5) (a4.length) (ints a4) ∧ Below w.heap.size w W) → Below W.heap.size W w33 → (w33.ownsRow (b4) 32 2 (.slice A4 l4.length c4) (l4.length) (flat l4) ∧ w33.ownsRow (b5) 3 1 (.slice A5 a4.length c5) (a4.length) (ints a4) ∧ Below w.heap.size w w33)) _ (by first | (with_reducible assumption) | (exact hS) | (exact ⟨hS.1, hS.2.1, (by go_grown)⟩) | (exact ⟨(by first | (with_reducible assumption) | (exact World.ownsRow.alloc (by with_reducible assumption) _) | ((refine own_below (by with_reducible assumption) ?_); go_grown)), (by first | (with_reducible assumption) | (exact World.ownsRow.alloc (by with_reducible assumption) _) | ((refine own_below (by with_reducible assumption) ?_); go_grown)), (by go_grown)⟩)) hb
      (try clear hS)
      have hS := hT
      clear hT
      have hB := hS.2.2
      have hzw : w.heap.size ≤ w33.heap.size := hB.size
      clear hb
      have hB := hS.2.2
      clear hS
      go_wp2_with fail
      refine (drawSend_c A n c _ (hide (h1.out.below (by go_grown))) HN.out).mono ?_
      rintro e w34 ⟨l6, A6, c6, a6, A7, c7, u, v, rfl, ho6, ho7, hl66, ha67, hp66, ⟨hu0, hu1⟩, ⟨hv0, hv1⟩, hb⟩
      obtain ⟨b6, ho6, hbk6⟩ := own_based ho6 (m := w33.heap.size) (by first | omega | (simp; done) | (simp; omega))
      obtain ⟨b7, ho7, hbk7⟩ := own_based ho7 (m := w33.heap.size) (by first | omega | (simp; done) | (simp; omega))
      have hT : w34.ownsRow (b6) 32 2 (.slice A6 l6.length c6) (l6.length) (flat l6) ∧ w34.ownsRow (b7) 3 1 (.slice A7 a6.length c7) (a6.length) (ints a6) ∧ Below w.heap.size w w34 := ⟨ho6, ho7, (fun W h hb => below_via h (hb) : ∀ W : World, (Below w.heap.size w W) → Below W.heap.size W w34 → (Below w.heap.size w w34)) _ (by first | (with_reducible assumption) | go_grown) hb⟩
      (try clear hS)
      have hS := hT
      clear hT
      have hB := hS.2.2
      have hzw : w.heap.size ≤ w34.heap.size := hB.size
      clear hb
      go_wp2_with fail
      obtain ⟨w35, hww35⟩ : ∃ W, W = w34.alloc (.cells #[.int .i64 (u), .int .i64 (v)] 32) := ⟨_, rfl⟩
      have hT : w35.cell? ⟨w34.heap.size, 0, none⟩ = some (.int .i64 (u)) ∧ w35.cell? ⟨w34.heap.size, 1, none⟩ = some (.int .i64 (v)) ∧ w35.ownsRow (b6) 32 2 (.slice A6 l6.length c6) (l6.length) (flat l6) ∧ w35.ownsRow (b7) 3 1 (.slice A7 a6.length c7) (a6.length) (ints a6) ∧ Below w.heap.size w w35 := by
        rw [hww35]
        exact ⟨by simp [go_sem], by simp [go_sem], own_below hS.1 (by go_grown), own_below hS.2.1 (by go_grown), below_via hS.2.2 (by go_grown)⟩
      rw [← hww35]
      clear hS hww35
      have hS := hT
      clear hT
      (try clear hB hzw)
      have hB := hS.2.2.2.2
      have hzw : w.heap.size ≤ w35.heap.size := hB.size
      have hz1 : w34.heap.size < w35.heap.size := World.block_lt_of_cell? w35 _ (hS.1)
      have hvs := sndV_len l6 (u, v) a6
      obtain ⟨K6, HK60⟩ : ∃ q, (sndK l6 (u, v) a6) = q := ⟨_, rfl⟩
      have HK6 := hide HK60
      obtain ⟨s6, hs60⟩ : ∃ q, sndV l6 (u, v) a6 = q := ⟨_, rfl⟩
      have HS6 := hide hs60
      rw [hs60] at hvs
      clear hs60
      have hP := hS
      go_wp2_with fail
      refine (SendTimes_c _ _ _ l6 u v _ _ a6 (hide (own_reads (hS.2.2.1))) (by omega) (hide (own_reads (hS.2.2.2.1))) (by omega) (own_cap (hS.2.2.1))).mono ?_
      rw [HS6.out, HK6.out]
      rintro e w36 ⟨A8, c8, rfl, ho8, hb⟩
      obtain ⟨b8, ho8, hbk8⟩ := own_based ho8 (m := w35.heap.size) (by first | omega | (simp; done) | (simp; omega))
      have ne6_8 := own_ne (hP.2.2.1) ho8 hbk8
      have ne7_8 := own_ne (hP.2.2.2.1) ho8 hbk8
      clear hP
      have hT : w36.ownsRow (b8) 3 1 (.slice A8 s6.length c8) (s6.length) (ints s6) ∧ w36.cell? ⟨w34.heap.size, 0, none⟩ = some (.int .i64 (u)) ∧ w36.cell? ⟨w34.heap.size, 1, none⟩ = some (.int .i64 (v)) ∧ w36.ownsRow (b6) 32 2 (.slice A6 l6.length c6) (l6.length) (flat l6) ∧ w36.ownsRow (b7) 3 1 (.slice A7 a6.length c7) (a6.length) (ints a6) ∧ Below w.heap.size w w36 := ⟨ho8, (fun W h hb => ⟨keep_cell (hb) h.1, keep_cell (hb) h.2.1, own_below h.2.2.1 (hb), own_below h.2.2.2.1 (hb), below_via h.2.2.2.2 (hb)⟩ : ∀ W : World, (W.cell? ⟨w34.heap.size, 0, none⟩ = some (.int .i64 (u)) ∧ W.cell? ⟨w34.heap.size, 1, none⟩ = some (.int .i64 (v)) ∧ W.ownsRow (b6) 32 2 (.slice A6 l6.length c6) (l6.length) (flat l6) ∧ W.ownsRow (b7) 3 1 (.slice A7 a6.length c7) (a6.length) (ints a6) ∧ Below w.heap.size w W) → Below W.heap.size W w36 → (w36.cell? ⟨w34.heap.size, 0, none⟩ = some (.int .i64 (u)) ∧ w36.cell? ⟨w34.heap.size, 1, none⟩ = some (.int .i64 (v)) ∧ w36.ownsRow (b6) 32 2 (.slice A6 l6.length c6) (l6.length) (flat l6) ∧ w36.ownsRow (b7) 3 1 (.slice A7 a6.length c7) (a6.length) (ints a6) ∧ Below w.heap.size w w36)) _ (by first | (with_reducible assumption) | (exact hS) | (exact ⟨hS.1, hS.2.1, hS.2.2.1, hS.2.2.2.1, (by go_grown)⟩) | (exact ⟨(by first | (with_reducible assumption) | (simp [go_sem]; done) | ((simp only [go_sem]); (with_reducible assumption)) | ((refine keep_cell ?_ (by with_reducible assumption)); go_grown; done) | (simp [go_sem, *]; done)), (by first | (with_reducible assumption) | (simp [go_sem]; done) | ((simp only [go_sem]); (with_reducible assumption)) | ((refine keep_cell ?_ (by with_reducible assumption)); go_grown; done) | (simp [go_sem, *]; done)), (by first | (with_reducible assumption) | (exact World.ownsRow.alloc (by with_reducible assumption) _) | ((refine own_below (by with_reducible assumption) ?_); go_grown)), (by first | (with_reducible assumption) | (exact World.ownsRow.alloc (by with_reducible assumption) _) | ((refine own_below (by with_reducible assumption) ?_); go_grown)), (by go_grown)⟩)) hb⟩
      (try clear hS)
      have hS := hT
      clear hT
      have hB := hS.2.2.2.2.2
      have hzw : w.heap.size ≤ w36.heap.size := hB.size
      have hz1 : w34.heap.size < w36.heap.size := World.block_lt_of_cell? w36 _ (hS.2.1)
      clear hb
      have hP := hS
      go_wp2_with fail
      refine (sSendTimes_c _ _ _ l6 u v _ _ a6 (hide (own_reads (hS.2.2.2.1))) (by omega) (hide (own_reads (hS.2.2.2.2.1))) (by omega)).mono ?_
      rw [HS6.out, HK6.out]
      rintro e w37 ⟨A9, c9, rfl, ho9, hb⟩
      obtain ⟨b9, ho9, hbk9⟩ := own_based ho9 (m := w36.heap.size) (by first | omega | (simp; done) | (simp; omega))
      have ne6_9 := own_ne (hP.2.2.2.1) ho9 hbk9
      have ne7_9 := own_ne (hP.2.2.2.2.1) ho9 hbk9
      have ne8_9 := own_ne (hP.1) ho9 hbk9
      clear hP
      have hT : w37.ownsRow (b9) 3 1 (.slice A9 s6.length c9) (s6.length) (ints s6) ∧ w37.ownsRow (b8) 3 1 (.slice A8 s6.length c8) (s6.length) (ints s6) ∧ w37.cell? ⟨w34.heap.size, 0, none⟩ = some (.int .i64 (u)) ∧ w37.cell? ⟨w34.heap.size, 1, none⟩ = some (.int .i64 (v)) ∧ w37.ownsRow (b6) 32 2 (.slice A6 l6.length c6) (l6.length) (flat l6) ∧ w37.ownsRow (b7) 3 1 (.slice A7 a6.length c7) (a6.length) (ints a6) ∧ Below w.heap.size w w37 := ⟨ho9, (fun W h hb => ⟨own_below h.1 (hb), keep_cell (hb) h.2.1, keep_cell (hb) h.2.2.1, own_below h.2.2.2.1 (hb), own_below h.2.2.2.2.1 (hb), below_via h.2.2.2.2.2 (hb)⟩ : ∀ W : World, (W.ownsRow (b8) 3 1 (.slice A8 s6.length c8) (s6.length) (ints s6) ∧ W.cell? ⟨w34.heap.size, 0, none⟩ = some (.int .i64 (u)) ∧ W.cell? ⟨w34.heap.size, 1, none⟩ = some (.int .i64 (v)) ∧ W.ownsRow (b6) 32 2 (.slice A6 l6.length c6) (l6.length) (flat l6) ∧ W.ownsRow (b7) 3 1 (.slice A7 a6.length c7) (a6.length) (ints a6) ∧ Below w.heap.size w W) → Below W.heap.size W w37 → (w37.ownsRow (b8) 3 1 (.slice A8 s6.length c8) (s6.length) (ints s6) ∧ w37.cell? ⟨w34.heap.size, 0, none⟩ = some (.int .i64 (u)) ∧ w37.cell? ⟨w34.heap.size, 1, none⟩ = some (.int .i64 (v)) ∧ w37.ownsRow (b6) 32 2 (.slice A6 l6.length c6) (l6.length) (flat l6) ∧ w37.ownsRow (b7) 3 1 (.slice A7 a6.length c7) (a6.length) (ints a6) ∧ Below w.heap.size w w37)) _ (by first | (with_reducible assumption) | (exact hS) | (exact ⟨hS.1, hS.2.1, hS.2.2.1, hS.2.2.2.1, hS.2.2.2.2.1, (by go_grown)⟩) | (exact ⟨(by first | (with_reducible assumption) | (exact World.ownsRow.alloc (by with_reducible assumption) _) | ((refine own_below (by with_reducible assumption) ?_); go_grown)), (by first | (with_reducible assumption) | (simp [go_sem]; done) | ((simp only [go_sem]); (with_reducible assumption)) | ((refine keep_cell ?_ (by with_reducible assumption)); go_grown; done) | (simp [go_sem, *]; done)), (by first | (with_reducible assumption) | (simp [go_sem]; done) | ((simp only [go_sem]); (with_reducible assumption)) | ((refine keep_cell ?_ (by with_reducible assumption)); go_grown; done) | (simp [go_sem, *]; done)), (by first | (with_reducible assumption) | (exact World.ownsRow.alloc (by with_reducible assumption) _) | ((refine own_below (by with_reducible assumption) ?_); go_grown)), (by first | (with_reducible assumption) | (exact World.ownsRow.alloc (by with_reducible assumption) _) | ((refine own_below (by with_reducible assumption) ?_); go_grown)), (by go_grown)⟩)) hb⟩
      (try clear hS)
      have hS := hT
      clear hT
      have hB := hS.2.2.2.2.2.2
      have hzw : w.heap.size ≤ w37.heap.size := hB.size
      have hz1 : w34.heap.size < w37.heap.size := World.block_lt_of_cell? w37 _ (hS.2.2.1)
      clear hb
      go_wp2_with fail
      refine (vInts_c _ _ _ _ s6 s6 _ (hide (own_reads (hS.2.1))) (hide (own_reads (hS.1))) (by omega) (by omega)).mono ?_
      rw [decide_eq_true (show s6 = s6 from rfl)]
      rintro e w38 ⟨rfl, hb⟩
      have hT : w38.ownsRow (b9) 3 1 (.slice A9 s6.length c9) (s6.length) (ints s6) ∧ w38.ownsRow (b8) 3 1 (.slice A8 s6.length c8) (s6.length) (ints s6) ∧ w38.cell? ⟨w34.heap.size, 0, none⟩ = some (.int .i64 (u)) ∧ w38.cell? ⟨w34.heap.size, 1, none⟩ = some (.int .i64 (v)) ∧ w38.ownsRow (b6) 32 2 (.slice A6 l6.length c6) (l6.length) (flat l6) ∧ w38.ownsRow (b7) 3 1 (.slice A7 a6.length c7) (a6.length) (ints a6) ∧ Below w.heap.size w w38 := (fun W h hb => ⟨own_below h.1 (hb), own_below h.2.1 (hb), keep_cell (hb) h.2.2.1, keep_cell (hb) h.2.2.2.1, own_below h.2.2.2.2.1 (hb), own_below h.2.2.2.2.2.1 (hb), below_via h.2.2.2.2.2.2 (hb)⟩ : ∀ W : World, (W.ownsRow (b9) 3 1 (.slice A9 s6.length c9) (s6.length) (ints s6) ∧ W.ownsRow (b8) 3 1 (.slice A8 s6.length c8) (s6.length) (ints s6) ∧ W.cell? ⟨w34.heap.size, 0, none⟩ = some (.int .i64 (u)) ∧ W.cell? ⟨w34.heap.size, 1, none⟩ = some (.int .i64 (v)) ∧ W.ownsRow (b6) 32 2 (.slice A6 l6.length c6) (l6.length) (flat l6) ∧ W.ownsRow (b7) 3 1 (.slice A7 a6.length c7) (a6.length) (ints a6) ∧ Below w.heap.size w W) → Below W.heap.size W w38 → (w38.ownsRow (b9) 3 1 (.slice A9 s6.length c9) (s6.length) (ints s6) ∧ w38.ownsRow (b8) 3 1 (.slice A8 s6.length c8) (s6.length) (ints s6) ∧ w38.cell? ⟨w34.heap.size, 0, none⟩ = some (.int .i64 (u)) ∧ w38.cell? ⟨w34.heap.size, 1, none⟩ = some (.int .i64 (v)) ∧ w38.ownsRow (b6) 32 2 (.slice A6 l6.length c6) (l6.length) (flat l6) ∧ w38.ownsRow (b7) 3 1 (.slice A7 a6.length c7) (a6.length) (ints a6) ∧ Below w.heap.size w w38)) _ (by first | (with_reducible assumption) | (exact hS) | (exact ⟨hS.1, hS.2.1, hS.2.2.1, hS.2.2.2.1, hS.2.2.2.2.1, hS.2.2.2.2.2.1, (by go_grown)⟩) | (exact ⟨(by first | (with_reducible assumption) | (exact World.ownsRow.alloc (by with_reducible assumption) _) | ((refine own_below (by with_reducible assumption) ?_); go_grown)), (by first | (with_reducible assumption) | (exact World.ownsRow.alloc (by with_reducible assumption) _) | ((refine own_below (by with_reducible assumption) ?_); go_grown)), (by first | (with_reducible assumption) | (simp [go_sem]; done) | ((simp only [go_sem]); (with_reducible assumption)) | ((refine keep_cell ?_ (by with_reducible assumption)); go_grown; done) | (simp [go_sem, *]; done)), (by first | (with_reducible assumption) | (simp [go_sem]; done) | ((simp only [go_sem]); (with_reducible assumption)) | ((refine keep_cell ?_ (by with_reducible assumption)); go_grown; done) | (simp [go_sem, *]; done)), (by first | (with_reducible assumption) | (exact World.ownsRow.alloc (by with_reducible assumption) _) | ((refine own_below (by with_reducible assumption) ?_); go_grown)), (by first | (with_reducible assumption) | (exact World.ownsRow.alloc (by with_reducible assumption) _) | ((refine own_below (by with_reducible assumption) ?_); go_grown)), (by go_grown)⟩)) hb
      (try clear hS)
      have hS := hT
      clear hT
      have hB := hS.2.2.2.2.2.2
      have hzw : w.heap.size ≤ w38.heap.size := hB.size
      have hz1 : w34.heap.size < w38.heap.size := World.block_lt_of_cell? w38 _ (hS.2.2.1)
      clear hb
      go_wp2
      go_returns
      exact ⟨ret_eq (by simp), by go_grown⟩
    obtain ⟨ex_, ey_⟩ := own_pt (hS.2.2.2.2.1) hlt
    have hia : i < a.length := by have := HAL.out; omega
    have hfa : f < a.length := by have := HAL.out; omega
    have HPI := hide (hgd.out i hlt).1
    obtain ⟨D, hD⟩ : ∃ D, dst (px l i, py l i) (x, y) = D := ⟨_, rfl⟩
    have hdb := dst_pt HPI.out HPT.out
    rw [hD] at hdb
    obtain ⟨hd0, hd1⟩ := hdb
    have HS2 := hide (show sdV (px l i) (py l i) x y = D from by unfold sdV; rw [HPI.out, HPT.out]; exact hD)
    have HB2 := hide (show (pt (px l i, py l i) && pt (x, y)) = true from by rw [HPI.out, HPT.out]; rfl)
    have hai := HAa.out i hlt
    rw [hD] at hai
    obtain ⟨m, hm⟩ : ∃ q, nth a f = q := ⟨_, rfl⟩
    have hmm := HFM.out i hlt
    rw [hm, hai] at hmm
    clear hD
    have ca : wr.cell? ⟨ga, i, none⟩ = some (.int .i64 (t + D)) := by rw [World.ownsRow.cellAt (hS.2.1) i (by omega), ints_at a i hia, hai]
    have cf : wr.cell? ⟨ga, f, none⟩ = some (.int .i64 m) := by rw [World.ownsRow.cellAt (hS.2.1) f (by omega), ints_at a f hfa, hm]
    have ce : wr.cell? ⟨gs, i, none⟩ = some (.int .i64 t) := by rw [World.ownsRow.cellAt (hS.1) i (by rw [List.length_replicate]; omega), ints_at _ i (by rw [List.length_replicate]; exact hlt), nth_rep hlt]
    clear hai hm
    have hsd : ∀ W, Calls Try.prog 32 #[.agg #[.int .i64 (px l i), .int .i64 (py l i)], .agg #[.int .i64 x, .int .i64 y]] W (Gives W (.tuple #[.int .i64 D, .bool true])) := fun W => by have h := SiteDist_c (px l i) (py l i) x y W; rw [HS2.out, HB2.out] at h; exact h
    have ewd : IntKind.i64.wrap (t + D) = t + D := IntWalk.i64_in _ (by omega)
    have hcm : decide (t + D < m) = false := decide_eq_false (by omega)
    have hfl2 : (f : Int) < (a.length : Int) := by omega
    have hil2 : (i : Int) < ((List.replicate l.length t).length : Int) := by rw [List.length_replicate]; omega
    have hS4 : wr.cell? ⟨g9, i * 2, none⟩ = some (.int .i64 (px l i)) ∧ wr.cell? ⟨g9, i * 2 + 1, none⟩ = some (.int .i64 (py l i)) ∧ wr.cell? ⟨ga, i, none⟩ = some (.int .i64 (t + D)) ∧ wr.cell? ⟨ga, f, none⟩ = some (.int .i64 (m)) ∧ wr.cell? ⟨gs, i, none⟩ = some (.int .i64 (t)) ∧ wr.ownsRow (bs) 3 1 (.slice (some ⟨gs, 0, none⟩) (List.replicate l.length t).length cs) ((List.replicate l.length t).length) (ints (List.replicate l.length t)) ∧ wr.ownsRow (b2) 3 1 (.slice (some ⟨ga, 0, none⟩) a.length c2) (a.length) (ints a) ∧ wr.cell? ⟨w1.heap.size, 0, none⟩ = some (.int .i64 (x)) ∧ wr.cell? ⟨w1.heap.size, 1, none⟩ = some (.int .i64 (y)) ∧ wr.ownsRow (b1) 32 2 (.slice (some ⟨g9, 0, none⟩) l.length c1) (l.length) (flat l) ∧ Below w.heap.size w wr := ⟨ex_, ey_, ca, cf, ce, hS⟩
    clear hS ex_ ey_ ca cf ce
    have hS := hS4
    clear hS4
    go_wp2
    refine wp_region_det (fun w' => w'.cell? ⟨g9, i * 2, none⟩ = some (.int .i64 (px l i)) ∧ w'.cell? ⟨g9, i * 2 + 1, none⟩ = some (.int .i64 (py l i)) ∧ w'.cell? ⟨ga, i, none⟩ = some (.int .i64 (t + D)) ∧ w'.cell? ⟨ga, f, none⟩ = some (.int .i64 (m)) ∧ w'.cell? ⟨gs, i, none⟩ = some (.int .i64 (t)) ∧ w'.ownsRow (bs) 3 1 (.slice (some ⟨gs, 0, none⟩) (List.replicate l.length t).length cs) ((List.replicate l.length t).length) (ints (List.replicate l.length t)) ∧ w'.ownsRow (b2) 3 1 (.slice (some ⟨ga, 0, none⟩) a.length c2) (a.length) (ints a) ∧ w'.cell? ⟨w1.heap.size, 0, none⟩ = some (.int .i64 (x)) ∧ w'.cell? ⟨w1.heap.size, 1, none⟩ = some (.int .i64 (y)) ∧ w'.ownsRow (b1) 32 2 (.slice (some ⟨g9, 0, none⟩) l.length c1) (l.length) (flat l) ∧ Below w.heap.size w w') (by kernel_rfl) (by kernel_rfl) (by first | (with_reducible assumption) | (exact hS) | (exact ⟨hS.1, hS.2.1, hS.2.2.1, hS.2.2.2.1, hS.2.2.2.2.1, hS.2.2.2.2.2.1, hS.2.2.2.2.2.2.1, hS.2.2.2.2.2.2.2.1, hS.2.2.2.2.2.2.2.2.1, hS.2.2.2.2.2.2.2.2.2.1, (by go_grown)⟩) | (exact ⟨(by first | (with_reducible assumption) | (simp [go_sem]; done) | ((simp only [go_sem]); (with_reducible assumption)) | ((refine keep_cell ?_ (by with_reducible assumption)); go_grown; done) | (simp [go_sem, *]; done)), (by first | (with_reducible assumption) | (simp [go_sem]; done) | ((simp only [go_sem]); (with_reducible assumption)) | ((refine keep_cell ?_ (by with_reducible assumption)); go_grown; done) | (simp [go_sem, *]; done)), (by first | (with_reducible assumption) | (simp [go_sem]; done) | ((simp only [go_sem]); (with_reducible assumption)) | ((refine keep_cell ?_ (by with_reducible assumption)); go_grown; done) | (simp [go_sem, *]; done)), (by first | (with_reducible assumption) | (simp [go_sem]; done) | ((simp only [go_sem]); (with_reducible assumption)) | ((refine keep_cell ?_ (by with_reducible assumption)); go_grown; done) | (simp [go_sem, *]; done)), (by first | (with_reducible assumption) | (simp [go_sem]; done) | ((simp only [go_sem]); (with_reducible assumption)) | ((refine keep_cell ?_ (by with_reducible assumption)); go_grown; done) | (simp [go_sem, *]; done)), (by first | (with_reducible assumption) | (exact World.ownsRow.alloc (by with_reducible assumption) _) | ((refine own_below (by with_reducible assumption) ?_); go_grown)), (by first | (with_reducible assumption) | (exact World.ownsRow.alloc (by with_reducible assumption) _) | ((refine own_below (by with_reducible assumption) ?_); go_grown)), (by first | (with_reducible assumption) | (simp [go_sem]; done) | ((simp only [go_sem]); (with_reducible assumption)) | ((refine keep_cell ?_ (by with_reducible assumption)); go_grown; done) | (simp [go_sem, *]; done)), (by first | (with_reducible assumption) | (simp [go_sem]; done) | ((simp only [go_sem]); (with_reducible assumption)) | ((refine keep_cell ?_ (by with_reducible assumption)); go_grown; done) | (simp [go_sem, *]; done)), (by first | (with_reducible assumption) | (exact World.ownsRow.alloc (by with_reducible assumption) _) | ((refine own_below (by with_reducible assumption) ?_); go_grown)), (by go_grown)⟩)) ?_
    repeat (first
      | ((refine wpDet_skip (by rfl) ?_); simp only [Act.put, List.setIfInBounds_toArray, List.set_cons_zero, List.set_cons_succ])
      | ((refine wpDet_val (v := ?_) (by rfl) (fun w hS => ?_) ?_); rotate_left; (focus ((try dsimp only at hS); go_simp; (try (with_reducible rfl)); done)); simp only [Act.put, List.setIfInBounds_toArray, List.set_cons_zero, List.set_cons_succ])
      | ((refine wpDet_call (v := ?_) (f := ?_) (args := ?_) (by rfl) (fun w => ?_) (fun w hS => ?_) ?_); rotate_left; rotate_left; rotate_left; (focus (go_simp; (constructor <;> (with_reducible rfl)); done)); (focus (first | (go_at_call 32; refine (hsd _).mono ?_; intro e w' h; refine ⟨h.1.trans ?_, ⟨keep_cell (h.2) hS.1, keep_cell (h.2) hS.2.1, keep_cell (h.2) hS.2.2.1, keep_cell (h.2) hS.2.2.2.1, keep_cell (h.2) hS.2.2.2.2.1, own_below hS.2.2.2.2.2.1 (h.2), own_below hS.2.2.2.2.2.2.1 (h.2), keep_cell (h.2) hS.2.2.2.2.2.2.2.1, keep_cell (h.2) hS.2.2.2.2.2.2.2.2.1, own_below hS.2.2.2.2.2.2.2.2.2.1 (h.2), below_via hS.2.2.2.2.2.2.2.2.2.2 (h.2)⟩⟩; with_reducible rfl))); simp only [Act.put, List.setIfInBounds_toArray, List.set_cons_zero, List.set_cons_succ]))
    refine wpDet_nil ?_
    intro wd hS
    have hT : wd.cell? ⟨g9, i * 2, none⟩ = some (.int .i64 (px l i)) ∧ wd.cell? ⟨g9, i * 2 + 1, none⟩ = some (.int .i64 (py l i)) ∧ wd.cell? ⟨ga, i, none⟩ = some (.int .i64 (t + D)) ∧ wd.cell? ⟨ga, f, none⟩ = some (.int .i64 (m)) ∧ wd.cell? ⟨gs, i, none⟩ = some (.int .i64 (t)) ∧ wd.ownsRow (bs) 3 1 (.slice (some ⟨gs, 0, none⟩) (List.replicate l.length t).length cs) ((List.replicate l.length t).length) (ints (List.replicate l.length t)) ∧ wd.ownsRow (b2) 3 1 (.slice (some ⟨ga, 0, none⟩) a.length c2) (a.length) (ints a) ∧ wd.cell? ⟨w1.heap.size, 0, none⟩ = some (.int .i64 (x)) ∧ wd.cell? ⟨w1.heap.size, 1, none⟩ = some (.int .i64 (y)) ∧ wd.ownsRow (b1) 32 2 (.slice (some ⟨g9, 0, none⟩) l.length c1) (l.length) (flat l) ∧ Below w.heap.size w wd := hS
    clear hS
    have hS := hT
    obtain ⟨c0, c1, c2, c3, c4, c5, c6, c7, c8, c9, hB⟩ := hT
    have hzw : w.heap.size ≤ wd.heap.size := hB.size
    have hz1 : g9 < wd.heap.size := World.block_lt_of_cell? wd _ (hS.1)
    have hz2 : ga < wd.heap.size := World.block_lt_of_cell? wd _ (hS.2.2.1)
    have hz3 : gs < wd.heap.size := World.block_lt_of_cell? wd _ (hS.2.2.2.2.1)
    have hz4 : w1.heap.size < wd.heap.size := World.block_lt_of_cell? wd _ (hS.2.2.2.2.2.2.2.1)
    clear c0 c1 c2 c3 c4 c5 c6 c7 c8 c9
    clear hzw
    go_wp2
    refine wp_region_det (fun w' => w'.cell? ⟨g9, i * 2, none⟩ = some (.int .i64 (px l i)) ∧ w'.cell? ⟨g9, i * 2 + 1, none⟩ = some (.int .i64 (py l i)) ∧ w'.cell? ⟨ga, i, none⟩ = some (.int .i64 (t + D)) ∧ w'.cell? ⟨ga, f, none⟩ = some (.int .i64 (m)) ∧ w'.cell? ⟨gs, i, none⟩ = some (.int .i64 (t)) ∧ w'.ownsRow (bs) 3 1 (.slice (some ⟨gs, 0, none⟩) (List.replicate l.length t).length cs) ((List.replicate l.length t).length) (ints (List.replicate l.length t)) ∧ w'.ownsRow (b2) 3 1 (.slice (some ⟨ga, 0, none⟩) a.length c2) (a.length) (ints a) ∧ w'.cell? ⟨w1.heap.size, 0, none⟩ = some (.int .i64 (x)) ∧ w'.cell? ⟨w1.heap.size, 1, none⟩ = some (.int .i64 (y)) ∧ w'.ownsRow (b1) 32 2 (.slice (some ⟨g9, 0, none⟩) l.length c1) (l.length) (flat l) ∧ Below w.heap.size w w') (by kernel_rfl) (by kernel_rfl) (by first | (with_reducible assumption) | (exact hS) | (exact ⟨hS.1, hS.2.1, hS.2.2.1, hS.2.2.2.1, hS.2.2.2.2.1, hS.2.2.2.2.2.1, hS.2.2.2.2.2.2.1, hS.2.2.2.2.2.2.2.1, hS.2.2.2.2.2.2.2.2.1, hS.2.2.2.2.2.2.2.2.2.1, (by go_grown)⟩) | (exact ⟨(by first | (with_reducible assumption) | (simp [go_sem]; done) | ((simp only [go_sem]); (with_reducible assumption)) | ((refine keep_cell ?_ (by with_reducible assumption)); go_grown; done) | (simp [go_sem, *]; done)), (by first | (with_reducible assumption) | (simp [go_sem]; done) | ((simp only [go_sem]); (with_reducible assumption)) | ((refine keep_cell ?_ (by with_reducible assumption)); go_grown; done) | (simp [go_sem, *]; done)), (by first | (with_reducible assumption) | (simp [go_sem]; done) | ((simp only [go_sem]); (with_reducible assumption)) | ((refine keep_cell ?_ (by with_reducible assumption)); go_grown; done) | (simp [go_sem, *]; done)), (by first | (with_reducible assumption) | (simp [go_sem]; done) | ((simp only [go_sem]); (with_reducible assumption)) | ((refine keep_cell ?_ (by with_reducible assumption)); go_grown; done) | (simp [go_sem, *]; done)), (by first | (with_reducible assumption) | (simp [go_sem]; done) | ((simp only [go_sem]); (with_reducible assumption)) | ((refine keep_cell ?_ (by with_reducible assumption)); go_grown; done) | (simp [go_sem, *]; done)), (by first | (with_reducible assumption) | (exact World.ownsRow.alloc (by with_reducible assumption) _) | ((refine own_below (by with_reducible assumption) ?_); go_grown)), (by first | (with_reducible assumption) | (exact World.ownsRow.alloc (by with_reducible assumption) _) | ((refine own_below (by with_reducible assumption) ?_); go_grown)), (by first | (with_reducible assumption) | (simp [go_sem]; done) | ((simp only [go_sem]); (with_reducible assumption)) | ((refine keep_cell ?_ (by with_reducible assumption)); go_grown; done) | (simp [go_sem, *]; done)), (by first | (with_reducible assumption) | (simp [go_sem]; done) | ((simp only [go_sem]); (with_reducible assumption)) | ((refine keep_cell ?_ (by with_reducible assumption)); go_grown; done) | (simp [go_sem, *]; done)), (by first | (with_reducible assumption) | (exact World.ownsRow.alloc (by with_reducible assumption) _) | ((refine own_below (by with_reducible assumption) ?_); go_grown)), (by go_grown)⟩)) ?_
    repeat (first
      | ((refine wpDet_skip (by rfl) ?_); simp only [Act.put, List.setIfInBounds_toArray, List.set_cons_zero, List.set_cons_succ])
      | ((refine wpDet_val (v := ?_) (by rfl) (fun w hS => ?_) ?_); rotate_left; (focus ((try dsimp only at hS); go_simp; (try (with_reducible rfl)); done)); simp only [Act.put, List.setIfInBounds_toArray, List.set_cons_zero, List.set_cons_succ]))
    refine wpDet_nil ?_
    intro we hS
    have hT : we.cell? ⟨g9, i * 2, none⟩ = some (.int .i64 (px l i)) ∧ we.cell? ⟨g9, i * 2 + 1, none⟩ = some (.int .i64 (py l i)) ∧ we.cell? ⟨ga, i, none⟩ = some (.int .i64 (t + D)) ∧ we.cell? ⟨ga, f, none⟩ = some (.int .i64 (m)) ∧ we.cell? ⟨gs, i, none⟩ = some (.int .i64 (t)) ∧ we.ownsRow (bs) 3 1 (.slice (some ⟨gs, 0, none⟩) (List.replicate l.length t).length cs) ((List.replicate l.length t).length) (ints (List.replicate l.length t)) ∧ we.ownsRow (b2) 3 1 (.slice (some ⟨ga, 0, none⟩) a.length c2) (a.length) (ints a) ∧ we.cell? ⟨w1.heap.size, 0, none⟩ = some (.int .i64 (x)) ∧ we.cell? ⟨w1.heap.size, 1, none⟩ = some (.int .i64 (y)) ∧ we.ownsRow (b1) 32 2 (.slice (some ⟨g9, 0, none⟩) l.length c1) (l.length) (flat l) ∧ Below w.heap.size w we := hS
    clear hS
    have hS := hT
    obtain ⟨c0, c1, c2, c3, c4, c5, c6, c7, c8, c9, hB⟩ := hT
    have hzw : w.heap.size ≤ we.heap.size := hB.size
    have hz1 : g9 < we.heap.size := World.block_lt_of_cell? we _ (hS.1)
    have hz2 : ga < we.heap.size := World.block_lt_of_cell? we _ (hS.2.2.1)
    have hz3 : gs < we.heap.size := World.block_lt_of_cell? we _ (hS.2.2.2.2.1)
    have hz4 : w1.heap.size < we.heap.size := World.block_lt_of_cell? we _ (hS.2.2.2.2.2.2.2.1)
    go_wp2
    go_roundw
    case rel => exact ⟨i + 1, by omega, by go_num, hS.2.2.2.2.2⟩
    case measure => simp [intOf]; omega
end Go.Proofs.Ytnocgcfepkdjeaa
