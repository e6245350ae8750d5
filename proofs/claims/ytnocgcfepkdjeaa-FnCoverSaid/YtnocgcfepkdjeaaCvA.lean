/- Law: covers. -/
import Derived.Test.YtnocgcfepkdjeaaDrA
import Derived.Test.YtnocgcfepkdjeaaLwA
import Derived.Test.YtnocgcfepkdjeaaCovMath
import Derived.Test.YtnocgcfepkdjeaaSiI
import Derived.Test.YtnocgcfepkdjeaaSiQ
import Derived.Test.YtnocgcfepkdjeaaSiR
namespace Go.Proofs.Ytnocgcfepkdjeaa
open Go.RowKit

set_option maxRecDepth 100000 in
set_option maxHeartbeats 4000000 in
theorem fnCover (A : Option Addr) (n c : Nat) (w : World) (h1 : Hid (CodeOk w A n))  : Calls Try.prog 7 #[.slice A n c] w (Gives w (.bool true)) := by
  rcases kb : bigB n with _ | _
  rotate_left
  · have HKB := hide kb
    clear kb
    go_enter Try.func7, Try.ntmps7
    go_wp2_with (first | (go_at_call 27; refine (vBig_c _ _ _ _).mono ?_; rintro e w1 ⟨rfl, rfl⟩; rw [HKB.out]))
    go_returns
    exact ⟨ret_eq rfl, by go_grown⟩
  have HKB := hide kb
  have HN := hide (bigB_no kb)
  clear kb
  go_enter Try.func7, Try.ntmps7
  go_wp2_with fail
  refine (vBig_c _ _ _ _).mono ?_
  rintro e wz ⟨rfl, rfl⟩
  rw [HKB.out]
  go_wp2_with fail
  refine (drawCover_c A n c _ (hide (h1.out.below (by go_grown))) HN.out).mono ?_
  rintro e w1 ⟨l, A1, c1, x, y, t, rfl, ho1, hl6, hp6, ⟨⟨hx0, hx1⟩, ⟨hy0, hy1⟩, ht0, ht1⟩, hb⟩
  obtain ⟨b1, ho1, hbk1⟩ := own_based ho1 (m := w.heap.size) (by first | omega | (simp; done) | (simp; omega))
  have hT : w1.ownsRow (b1) 32 2 (.slice A1 l.length c1) (l.length) (flat l) ∧ Below w.heap.size w w1 := ⟨ho1, (fun W h hb => below_via h (hb) : ∀ W : World, (Below w.heap.size w W) → Below W.heap.size W w1 → (Below w.heap.size w w1)) _ (by first | (with_reducible assumption) | go_grown) hb⟩
  (try clear hS)
  have hS := hT
  clear hT
  have hB := hS.2
  have hzw : w.heap.size ≤ w1.heap.size := hB.size
  clear hb
  go_wp2_with fail
  obtain ⟨w2, hww2⟩ : ∃ W, W = w1.alloc (.cells #[.int .i64 (x), .int .i64 (y)] 32) := ⟨_, rfl⟩
  have hT : w2.cell? ⟨w1.heap.size, 0, none⟩ = some (.int .i64 (x)) ∧ w2.cell? ⟨w1.heap.size, 1, none⟩ = some (.int .i64 (y)) ∧ w2.ownsRow (b1) 32 2 (.slice A1 l.length c1) (l.length) (flat l) ∧ Below w.heap.size w w2 := by
    rw [hww2]
    exact ⟨by simp [go_sem], by simp [go_sem], own_below hS.1 (by go_grown), below_via hS.2 (by go_grown)⟩
  rw [← hww2]
  clear hS hww2
  have hS := hT
  clear hT
  (try clear hB hzw)
  have hB := hS.2.2.2
  have hzw : w.heap.size ≤ w2.heap.size := hB.size
  have hz1 : w1.heap.size < w2.heap.size := World.block_lt_of_cell? w2 _ (hS.1)
  have HVL := hide (covV_len l (x, y) t)
  obtain ⟨K, HK0⟩ : ∃ q, (covK l (x, y) t) = q := ⟨_, rfl⟩
  have HK := hide HK0
  have hP := hS
  go_wp2_with fail
  refine (CoverOf_c _ _ _ l x y t (hide (own_reads (hS.2.2.1))) (by omega) (own_cap (hS.2.2.1))).mono ?_
  rw [HK.out]
  rintro e w3 ⟨A2, c2, rfl, ho2, hb⟩
  obtain ⟨b2, ho2, hbk2⟩ := own_based ho2 (m := w2.heap.size) (by first | omega | (simp; done) | (simp; omega))
  have ne1_2 := own_ne (hP.2.2.1) ho2 hbk2
  clear hP
  have hT : w3.ownsRow (b2) 3 1 (.slice A2 (covV l (x, y) t).length c2) ((covV l (x, y) t).length) (ints (covV l (x, y) t)) ∧ w3.cell? ⟨w1.heap.size, 0, none⟩ = some (.int .i64 (x)) ∧ w3.cell? ⟨w1.heap.size, 1, none⟩ = some (.int .i64 (y)) ∧ w3.ownsRow (b1) 32 2 (.slice A1 l.length c1) (l.length) (flat l) ∧ Below w.heap.size w w3 := ⟨ho2, (fun W h hb => ⟨keep_cell (hb) h.1, keep_cell (hb) h.2.1, own_below h.2.2.1 (hb), below_via h.2.2.2 (hb)⟩ : ∀ W : World, (W.cell? ⟨w1.heap.size, 0, none⟩ = some (.int .i64 (x)) ∧ W.cell? ⟨w1.heap.size, 1, none⟩ = some (.int .i64 (y)) ∧ W.ownsRow (b1) 32 2 (.slice A1 l.length c1) (l.length) (flat l) ∧ Below w.heap.size w W) → Below W.heap.size W w3 → (w3.cell? ⟨w1.heap.size, 0, none⟩ = some (.int .i64 (x)) ∧ w3.cell? ⟨w1.heap.size, 1, none⟩ = some (.int .i64 (y)) ∧ w3.ownsRow (b1) 32 2 (.slice A1 l.length c1) (l.length) (flat l) ∧ Below w.heap.size w w3)) _ (by first | (with_reducible assumption) | (exact hS) | (exact ⟨hS.1, hS.2.1, hS.2.2.1, (by go_grown)⟩) | (exact ⟨(by first | (with_reducible assumption) | (simp [go_sem]; done) | ((simp only [go_sem]); (with_reducible assumption)) | ((refine keep_cell ?_ (by with_reducible assumption)); go_grown; done) | (simp [go_sem, *]; done)), (by first | (with_reducible assumption) | (simp [go_sem]; done) | ((simp only [go_sem]); (with_reducible assumption)) | ((refine keep_cell ?_ (by with_reducible assumption)); go_grown; done) | (simp [go_sem, *]; done)), (by first | (with_reducible assumption) | (exact World.ownsRow.alloc (by with_reducible assumption) _) | ((refine own_below (by with_reducible assumption) ?_); go_grown)), (by go_grown)⟩)) hb⟩
  (try clear hS)
  have hS := hT
  clear hT
  have hB := hS.2.2.2.2
  have hzw : w.heap.size ≤ w3.heap.size := hB.size
  have hz1 : w1.heap.size < w3.heap.size := World.block_lt_of_cell? w3 _ (hS.2.1)
  clear hb
  have hP := hS
  go_wp2_with fail
  refine (sCoverOf_c _ _ _ l x y t (hide (own_reads (hS.2.2.2.1))) (by omega)).mono ?_
  rw [HK.out]
  rintro e w4 ⟨A3, c3, rfl, ho3, hb⟩
  obtain ⟨b3, ho3, hbk3⟩ := own_based ho3 (m := w3.heap.size) (by first | omega | (simp; done) | (simp; omega))
  have ne1_3 := own_ne (hP.2.2.2.1) ho3 hbk3
  have ne2_3 := own_ne (hP.1) ho3 hbk3
  clear hP
  have hT : w4.ownsRow (b3) 3 1 (.slice A3 (covV l (x, y) t).length c3) ((covV l (x, y) t).length) (ints (covV l (x, y) t)) ∧ w4.ownsRow (b2) 3 1 (.slice A2 (covV l (x, y) t).length c2) ((covV l (x, y) t).length) (ints (covV l (x, y) t)) ∧ w4.cell? ⟨w1.heap.size, 0, none⟩ = some (.int .i64 (x)) ∧ w4.cell? ⟨w1.heap.size, 1, none⟩ = some (.int .i64 (y)) ∧ w4.ownsRow (b1) 32 2 (.slice A1 l.length c1) (l.length) (flat l) ∧ Below w.heap.size w w4 := ⟨ho3, (fun W h hb => ⟨own_below h.1 (hb), keep_cell (hb) h.2.1, keep_cell (hb) h.2.2.1, own_below h.2.2.2.1 (hb), below_via h.2.2.2.2 (hb)⟩ : ∀ W : World, (W.ownsRow (b2) 3 1 (.slice A2 (covV l (x, y) t).length c2) ((covV l (x, y) t).length) (ints (covV l (x, y) t)) ∧ W.cell? ⟨w1.heap.size, 0, none⟩ = some (.int .i64 (x)) ∧ W.cell? ⟨w1.heap.size, 1, none⟩ = some (.int .i64 (y)) ∧ W.ownsRow (b1) 32 2 (.slice A1 l.length c1) (l.length) (flat l) ∧ Below w.heap.size w W) → Below W.heap.size W w4 → (w4.ownsRow (b2) 3 1 (.slice A2 (covV l (x, y) t).length c2) ((covV l (x, y) t).length) (ints (covV l (x, y) t)) ∧ w4.cell? ⟨w1.heap.size, 0, none⟩ = some (.int .i64 (x)) ∧ w4.cell? ⟨w1.heap.size, 1, none⟩ = some (.int .i64 (y)) ∧ w4.ownsRow (b1) 32 2 (.slice A1 l.length c1) (l.length) (flat l) ∧ Below w.heap.size w w4)) _ (by first | (with_reducible assumption) | (exact hS) | (exact ⟨hS.1, hS.2.1, hS.2.2.1, hS.2.2.2.1, (by go_grown)⟩) | (exact ⟨(by first | (with_reducible assumption) | (exact World.ownsRow.alloc (by with_reducible assumption) _) | ((refine own_below (by with_reducible assumption) ?_); go_grown)), (by first | (with_reducible assumption) | (simp [go_sem]; done) | ((simp only [go_sem]); (with_reducible assumption)) | ((refine keep_cell ?_ (by with_reducible assumption)); go_grown; done) | (simp [go_sem, *]; done)), (by first | (with_reducible assumption) | (simp [go_sem]; done) | ((simp only [go_sem]); (with_reducible assumption)) | ((refine keep_cell ?_ (by with_reducible assumption)); go_grown; done) | (simp [go_sem, *]; done)), (by first | (with_reducible assumption) | (exact World.ownsRow.alloc (by with_reducible assumption) _) | ((refine own_below (by with_reducible assumption) ?_); go_grown)), (by go_grown)⟩)) hb⟩
  (try clear hS)
  have hS := hT
  clear hT
  have hB := hS.2.2.2.2.2
  have hzw : w.heap.size ≤ w4.heap.size := hB.size
  have hz1 : w1.heap.size < w4.heap.size := World.block_lt_of_cell? w4 _ (hS.2.2.1)
  clear hb
  have hvl := HVL.out
  go_wp2_with fail
  refine (vInts_c _ _ _ _ (covV l (x, y) t) (covV l (x, y) t) _ (hide (own_reads (hS.2.1))) (hide (own_reads (hS.1))) (by omega) (by omega)).mono ?_
  rw [decide_eq_true (show covV l (x, y) t = covV l (x, y) t from rfl)]
  rintro e w5 ⟨rfl, hb⟩
  have hT : w5.ownsRow (b3) 3 1 (.slice A3 (covV l (x, y) t).length c3) ((covV l (x, y) t).length) (ints (covV l (x, y) t)) ∧ w5.ownsRow (b2) 3 1 (.slice A2 (covV l (x, y) t).length c2) ((covV l (x, y) t).length) (ints (covV l (x, y) t)) ∧ w5.cell? ⟨w1.heap.size, 0, none⟩ = some (.int .i64 (x)) ∧ w5.cell? ⟨w1.heap.size, 1, none⟩ = some (.int .i64 (y)) ∧ w5.ownsRow (b1) 32 2 (.slice A1 l.length c1) (l.length) (flat l) ∧ Below w.heap.size w w5 := (fun W h hb => ⟨own_below h.1 (hb), own_below h.2.1 (hb), keep_cell (hb) h.2.2.1, keep_cell (hb) h.2.2.2.1, own_below h.2.2.2.2.1 (hb), below_via h.2.2.2.2.2 (hb)⟩ : ∀ W : World, (W.ownsRow (b3) 3 1 (.slice A3 (covV l (x, y) t).length c3) ((covV l (x, y) t).length) (ints (covV l (x, y) t)) ∧ W.ownsRow (b2) 3 1 (.slice A2 (covV l (x, y) t).length c2) ((covV l (x, y) t).length) (ints (covV l (x, y) t)) ∧ W.cell? ⟨w1.heap.size, 0, none⟩ = some (.int .i64 (x)) ∧ W.cell? ⟨w1.heap.size, 1, none⟩ = some (.int .i64 (y)) ∧ W.ownsRow (b1) 32 2 (.slice A1 l.length c1) (l.length) (flat l) ∧ Below w.heap.size w W) → Below W.heap.size W w5 → (w5.ownsRow (b3) 3 1 (.slice A3 (covV l (x, y) t).length c3) ((covV l (x, y) t).length) (ints (covV l (x, y) t)) ∧ w5.ownsRow (b2) 3 1 (.slice A2 (covV l (x, y) t).length c2) ((covV l (x, y) t).length) (ints (covV l (x, y) t)) ∧ w5.cell? ⟨w1.heap.size, 0, none⟩ = some (.int .i64 (x)) ∧ w5.cell? ⟨w1.heap.size, 1, none⟩ = some (.int .i64 (y)) ∧ w5.ownsRow (b1) 32 2 (.slice A1 l.length c1) (l.length) (flat l) ∧ Below w.heap.size w w5)) _ (by first | (with_reducible assumption) | (exact hS) | (exact ⟨hS.1, hS.2.1, hS.2.2.1, hS.2.2.2.1, hS.2.2.2.2.1, (by go_grown)⟩) | (exact ⟨(by first | (with_reducible assumption) | (exact World.ownsRow.alloc (by with_reducible assumption) _) | ((refine own_below (by with_reducible assumption) ?_); go_grown)), (by first | (with_reducible assumption) | (exact World.ownsRow.alloc (by with_reducible assumption) _) | ((refine own_below (by with_reducible assumption) ?_); go_grown)), (by first | (with_reducible assumption) | (simp [go_sem]; done) | ((simp only [go_sem]); (with_reducible assumption)) | ((refine keep_cell ?_ (by with_reducible assumption)); go_grown; done) | (simp [go_sem, *]; done)), (by first | (with_reducible assumption) | (simp [go_sem]; done) | ((simp only [go_sem]); (with_reducible assumption)) | ((refine keep_cell ?_ (by with_reducible assumption)); go_grown; done) | (simp [go_sem, *]; done)), (by first | (with_reducible assumption) | (exact World.ownsRow.alloc (by with_reducible assumption) _) | ((refine own_below (by with_reducible assumption) ?_); go_grown)), (by go_grown)⟩)) hb
  (try clear hS)
  have hS := hT
  clear hT
  have hB := hS.2.2.2.2.2
  have hzw : w.heap.size ≤ w5.heap.size := hB.size
  have hz1 : w1.heap.size < w5.heap.size := World.block_lt_of_cell? w5 _ (hS.2.2.1)
  clear hb
  cases K
  · have hB := hS.2.2.2.2.2
    go_wp2
    go_loopw [10] (fun iv wr => iv = .int .i64 0 ∧ Below w.heap.size w wr) (fun _ _ => 0)
    case atStart => exact ⟨rfl, by go_grown⟩
    case round =>
      obtain ⟨rfl, hB⟩ := hrel
      by_cases hz : 0 < l.length
      · have hzi : (0 : Int) < (l.length : Int) := by omega
        go_wp2_with fail
        refine (drawCovered_c A n c _ (hide (h1.out.below (by go_grown))) HN.out).mono ?_
        rintro e w21 ⟨l4, A4, c4, u, v, rfl, ho4, hl46, hp46, ⟨⟨hu0, hu1⟩, hv0, hv1⟩, hb⟩
        obtain ⟨b4, ho4, hbk4⟩ := own_based ho4 (m := wr.heap.size) (by first | omega | (simp; done) | (simp; omega))
        have hT : w21.ownsRow (b4) 32 2 (.slice A4 l4.length c4) (l4.length) (flat l4) ∧ Below w.heap.size w w21 := ⟨ho4, (fun W h hb => below_via h (hb) : ∀ W : World, (Below w.heap.size w W) → Below W.heap.size W w21 → (Below w.heap.size w w21)) _ (by first | (with_reducible assumption) | go_grown) hb⟩
        (try clear hS)
        have hS := hT
        clear hT
        have hB := hS.2
        have hzw : w.heap.size ≤ w21.heap.size := hB.size
        clear hb
        obtain ⟨K4, HK40⟩ : ∃ q, (cpK l4 u v) = q := ⟨_, rfl⟩
        have HK4 := hide HK40
        obtain ⟨V4, HV40⟩ : ∃ q, (cpV l4 u v) = q := ⟨_, rfl⟩
        have HV4 := hide HV40
        go_wp2_with fail
        refine (Covered_c _ _ l4 u v _ (hide (own_reads (hS.1))) (by omega) (own_cap (hS.1))).mono ?_
        rw [HK4.out, HV4.out]
        rintro e w22 ⟨rfl, hb⟩
        have hT : w22.ownsRow (b4) 32 2 (.slice A4 l4.length c4) (l4.length) (flat l4) ∧ Below w.heap.size w w22 := (fun W h hb => ⟨own_below h.1 (hb), below_via h.2 (hb)⟩ : ∀ W : World, (W.ownsRow (b4) 32 2 (.slice A4 l4.length c4) (l4.length) (flat l4) ∧ Below w.heap.size w W) → Below W.heap.size W w22 → (w22.ownsRow (b4) 32 2 (.slice A4 l4.length c4) (l4.length) (flat l4) ∧ Below w.heap.size w w22)) _ (by first | (with_reducible assumption) | (exact hS) | (exact ⟨hS.1, (by go_grown)⟩) | (exact ⟨(by first | (with_reducible assumption) | (exact World.ownsRow.alloc (by with_reducible assumption) _) | ((refine own_below (by with_reducible assumption) ?_); go_grown)), (by go_grown)⟩)) hb
        (try clear hS)
        have hS := hT
        clear hT
        have hB := hS.2
        have hzw : w.heap.size ≤ w22.heap.size := hB.size
        clear hb
        go_wp2_with fail
        refine (sCovered_c _ _ l4 u v _ (hide (own_reads (hS.1))) (by omega)).mono ?_
        rw [HK4.out, HV4.out]
        rintro e w23 ⟨rfl, hb⟩
        have hT : w23.ownsRow (b4) 32 2 (.slice A4 l4.length c4) (l4.length) (flat l4) ∧ Below w.heap.size w w23 := (fun W h hb => ⟨own_below h.1 (hb), below_via h.2 (hb)⟩ : ∀ W : World, (W.ownsRow (b4) 32 2 (.slice A4 l4.length c4) (l4.length) (flat l4) ∧ Below w.heap.size w W) → Below W.heap.size W w23 → (w23.ownsRow (b4) 32 2 (.slice A4 l4.length c4) (l4.length) (flat l4) ∧ Below w.heap.size w w23)) _ (by first | (with_reducible assumption) | (exact hS) | (exact ⟨hS.1, (by go_grown)⟩) | (exact ⟨(by first | (with_reducible assumption) | (exact World.ownsRow.alloc (by with_reducible assumption) _) | ((refine own_below (by with_reducible assumption) ?_); go_grown)), (by go_grown)⟩)) hb
        (try clear hS)
        have hS := hT
        clear hT
        have hB := hS.2
        have hzw : w.heap.size ≤ w23.heap.size := hB.size
        clear hb
        have HD4 := hide (drpV_len l4 0)
        have hd4 := HD4.out
        obtain ⟨K5, HK50⟩ : ∃ q, (drpK l4 0) = q := ⟨_, rfl⟩
        have HK5 := hide HK50
        have hP := hS
        go_wp2_with fail
        refine (Drop_c _ _ l4 0 _ (hide (own_reads (hS.1))) (by omega) (own_cap (hS.1))).mono ?_
        rw [HK5.out]
        rintro e w24 ⟨A5, c5, rfl, ho5, hb⟩
        obtain ⟨b5, ho5, hbk5⟩ := own_based ho5 (m := w23.heap.size) (by first | omega | (simp; done) | (simp; omega))
        have ne4_5 := own_ne (hP.1) ho5 hbk5
        clear hP
        have hT : w24.ownsRow (b5) 32 2 (.slice A5 (drpV l4 0).length c5) ((drpV l4 0).length) (flat (drpV l4 0)) ∧ w24.ownsRow (b4) 32 2 (.slice A4 l4.length c4) (l4.length) (flat l4) ∧ Below w.heap.size w w24 := ⟨ho5, (fun W h hb => ⟨own_below h.1 (hb), below_via h.2 (hb)⟩ : ∀ W : World, (W.ownsRow (b4) 32 2 (.slice A4 l4.length c4) (l4.length) (flat l4) ∧ Below w.heap.size w W) → Below W.heap.size W w24 → (w24.ownsRow (b4) 32 2 (.slice A4 l4.length c4) (l4.length) (flat l4) ∧ Below w.heap.size w w24)) _ (by first | (with_reducible assumption) | (exact hS) | (exact ⟨hS.1, (by go_grown)⟩) | (exact ⟨(by first | (with_reducible assumption) | (exact World.ownsRow.alloc (by with_reducible assumption) _) | ((refine own_below (by with_reducible assumption) ?_); go_grown)), (by go_grown)⟩)) hb⟩
        (try clear hS)
        have hS := hT
        clear hT
        have hB := hS.2.2
        have hzw : w.heap.size ≤ w24.heap.size := hB.size
        clear hb
        have hB := hS.2.2
        cases K4
        · (try clear hS)
          go_wp2_with fail
          refine (drawDrop_c A n c _ (hide (h1.out.below (by go_grown))) HN.out).mono ?_
          rintro e w25 ⟨l6, A6, c6, i6, rfl, ho6, hl66, hp66, ⟨hi0, hi1⟩, hb⟩
          obtain ⟨b6, ho6, hbk6⟩ := own_based ho6 (m := w24.heap.size) (by first | omega | (simp; done) | (simp; omega))
          have hT : w25.ownsRow (b6) 32 2 (.slice A6 l6.length c6) (l6.length) (flat l6) ∧ Below w.heap.size w w25 := ⟨ho6, (fun W h hb => below_via h (hb) : ∀ W : World, (Below w.heap.size w W) → Below W.heap.size W w25 → (Below w.heap.size w w25)) _ (by first | (with_reducible assumption) | go_grown) hb⟩
          (try clear hS)
          have hS := hT
          clear hT
          have hB := hS.2
          have hzw : w.heap.size ≤ w25.heap.size := hB.size
          clear hb
          have HD6 := hide (drpV_len l6 i6)
          have hd6 := HD6.out
          obtain ⟨K6, HK60⟩ : ∃ q, (drpK l6 i6) = q := ⟨_, rfl⟩
          have HK6 := hide HK60
          have hP := hS
          go_wp2_with fail
          refine (Drop_c _ _ l6 i6 _ (hide (own_reads (hS.1))) (by omega) (own_cap (hS.1))).mono ?_
          rw [HK6.out]
          rintro e w26 ⟨A7, c7, rfl, ho7, hb⟩
          obtain ⟨b7, ho7, hbk7⟩ := own_based ho7 (m := w25.heap.size) (by first | omega | (simp; done) | (simp; omega))
          have ne6_7 := own_ne (hP.1) ho7 hbk7
          clear hP
          have hT : w26.ownsRow (b7) 32 2 (.slice A7 (drpV l6 i6).length c7) ((drpV l6 i6).length) (flat (drpV l6 i6)) ∧ w26.ownsRow (b6) 32 2 (.slice A6 l6.length c6) (l6.length) (flat l6) ∧ Below w.heap.size w w26 := ⟨ho7, (fun W h hb => ⟨own_below h.1 (hb), below_via h.2 (hb)⟩ : ∀ W : World, (W.ownsRow (b6) 32 2 (.slice A6 l6.length c6) (l6.length) (flat l6) ∧ Below w.heap.size w W) → Below W.heap.size W w26 → (w26.ownsRow (b6) 32 2 (.slice A6 l6.length c6) (l6.length) (flat l6) ∧ Below w.heap.size w w26)) _ (by first | (with_reducible assumption) | (exact hS) | (exact ⟨hS.1, (by go_grown)⟩) | (exact ⟨(by first | (with_reducible assumption) | (exact World.ownsRow.alloc (by with_reducible assumption) _) | ((refine own_below (by with_reducible assumption) ?_); go_grown)), (by go_grown)⟩)) hb⟩
          (try clear hS)
          have hS := hT
          clear hT
          have hB := hS.2.2
          have hzw : w.heap.size ≤ w26.heap.size := hB.size
          clear hb
          have hP := hS
          go_wp2_with fail
          refine (sDrop_c _ _ l6 i6 _ (hide (own_reads (hS.2.1))) (by omega) (own_cap (hS.2.1))).mono ?_
          rw [HK6.out]
          rintro e w27 ⟨A8, c8, rfl, ho8, hb⟩
          obtain ⟨b8, ho8, hbk8⟩ := own_based ho8 (m := w26.heap.size) (by first | omega | (simp; done) | (simp; omega))
          have ne6_8 := own_ne (hP.2.1) ho8 hbk8
          have ne7_8 := own_ne (hP.1) ho8 hbk8
          clear hP
          have hT : w27.ownsRow (b8) 32 2 (.slice A8 (drpV l6 i6).length c8) ((drpV l6 i6).length) (flat (drpV l6 i6)) ∧ w27.ownsRow (b7) 32 2 (.slice A7 (drpV l6 i6).length c7) ((drpV l6 i6).length) (flat (drpV l6 i6)) ∧ w27.ownsRow (b6) 32 2 (.slice A6 l6.length c6) (l6.length) (flat l6) ∧ Below w.heap.size w w27 := ⟨ho8, (fun W h hb => ⟨own_below h.1 (hb), own_below h.2.1 (hb), below_via h.2.2 (hb)⟩ : ∀ W : World, (W.ownsRow (b7) 32 2 (.slice A7 (drpV l6 i6).length c7) ((drpV l6 i6).length) (flat (drpV l6 i6)) ∧ W.ownsRow (b6) 32 2 (.slice A6 l6.length c6) (l6.length) (flat l6) ∧ Below w.heap.size w W) → Below W.heap.size W w27 → (w27.ownsRow (b7) 32 2 (.slice A7 (drpV l6 i6).length c7) ((drpV l6 i6).length) (flat (drpV l6 i6)) ∧ w27.ownsRow (b6) 32 2 (.slice A6 l6.length c6) (l6.length) (flat l6) ∧ Below w.heap.size w w27)) _ (by first | (with_reducible assumption) | (exact hS) | (exact ⟨hS.1, hS.2.1, (by go_grown)⟩) | (exact ⟨(by first | (with_reducible assumption) | (exact World.ownsRow.alloc (by with_reducible assumption) _) | ((refine own_below (by with_reducible assumption) ?_); go_grown)), (by first | (with_reducible assumption) | (exact World.ownsRow.alloc (by with_reducible assumption) _) | ((refine own_below (by with_reducible assumption) ?_); go_grown)), (by go_grown)⟩)) hb⟩
          (try clear hS)
          have hS := hT
          clear hT
          have hB := hS.2.2.2
          have hzw : w.heap.size ≤ w27.heap.size := hB.size
          clear hb
          go_wp2_with fail
          refine (vSites_c _ _ _ _ (drpV l6 i6) (drpV l6 i6) _ (hide (own_reads (hS.2.1))) (hide (own_reads (hS.1))) (by omega) (by omega)).mono ?_
          rw [decide_eq_true (show drpV l6 i6 = drpV l6 i6 from rfl)]
          rintro e w28 ⟨rfl, hb⟩
          have hT : w28.ownsRow (b8) 32 2 (.slice A8 (drpV l6 i6).length c8) ((drpV l6 i6).length) (flat (drpV l6 i6)) ∧ w28.ownsRow (b7) 32 2 (.slice A7 (drpV l6 i6).length c7) ((drpV l6 i6).length) (flat (drpV l6 i6)) ∧ w28.ownsRow (b6) 32 2 (.slice A6 l6.length c6) (l6.length) (flat l6) ∧ Below w.heap.size w w28 := (fun W h hb => ⟨own_below h.1 (hb), own_below h.2.1 (hb), own_below h.2.2.1 (hb), below_via h.2.2.2 (hb)⟩ : ∀ W : World, (W.ownsRow (b8) 32 2 (.slice A8 (drpV l6 i6).length c8) ((drpV l6 i6).length) (flat (drpV l6 i6)) ∧ W.ownsRow (b7) 32 2 (.slice A7 (drpV l6 i6).length c7) ((drpV l6 i6).length) (flat (drpV l6 i6)) ∧ W.ownsRow (b6) 32 2 (.slice A6 l6.length c6) (l6.length) (flat l6) ∧ Below w.heap.size w W) → Below W.heap.size W w28 → (w28.ownsRow (b8) 32 2 (.slice A8 (drpV l6 i6).length c8) ((drpV l6 i6).length) (flat (drpV l6 i6)) ∧ w28.ownsRow (b7) 32 2 (.slice A7 (drpV l6 i6).length c7) ((drpV l6 i6).length) (flat (drpV l6 i6)) ∧ w28.ownsRow (b6) 32 2 (.slice A6 l6.length c6) (l6.length) (flat l6) ∧ Below w.heap.size w w28)) _ (by first | (with_reducible assumption) | (exact hS) | (exact ⟨hS.1, hS.2.1, hS.2.2.1, (by go_grown)⟩) | (exact ⟨(by first | (with_reducible assumption) | (exact World.ownsRow.alloc (by with_reducible assumption) _) | ((refine own_below (by with_reducible assumption) ?_); go_grown)), (by first | (with_reducible assumption) | (exact World.ownsRow.alloc (by with_reducible assumption) _) | ((refine own_below (by with_reducible assumption) ?_); go_grown)), (by first | (with_reducible assumption) | (exact World.ownsRow.alloc (by with_reducible assumption) _) | ((refine own_below (by with_reducible assumption) ?_); go_grown)), (by go_grown)⟩)) hb
          (try clear hS)
          have hS := hT
          clear hT
          have hB := hS.2.2.2
          have hzw : w.heap.size ≤ w28.heap.size := hB.size
          clear hb
          go_wp2
          go_returns
          exact ⟨ret_eq (by simp), by go_grown⟩
        cases K5
        · (try clear hS)
          go_wp2_with fail
          refine (drawDrop_c A n c _ (hide (h1.out.below (by go_grown))) HN.out).mono ?_
          rintro e w25 ⟨l6, A6, c6, i6, rfl, ho6, hl66, hp66, ⟨hi0, hi1⟩, hb⟩
          obtain ⟨b6, ho6, hbk6⟩ := own_based ho6 (m := w24.heap.size) (by first | omega | (simp; done) | (simp; omega))
          have hT : w25.ownsRow (b6) 32 2 (.slice A6 l6.length c6) (l6.length) (flat l6) ∧ Below w.heap.size w w25 := ⟨ho6, (fun W h hb => below_via h (hb) : ∀ W : World, (Below w.heap.size w W) → Below W.heap.size W w25 → (Below w.heap.size w w25)) _ (by first | (with_reducible assumption) | go_grown) hb⟩
          (try clear hS)
          have hS := hT
          clear hT
          have hB := hS.2
          have hzw : w.heap.size ≤ w25.heap.size := hB.size
          clear hb
          have HD6 := hide (drpV_len l6 i6)
          have hd6 := HD6.out
          obtain ⟨K6, HK60⟩ : ∃ q, (drpK l6 i6) = q := ⟨_, rfl⟩
          have HK6 := hide HK60
          have hP := hS
          go_wp2_with fail
          refine (Drop_c _ _ l6 i6 _ (hide (own_reads (hS.1))) (by omega) (own_cap (hS.1))).mono ?_
          rw [HK6.out]
          rintro e w26 ⟨A7, c7, rfl, ho7, hb⟩
          obtain ⟨b7, ho7, hbk7⟩ := own_based ho7 (m := w25.heap.size) (by first | omega | (simp; done) | (simp; omega))
          have ne6_7 := own_ne (hP.1) ho7 hbk7
          clear hP
          have hT : w26.ownsRow (b7) 32 2 (.slice A7 (drpV l6 i6).length c7) ((drpV l6 i6).length) (flat (drpV l6 i6)) ∧ w26.ownsRow (b6) 32 2 (.slice A6 l6.length c6) (l6.length) (flat l6) ∧ Below w.heap.size w w26 := ⟨ho7, (fun W h hb => ⟨own_below h.1 (hb), below_via h.2 (hb)⟩ : ∀ W : World, (W.ownsRow (b6) 32 2 (.slice A6 l6.length c6) (l6.length) (flat l6) ∧ Below w.heap.size w W) → Below W.heap.size W w26 → (w26.ownsRow (b6) 32 2 (.slice A6 l6.length c6) (l6.length) (flat l6) ∧ Below w.heap.size w w26)) _ (by first | (with_reducible assumption) | (exact hS) | (exact ⟨hS.1, (by go_grown)⟩) | (exact ⟨(by first | (with_reducible assumption) | (exact World.ownsRow.alloc (by with_reducible assumption) _) | ((refine own_below (by with_reducible assumption) ?_); go_grown)), (by go_grown)⟩)) hb⟩
          (try clear hS)
          have hS := hT
          clear hT
          have hB := hS.2.2
          have hzw : w.heap.size ≤ w26.heap.size := hB.size
          clear hb
          have hP := hS
          go_wp2_with fail
          refine (sDrop_c _ _ l6 i6 _ (hide (own_reads (hS.2.1))) (by omega) (own_cap (hS.2.1))).mono ?_
          rw [HK6.out]
          rintro e w27 ⟨A8, c8, rfl, ho8, hb⟩
          obtain ⟨b8, ho8, hbk8⟩ := own_based ho8 (m := w26.heap.size) (by first | omega | (simp; done) | (simp; omega))
          have ne6_8 := own_ne (hP.2.1) ho8 hbk8
          have ne7_8 := own_ne (hP.1) ho8 hbk8
          clear hP
          have hT : w27.ownsRow (b8) 32 2 (.slice A8 (drpV l6 i6).length c8) ((drpV l6 i6).length) (flat (drpV l6 i6)) ∧ w27.ownsRow (b7) 32 2 (.slice A7 (drpV l6 i6).length c7) ((drpV l6 i6).length) (flat (drpV l6 i6)) ∧ w27.ownsRow (b6) 32 2 (.slice A6 l6.length c6) (l6.length) (flat l6) ∧ Below w.heap.size w w27 := ⟨ho8, (fun W h hb => ⟨own_below h.1 (hb), own_below h.2.1 (hb), below_via h.2.2 (hb)⟩ : ∀ W : World, (W.ownsRow (b7) 32 2 (.slice A7 (drpV l6 i6).length c7) ((drpV l6 i6).length) (flat (drpV l6 i6)) ∧ W.ownsRow (b6) 32 2 (.slice A6 l6.length c6) (l6.length) (flat l6) ∧ Below w.heap.size w W) → Below W.heap.size W w27 → (w27.ownsRow (b7) 32 2 (.slice A7 (drpV l6 i6).length c7) ((drpV l6 i6).length) (flat (drpV l6 i6)) ∧ w27.ownsRow (b6) 32 2 (.slice A6 l6.length c6) (l6.length) (flat l6) ∧ Below w.heap.size w w27)) _ (by first | (with_reducible assumption) | (exact hS) | (exact ⟨hS.1, hS.2.1, (by go_grown)⟩) | (exact ⟨(by first | (with_reducible assumption) | (exact World.ownsRow.alloc (by with_reducible assumption) _) | ((refine own_below (by with_reducible assumption) ?_); go_grown)), (by first | (with_reducible assumption) | (exact World.ownsRow.alloc (by with_reducible assumption) _) | ((refine own_below (by with_reducible assumption) ?_); go_grown)), (by go_grown)⟩)) hb⟩
          (try clear hS)
          have hS := hT
          clear hT
          have hB := hS.2.2.2
          have hzw : w.heap.size ≤ w27.heap.size := hB.size
          clear hb
          go_wp2_with fail
          refine (vSites_c _ _ _ _ (drpV l6 i6) (drpV l6 i6) _ (hide (own_reads (hS.2.1))) (hide (own_reads (hS.1))) (by omega) (by omega)).mono ?_
          rw [decide_eq_true (show drpV l6 i6 = drpV l6 i6 from rfl)]
          rintro e w28 ⟨rfl, hb⟩
          have hT : w28.ownsRow (b8) 32 2 (.slice A8 (drpV l6 i6).length c8) ((drpV l6 i6).length) (flat (drpV l6 i6)) ∧ w28.ownsRow (b7) 32 2 (.slice A7 (drpV l6 i6).length c7) ((drpV l6 i6).length) (flat (drpV l6 i6)) ∧ w28.ownsRow (b6) 32 2 (.slice A6 l6.length c6) (l6.length) (flat l6) ∧ Below w.heap.size w w28 := (fun W h hb => ⟨own_below h.1 (hb), own_below h.2.1 (hb), own_below h.2.2.1 (hb), below_via h.2.2.2 (hb)⟩ : ∀ W : World, (W.ownsRow (b8) 32 2 (.slice A8 (drpV l6 i6).length c8) ((drpV l6 i6).length) (flat (drpV l6 i6)) ∧ W.ownsRow (b7) 32 2 (.slice A7 (drpV l6 i6).length c7) ((drpV l6 i6).length) (flat (drpV l6 i6)) ∧ W.ownsRow (b6) 32 2 (.slice A6 l6.length c6) (l6.length) (flat l6) ∧ Below w.heap.size w W) → Below W.heap.size W w28 → (w28.ownsRow (b8) 32 2 (.slice A8 (drpV l6 i6).length c8) ((drpV l6 i6).length) (flat (drpV l6 i6)) ∧ w28.ownsRow (b7) 32 2 (.slice A7 (drpV l6 i6).length c7) ((drpV l6 i6).length) (flat (drpV l6 i6)) ∧ w28.ownsRow (b6) 32 2 (.slice A6 l6.length c6) (l6.length) (flat l6) ∧ Below w.heap.size w w28)) _ (by first | (with_reducible assumption) | (exact hS) | (exact ⟨hS.1, hS.2.1, hS.2.2.1, (by go_grown)⟩) | (exact ⟨(by first | (with_reducible assumption) | (exact World.ownsRow.alloc (by with_reducible assumption) _) | ((refine own_below (by with_reducible assumption) ?_); go_grown)), (by first | (with_reducible assumption) | (exact World.ownsRow.alloc (by with_reducible assumption) _) | ((refine own_below (by with_reducible assumption) ?_); go_grown)), (by first | (with_reducible assumption) | (exact World.ownsRow.alloc (by with_reducible assumption) _) | ((refine own_below (by with_reducible assumption) ?_); go_grown)), (by go_grown)⟩)) hb
          (try clear hS)
          have hS := hT
          clear hT
          have hB := hS.2.2.2
          have hzw : w.heap.size ≤ w28.heap.size := hB.size
          clear hb
          go_wp2
          go_returns
          exact ⟨ret_eq (by simp), by go_grown⟩
        obtain ⟨e5, e6, e7⟩ := drop_less HK4.out HK5.out
        rw [HV4.out] at e6
        obtain ⟨V5, hV50⟩ : ∃ q, cpV (drpV l4 0) u v = q := ⟨_, rfl⟩
        rw [hV50] at e6
        have HV5 := hide hV50
        have HK7 := hide e5
        clear hV50 e5
        have ewm : IntKind.i64.wrap ((l4.length : Int) - 1) = (l4.length : Int) - 1 := IntWalk.i64_in _ (by omega)
        have hcm : decide (V4 < V5) = false := decide_eq_false (by omega)
        have hlm : ((((drpV l4 0).length : Nat) : Int) != (l4.length : Int) - 1) = false := by simp; omega
        go_wp2_with fail
        refine (Covered_c _ _ (drpV l4 0) u v _ (hide (own_reads (hS.1))) (by omega) (own_cap (hS.1))).mono ?_
        rw [HK7.out, HV5.out]
        rintro e w25 ⟨rfl, hb⟩
        have hT : w25.ownsRow (b5) 32 2 (.slice A5 (drpV l4 0).length c5) ((drpV l4 0).length) (flat (drpV l4 0)) ∧ w25.ownsRow (b4) 32 2 (.slice A4 l4.length c4) (l4.length) (flat l4) ∧ Below w.heap.size w w25 := (fun W h hb => ⟨own_below h.1 (hb), own_below h.2.1 (hb), below_via h.2.2 (hb)⟩ : ∀ W : World, (W.ownsRow (b5) 32 2 (.slice A5 (drpV l4 0).length c5) ((drpV l4 0).length) (flat (drpV l4 0)) ∧ W.ownsRow (b4) 32 2 (.slice A4 l4.length c4) (l4.length) (flat l4) ∧ Below w.heap.size w W) → Below W.heap.size W w25 → (w25.ownsRow (b5) 32 2 (.slice A5 (drpV l4 0).length c5) ((drpV l4 0).length) (flat (drpV l4 0)) ∧ w25.ownsRow (b4) 32 2 (.slice A4 l4.length c4) (l4.length) (flat l4) ∧ Below w.heap.size w w25)) _ (by first | (with_reducible assumption) | (exact hS) | (exact ⟨hS.1, hS.2.1, (by go_grown)⟩) | (exact ⟨(by first | (with_reducible assumption) | (exact World.ownsRow.alloc (by with_reducible assumption) _) | ((refine own_below (by with_reducible assumption) ?_); go_grown)), (by first | (with_reducible assumption) | (exact World.ownsRow.alloc (by with_reducible assumption) _) | ((refine own_below (by with_reducible assumption) ?_); go_grown)), (by go_grown)⟩)) hb
        (try clear hS)
        have hS := hT
        clear hT
        have hB := hS.2.2
        have hzw : w.heap.size ≤ w25.heap.size := hB.size
        clear hb
        (try clear hS)
        go_wp2_with fail
        refine (drawDrop_c A n c _ (hide (h1.out.below (by go_grown))) HN.out).mono ?_
        rintro e w26 ⟨l6, A6, c6, i6, rfl, ho6, hl66, hp66, ⟨hi0, hi1⟩, hb⟩
        obtain ⟨b6, ho6, hbk6⟩ := own_based ho6 (m := w25.heap.size) (by first | omega | (simp; done) | (simp; omega))
        have hT : w26.ownsRow (b6) 32 2 (.slice A6 l6.length c6) (l6.length) (flat l6) ∧ Below w.heap.size w w26 := ⟨ho6, (fun W h hb => below_via h (hb) : ∀ W : World, (Below w.heap.size w W) → Below W.heap.size W w26 → (Below w.heap.size w w26)) _ (by first | (with_reducible assumption) | go_grown) hb⟩
        (try clear hS)
        have hS := hT
        clear hT
        have hB := hS.2
        have hzw : w.heap.size ≤ w26.heap.size := hB.size
        clear hb
        have HD6 := hide (drpV_len l6 i6)
        have hd6 := HD6.out
        obtain ⟨K6, HK60⟩ : ∃ q, (drpK l6 i6) = q := ⟨_, rfl⟩
        have HK6 := hide HK60
        have hP := hS
        go_wp2_with fail
        refine (Drop_c _ _ l6 i6 _ (hide (own_reads (hS.1))) (by omega) (own_cap (hS.1))).mono ?_
        rw [HK6.out]
        rintro e w27 ⟨A7, c7, rfl, ho7, hb⟩
        obtain ⟨b7, ho7, hbk7⟩ := own_based ho7 (m := w26.heap.size) (by first | omega | (simp; done) | (simp; omega))
        have ne6_7 := own_ne (hP.1) ho7 hbk7
        clear hP
        have hT : w27.ownsRow (b7) 32 2 (.slice A7 (drpV l6 i6).length c7) ((drpV l6 i6).length) (flat (drpV l6 i6)) ∧ w27.ownsRow (b6) 32 2 (.slice A6 l6.length c6) (l6.length) (flat l6) ∧ Below w.heap.size w w27 := ⟨ho7, (fun W h hb => ⟨own_below h.1 (hb), below_via h.2 (hb)⟩ : ∀ W : World, (W.ownsRow (b6) 32 2 (.slice A6 l6.length c6) (l6.length) (flat l6) ∧ Below w.heap.size w W) → Below W.heap.size W w27 → (w27.ownsRow (b6) 32 2 (.slice A6 l6.length c6) (l6.length) (flat l6) ∧ Below w.heap.size w w27)) _ (by first | (with_reducible assumption) | (exact hS) | (exact ⟨hS.1, (by go_grown)⟩) | (exact ⟨(by first | (with_reducible assumption) | (exact World.ownsRow.alloc (by with_reducible assumption) _) | ((refine own_below (by with_reducible assumption) ?_); go_grown)), (by go_grown)⟩)) hb⟩
        (try clear hS)
        have hS := hT
        clear hT
        have hB := hS.2.2
        have hzw : w.heap.size ≤ w27.heap.size := hB.size
        clear hb
        have hP := hS
        go_wp2_with fail
        refine (sDrop_c _ _ l6 i6 _ (hide (own_reads (hS.2.1))) (by omega) (own_cap (hS.2.1))).mono ?_
        rw [HK6.out]
        rintro e w28 ⟨A8, c8, rfl, ho8, hb⟩
        obtain ⟨b8, ho8, hbk8⟩ := own_based ho8 (m := w27.heap.size) (by first | omega | (simp; done) | (simp; omega))
        have ne6_8 := own_ne (hP.2.1) ho8 hbk8
        have ne7_8 := own_ne (hP.1) ho8 hbk8
        clear hP
        have hT : w28.ownsRow (b8) 32 2 (.slice A8 (drpV l6 i6).length c8) ((drpV l6 i6).length) (flat (drpV l6 i6)) ∧ w28.ownsRow (b7) 32 2 (.slice A7 (drpV l6 i6).length c7) ((drpV l6 i6).length) (flat (drpV l6 i6)) ∧ w28.ownsRow (b6) 32 2 (.slice A6 l6.length c6) (l6.length) (flat l6) ∧ Below w.heap.size w w28 := ⟨ho8, (fun W h hb => ⟨own_below h.1 (hb), own_below h.2.1 (hb), below_via h.2.2 (hb)⟩ : ∀ W : World, (W.ownsRow (b7) 32 2 (.slice A7 (drpV l6 i6).length c7) ((drpV l6 i6).length) (flat (drpV l6 i6)) ∧ W.ownsRow (b6) 32 2 (.slice A6 l6.length c6) (l6.length) (flat l6) ∧ Below w.heap.size w W) → Below W.heap.size W w28 → (w28.ownsRow (b7) 32 2 (.slice A7 (drpV l6 i6).length c7) ((drpV l6 i6).length) (flat (drpV l6 i6)) ∧ w28.ownsRow (b6) 32 2 (.slice A6 l6.length c6) (l6.length) (flat l6) ∧ Below w.heap.size w w28)) _ (by first | (with_reducible assumption) | (exact hS) | (exact ⟨hS.1, hS.2.1, (by go_grown)⟩) | (exact ⟨(by first | (with_reducible assumption) | (exact World.ownsRow.alloc (by with_reducible assumption) _) | ((refine own_below (by with_reducible assumption) ?_); go_grown)), (by first | (with_reducible assumption) | (exact World.ownsRow.alloc (by with_reducible assumption) _) | ((refine own_below (by with_reducible assumption) ?_); go_grown)), (by go_grown)⟩)) hb⟩
        (try clear hS)
        have hS := hT
        clear hT
        have hB := hS.2.2.2
        have hzw : w.heap.size ≤ w28.heap.size := hB.size
        clear hb
        go_wp2_with fail
        refine (vSites_c _ _ _ _ (drpV l6 i6) (drpV l6 i6) _ (hide (own_reads (hS.2.1))) (hide (own_reads (hS.1))) (by omega) (by omega)).mono ?_
        rw [decide_eq_true (show drpV l6 i6 = drpV l6 i6 from rfl)]
        rintro e w29 ⟨rfl, hb⟩
        have hT : w29.ownsRow (b8) 32 2 (.slice A8 (drpV l6 i6).length c8) ((drpV l6 i6).length) (flat (drpV l6 i6)) ∧ w29.ownsRow (b7) 32 2 (.slice A7 (drpV l6 i6).length c7) ((drpV l6 i6).length) (flat (drpV l6 i6)) ∧ w29.ownsRow (b6) 32 2 (.slice A6 l6.length c6) (l6.length) (flat l6) ∧ Below w.heap.size w w29 := (fun W h hb => ⟨own_below h.1 (hb), own_below h.2.1 (hb), own_below h.2.2.1 (hb), below_via h.2.2.2 (hb)⟩ : ∀ W : World, (W.ownsRow (b8) 32 2 (.slice A8 (drpV l6 i6).length c8) ((drpV l6 i6).length) (flat (drpV l6 i6)) ∧ W.ownsRow (b7) 32 2 (.slice A7 (drpV l6 i6).length c7) ((drpV l6 i6).length) (flat (drpV l6 i6)) ∧ W.ownsRow (b6) 32 2 (.slice A6 l6.length c6) (l6.length) (flat l6) ∧ Below w.heap.size w W) → Below W.heap.size W w29 → (w29.ownsRow (b8) 32 2 (.slice A8 (drpV l6 i6).length c8) ((drpV l6 i6).length) (flat (drpV l6 i6)) ∧ w29.ownsRow (b7) 32 2 (.slice A7 (drpV l6 i6).length c7) ((drpV l6 i6).length) (flat (drpV l6 i6)) ∧ w29.ownsRow (b6) 32 2 (.slice A6 l6.length c6) (l6.length) (flat l6) ∧ Below w.heap.size w w29)) _ (by first | (with_reducible assumption) | (exact hS) | (exact ⟨hS.1, hS.2.1, hS.2.2.1, (by go_grown)⟩) | (exact ⟨(by first | (with_reducible assumption) | (exact World.ownsRow.alloc (by with_reducible assumption) _) | ((refine own_below (by with_reducible assumption) ?_); go_grown)), (by first | (with_reducible assumption) | (exact World.ownsRow.alloc (by with_reducible assumption) _) | ((refine own_below (by with_reducible assumption) ?_); go_grown)), (by first | (with_reducible assumption) | (exact World.ownsRow.alloc (by with_reducible assumption) _) | ((refine own_below (by with_reducible assumption) ?_); go_grown)), (by go_grown)⟩)) hb
        (try clear hS)
        have hS := hT
        clear hT
        have hB := hS.2.2.2
        have hzw : w.heap.size ≤ w29.heap.size := hB.size
        clear hb
        go_wp2
        go_returns
        exact ⟨ret_eq (by simp), by go_grown⟩
      · obtain rfl : l = [] := List.eq_nil_of_length_eq_zero (by omega)
        go_wp2_with fail
        refine (drawCovered_c A n c _ (hide (h1.out.below (by go_grown))) HN.out).mono ?_
        rintro e w21 ⟨l4, A4, c4, u, v, rfl, ho4, hl46, hp46, ⟨⟨hu0, hu1⟩, hv0, hv1⟩, hb⟩
        obtain ⟨b4, ho4, hbk4⟩ := own_based ho4 (m := wr.heap.size) (by first | omega | (simp; done) | (simp; omega))
        have hT : w21.ownsRow (b4) 32 2 (.slice A4 l4.length c4) (l4.length) (flat l4) ∧ Below w.heap.size w w21 := ⟨ho4, (fun W h hb => below_via h (hb) : ∀ W : World, (Below w.heap.size w W) → Below W.heap.size W w21 → (Below w.heap.size w w21)) _ (by first | (with_reducible assumption) | go_grown) hb⟩
        (try clear hS)
        have hS := hT
        clear hT
        have hB := hS.2
        have hzw : w.heap.size ≤ w21.heap.size := hB.size
        clear hb
        obtain ⟨K4, HK40⟩ : ∃ q, (cpK l4 u v) = q := ⟨_, rfl⟩
        have HK4 := hide HK40
        obtain ⟨V4, HV40⟩ : ∃ q, (cpV l4 u v) = q := ⟨_, rfl⟩
        have HV4 := hide HV40
        go_wp2_with fail
        refine (Covered_c _ _ l4 u v _ (hide (own_reads (hS.1))) (by omega) (own_cap (hS.1))).mono ?_
        rw [HK4.out, HV4.out]
        rintro e w22 ⟨rfl, hb⟩
        have hT : w22.ownsRow (b4) 32 2 (.slice A4 l4.length c4) (l4.length) (flat l4) ∧ Below w.heap.size w w22 := (fun W h hb => ⟨own_below h.1 (hb), below_via h.2 (hb)⟩ : ∀ W : World, (W.ownsRow (b4) 32 2 (.slice A4 l4.length c4) (l4.length) (flat l4) ∧ Below w.heap.size w W) → Below W.heap.size W w22 → (w22.ownsRow (b4) 32 2 (.slice A4 l4.length c4) (l4.length) (flat l4) ∧ Below w.heap.size w w22)) _ (by first | (with_reducible assumption) | (exact hS) | (exact ⟨hS.1, (by go_grown)⟩) | (exact ⟨(by first | (with_reducible assumption) | (exact World.ownsRow.alloc (by with_reducible assumption) _) | ((refine own_below (by with_reducible assumption) ?_); go_grown)), (by go_grown)⟩)) hb
        (try clear hS)
        have hS := hT
        clear hT
        have hB := hS.2
        have hzw : w.heap.size ≤ w22.heap.size := hB.size
        clear hb
        go_wp2_with fail
        refine (sCovered_c _ _ l4 u v _ (hide (own_reads (hS.1))) (by omega)).mono ?_
        rw [HK4.out, HV4.out]
        rintro e w23 ⟨rfl, hb⟩
        have hT : w23.ownsRow (b4) 32 2 (.slice A4 l4.length c4) (l4.length) (flat l4) ∧ Below w.heap.size w w23 := (fun W h hb => ⟨own_below h.1 (hb), below_via h.2 (hb)⟩ : ∀ W : World, (W.ownsRow (b4) 32 2 (.slice A4 l4.length c4) (l4.length) (flat l4) ∧ Below w.heap.size w W) → Below W.heap.size W w23 → (w23.ownsRow (b4) 32 2 (.slice A4 l4.length c4) (l4.length) (flat l4) ∧ Below w.heap.size w w23)) _ (by first | (with_reducible assumption) | (exact hS) | (exact ⟨hS.1, (by go_grown)⟩) | (exact ⟨(by first | (with_reducible assumption) | (exact World.ownsRow.alloc (by with_reducible assumption) _) | ((refine own_below (by with_reducible assumption) ?_); go_grown)), (by go_grown)⟩)) hb
        (try clear hS)
        have hS := hT
        clear hT
        have hB := hS.2
        have hzw : w.heap.size ≤ w23.heap.size := hB.size
        clear hb
        have HD4 := hide (drpV_len l4 0)
        have hd4 := HD4.out
        obtain ⟨K5, HK50⟩ : ∃ q, (drpK l4 0) = q := ⟨_, rfl⟩
        have HK5 := hide HK50
        have hP := hS
        go_wp2_with fail
        refine (Drop_c _ _ l4 0 _ (hide (own_reads (hS.1))) (by omega) (own_cap (hS.1))).mono ?_
        rw [HK5.out]
        rintro e w24 ⟨A5, c5, rfl, ho5, hb⟩
        obtain ⟨b5, ho5, hbk5⟩ := own_based ho5 (m := w23.heap.size) (by first | omega | (simp; done) | (simp; omega))
        have ne4_5 := own_ne (hP.1) ho5 hbk5
        clear hP
        have hT : w24.ownsRow (b5) 32 2 (.slice A5 (drpV l4 0).length c5) ((drpV l4 0).length) (flat (drpV l4 0)) ∧ w24.ownsRow (b4) 32 2 (.slice A4 l4.length c4) (l4.length) (flat l4) ∧ Below w.heap.size w w24 := ⟨ho5, (fun W h hb => ⟨own_below h.1 (hb), below_via h.2 (hb)⟩ : ∀ W : World, (W.ownsRow (b4) 32 2 (.slice A4 l4.length c4) (l4.length) (flat l4) ∧ Below w.heap.size w W) → Below W.heap.size W w24 → (w24.ownsRow (b4) 32 2 (.slice A4 l4.length c4) (l4.length) (flat l4) ∧ Below w.heap.size w w24)) _ (by first | (with_reducible assumption) | (exact hS) | (exact ⟨hS.1, (by go_grown)⟩) | (exact ⟨(by first | (with_reducible assumption) | (exact World.ownsRow.alloc (by with_reducible assumption) _) | ((refine own_below (by with_reducible assumption) ?_); go_grown)), (by go_grown)⟩)) hb⟩
        (try clear hS)
        have hS := hT
        clear hT
        have hB := hS.2.2
        have hzw : w.heap.size ≤ w24.heap.size := hB.size
        clear hb
        have hB := hS.2.2
        cases K4
        · (try clear hS)
          go_wp2_with fail
          refine (drawDrop_c A n c _ (hide (h1.out.below (by go_grown))) HN.out).mono ?_
          rintro e w25 ⟨l6, A6, c6, i6, rfl, ho6, hl66, hp66, ⟨hi0, hi1⟩, hb⟩
          obtain ⟨b6, ho6, hbk6⟩ := own_based ho6 (m := w24.heap.size) (by first | omega | (simp; done) | (simp; omega))
          have hT : w25.ownsRow (b6) 32 2 (.slice A6 l6.length c6) (l6.length) (flat l6) ∧ Below w.heap.size w w25 := ⟨ho6, (fun W h hb => below_via h (hb) : ∀ W : World, (Below w.heap.size w W) → Below W.heap.size W w25 → (Below w.heap.size w w25)) _ (by first | (with_reducible assumption) | go_grown) hb⟩
          (try clear hS)
          have hS := hT
          clear hT
          have hB := hS.2
          have hzw : w.heap.size ≤ w25.heap.size := hB.size
          clear hb
          have HD6 := hide (drpV_len l6 i6)
          have hd6 := HD6.out
          obtain ⟨K6, HK60⟩ : ∃ q, (drpK l6 i6) = q := ⟨_, rfl⟩
          have HK6 := hide HK60
          have hP := hS
          go_wp2_with fail
          refine (Drop_c _ _ l6 i6 _ (hide (own_reads (hS.1))) (by omega) (own_cap (hS.1))).mono ?_
          rw [HK6.out]
          rintro e w26 ⟨A7, c7, rfl, ho7, hb⟩
          obtain ⟨b7, ho7, hbk7⟩ := own_based ho7 (m := w25.heap.size) (by first | omega | (simp; done) | (simp; omega))
          have ne6_7 := own_ne (hP.1) ho7 hbk7
          clear hP
          have hT : w26.ownsRow (b7) 32 2 (.slice A7 (drpV l6 i6).length c7) ((drpV l6 i6).length) (flat (drpV l6 i6)) ∧ w26.ownsRow (b6) 32 2 (.slice A6 l6.length c6) (l6.length) (flat l6) ∧ Below w.heap.size w w26 := ⟨ho7, (fun W h hb => ⟨own_below h.1 (hb), below_via h.2 (hb)⟩ : ∀ W : World, (W.ownsRow (b6) 32 2 (.slice A6 l6.length c6) (l6.length) (flat l6) ∧ Below w.heap.size w W) → Below W.heap.size W w26 → (w26.ownsRow (b6) 32 2 (.slice A6 l6.length c6) (l6.length) (flat l6) ∧ Below w.heap.size w w26)) _ (by first | (with_reducible assumption) | (exact hS) | (exact ⟨hS.1, (by go_grown)⟩) | (exact ⟨(by first | (with_reducible assumption) | (exact World.ownsRow.alloc (by with_reducible assumption) _) | ((refine own_below (by with_reducible assumption) ?_); go_grown)), (by go_grown)⟩)) hb⟩
          (try clear hS)
          have hS := hT
          clear hT
          have hB := hS.2.2
          have hzw : w.heap.size ≤ w26.heap.size := hB.size
          clear hb
          have hP := hS
          go_wp2_with fail
          refine (sDrop_c _ _ l6 i6 _ (hide (own_reads (hS.2.1))) (by omega) (own_cap (hS.2.1))).mono ?_
          rw [HK6.out]
          rintro e w27 ⟨A8, c8, rfl, ho8, hb⟩
          obtain ⟨b8, ho8, hbk8⟩ := own_based ho8 (m := w26.heap.size) (by first | omega | (simp; done) | (simp; omega))
          have ne6_8 := own_ne (hP.2.1) ho8 hbk8
          have ne7_8 := own_ne (hP.1) ho8 hbk8
          clear hP
          have hT : w27.ownsRow (b8) 32 2 (.slice A8 (drpV l6 i6).length c8) ((drpV l6 i6).length) (flat (drpV l6 i6)) ∧ w27.ownsRow (b7) 32 2 (.slice A7 (drpV l6 i6).length c7) ((drpV l6 i6).length) (flat (drpV l6 i6)) ∧ w27.ownsRow (b6) 32 2 (.slice A6 l6.length c6) (l6.length) (flat l6) ∧ Below w.heap.size w w27 := ⟨ho8, (fun W h hb => ⟨own_below h.1 (hb), own_below h.2.1 (hb), below_via h.2.2 (hb)⟩ : ∀ W : World, (W.ownsRow (b7) 32 2 (.slice A7 (drpV l6 i6).length c7) ((drpV l6 i6).length) (flat (drpV l6 i6)) ∧ W.ownsRow (b6) 32 2 (.slice A6 l6.length c6) (l6.length) (flat l6) ∧ Below w.heap.size w W) → Below W.heap.size W w27 → (w27.ownsRow (b7) 32 2 (.slice A7 (drpV l6 i6).length c7) ((drpV l6 i6).length) (flat (drpV l6 i6)) ∧ w27.ownsRow (b6) 32 2 (.slice A6 l6.length c6) (l6.length) (flat l6) ∧ Below w.heap.size w w27)) _ (by first | (with_reducible assumption) | (exact hS) | (exact ⟨hS.1, hS.2.1, (by go_grown)⟩) | (exact ⟨(by first | (with_reducible assumption) | (exact World.ownsRow.alloc (by with_reducible assumption) _) | ((refine own_below (by with_reducible assumption) ?_); go_grown)), (by first | (with_reducible assumption) | (exact World.ownsRow.alloc (by with_reducible assumption) _) | ((refine own_below (by with_reducible assumption) ?_); go_grown)), (by go_grown)⟩)) hb⟩
          (try clear hS)
          have hS := hT
          clear hT
          have hB := hS.2.2.2
          have hzw : w.heap.size ≤ w27.heap.size := hB.size
          clear hb
          go_wp2_with fail
          refine (vSites_c _ _ _ _ (drpV l6 i6) (drpV l6 i6) _ (hide (own_reads (hS.2.1))) (hide (own_reads (hS.1))) (by omega) (by omega)).mono ?_
          rw [decide_eq_true (show drpV l6 i6 = drpV l6 i6 from rfl)]
          rintro e w28 ⟨rfl, hb⟩
          have hT : w28.ownsRow (b8) 32 2 (.slice A8 (drpV l6 i6).length c8) ((drpV l6 i6).length) (flat (drpV l6 i6)) ∧ w28.ownsRow (b7) 32 2 (.slice A7 (drpV l6 i6).length c7) ((drpV l6 i6).length) (flat (drpV l6 i6)) ∧ w28.ownsRow (b6) 32 2 (.slice A6 l6.length c6) (l6.length) (flat l6) ∧ Below w.heap.size w w28 := (fun W h hb => ⟨own_below h.1 (hb), own_below h.2.1 (hb), own_below h.2.2.1 (hb), below_via h.2.2.2 (hb)⟩ : ∀ W : World, (W.ownsRow (b8) 32 2 (.slice A8 (drpV l6 i6).length c8) ((drpV l6 i6).length) (flat (drpV l6 i6)) ∧ W.ownsRow (b7) 32 2 (.slice A7 (drpV l6 i6).length c7) ((drpV l6 i6).length) (flat (drpV l6 i6)) ∧ W.ownsRow (b6) 32 2 (.slice A6 l6.length c6) (l6.length) (flat l6) ∧ Below w.heap.size w W) → Below W.heap.size W w28 → (w28.ownsRow (b8) 32 2 (.slice A8 (drpV l6 i6).length c8) ((drpV l6 i6).length) (flat (drpV l6 i6)) ∧ w28.ownsRow (b7) 32 2 (.slice A7 (drpV l6 i6).length c7) ((drpV l6 i6).length) (flat (drpV l6 i6)) ∧ w28.ownsRow (b6) 32 2 (.slice A6 l6.length c6) (l6.length) (flat l6) ∧ Below w.heap.size w w28)) _ (by first | (with_reducible assumption) | (exact hS) | (exact ⟨hS.1, hS.2.1, hS.2.2.1, (by go_grown)⟩) | (exact ⟨(by first | (with_reducible assumption) | (exact World.ownsRow.alloc (by with_reducible assumption) _) | ((refine own_below (by with_reducible assumption) ?_); go_grown)), (by first | (with_reducible assumption) | (exact World.ownsRow.alloc (by with_reducible assumption) _) | ((refine own_below (by with_reducible assumption) ?_); go_grown)), (by first | (with_reducible assumption) | (exact World.ownsRow.alloc (by with_reducible assumption) _) | ((refine own_below (by with_reducible assumption) ?_); go_grown)), (by go_grown)⟩)) hb
          (try clear hS)
          have hS := hT
          clear hT
          have hB := hS.2.2.2
          have hzw : w.heap.size ≤ w28.heap.size := hB.size
          clear hb
          go_wp2
          go_returns
          exact ⟨ret_eq (by simp), by go_grown⟩
        cases K5
        · (try clear hS)
          go_wp2_with fail
          refine (drawDrop_c A n c _ (hide (h1.out.below (by go_grown))) HN.out).mono ?_
          rintro e w25 ⟨l6, A6, c6, i6, rfl, ho6, hl66, hp66, ⟨hi0, hi1⟩, hb⟩
          obtain ⟨b6, ho6, hbk6⟩ := own_based ho6 (m := w24.heap.size) (by first | omega | (simp; done) | (simp; omega))
          have hT : w25.ownsRow (b6) 32 2 (.slice A6 l6.length c6) (l6.length) (flat l6) ∧ Below w.heap.size w w25 := ⟨ho6, (fun W h hb => below_via h (hb) : ∀ W : World, (Below w.heap.size w W) → Below W.heap.size W w25 → (Below w.heap.size w w25)) _ (by first | (with_reducible assumption) | go_grown) hb⟩
          (try clear hS)
          have hS := hT
          clear hT
          have hB := hS.2
          have hzw : w.heap.size ≤ w25.heap.size := hB.size
          clear hb
          have HD6 := hide (drpV_len l6 i6)
          have hd6 := HD6.out
          obtain ⟨K6, HK60⟩ : ∃ q, (drpK l6 i6) = q := ⟨_, rfl⟩
          have HK6 := hide HK60
          have hP := hS
          go_wp2_with fail
          refine (Drop_c _ _ l6 i6 _ (hide (own_reads (hS.1))) (by omega) (own_cap (hS.1))).mono ?_
          rw [HK6.out]
          rintro e w26 ⟨A7, c7, rfl, ho7, hb⟩
          obtain ⟨b7, ho7, hbk7⟩ := own_based ho7 (m := w25.heap.size) (by first | omega | (simp; done) | (simp; omega))
          have ne6_7 := own_ne (hP.1) ho7 hbk7
          clear hP
          have hT : w26.ownsRow (b7) 32 2 (.slice A7 (drpV l6 i6).length c7) ((drpV l6 i6).length) (flat (drpV l6 i6)) ∧ w26.ownsRow (b6) 32 2 (.slice A6 l6.length c6) (l6.length) (flat l6) ∧ Below w.heap.size w w26 := ⟨ho7, (fun W h hb => ⟨own_below h.1 (hb), below_via h.2 (hb)⟩ : ∀ W : World, (W.ownsRow (b6) 32 2 (.slice A6 l6.length c6) (l6.length) (flat l6) ∧ Below w.heap.size w W) → Below W.heap.size W w26 → (w26.ownsRow (b6) 32 2 (.slice A6 l6.length c6) (l6.length) (flat l6) ∧ Below w.heap.size w w26)) _ (by first | (with_reducible assumption) | (exact hS) | (exact ⟨hS.1, (by go_grown)⟩) | (exact ⟨(by first | (with_reducible assumption) | (exact World.ownsRow.alloc (by with_reducible assumption) _) | ((refine own_below (by with_reducible assumption) ?_); go_grown)), (by go_grown)⟩)) hb⟩
          (try clear hS)
          have hS := hT
          clear hT
          have hB := hS.2.2
          have hzw : w.heap.size ≤ w26.heap.size := hB.size
          clear hb
          have hP := hS
          go_wp2_with fail
          refine (sDrop_c _ _ l6 i6 _ (hide (own_reads (hS.2.1))) (by omega) (own_cap (hS.2.1))).mono ?_
          rw [HK6.out]
          rintro e w27 ⟨A8, c8, rfl, ho8, hb⟩
          obtain ⟨b8, ho8, hbk8⟩ := own_based ho8 (m := w26.heap.size) (by first | omega | (simp; done) | (simp; omega))
          have ne6_8 := own_ne (hP.2.1) ho8 hbk8
          have ne7_8 := own_ne (hP.1) ho8 hbk8
          clear hP
          have hT : w27.ownsRow (b8) 32 2 (.slice A8 (drpV l6 i6).length c8) ((drpV l6 i6).length) (flat (drpV l6 i6)) ∧ w27.ownsRow (b7) 32 2 (.slice A7 (drpV l6 i6).length c7) ((drpV l6 i6).length) (flat (drpV l6 i6)) ∧ w27.ownsRow (b6) 32 2 (.slice A6 l6.length c6) (l6.length) (flat l6) ∧ Below w.heap.size w w27 := ⟨ho8, (fun W h hb => ⟨own_below h.1 (hb), own_below h.2.1 (hb), below_via h.2.2 (hb)⟩ : ∀ W : World, (W.ownsRow (b7) 32 2 (.slice A7 (drpV l6 i6).length c7) ((drpV l6 i6).length) (flat (drpV l6 i6)) ∧ W.ownsRow (b6) 32 2 (.slice A6 l6.length c6) (l6.length) (flat l6) ∧ Below w.heap.size w W) → Below W.heap.size W w27 → (w27.ownsRow (b7) 32 2 (.slice A7 (drpV l6 i6).length c7) ((drpV l6 i6).length) (flat (drpV l6 i6)) ∧ w27.ownsRow (b6) 32 2 (.slice A6 l6.length c6) (l6.length) (flat l6) ∧ Below w.heap.size w w27)) _ (by first | (with_reducible assumption) | (exact hS) | (exact ⟨hS.1, hS.2.1, (by go_grown)⟩) | (exact ⟨(by first | (with_reducible assumption) | (exact World.ownsRow.alloc (by with_reducible assumption) _) | ((refine own_below (by with_reducible assumption) ?_); go_grown)), (by first | (with_reducible assumption) | (exact World.ownsRow.alloc (by with_reducible assumption) _) | ((refine own_below (by with_reducible assumption) ?_); go_grown)), (by go_grown)⟩)) hb⟩
          (try clear hS)
          have hS := hT
          clear hT
          have hB := hS.2.2.2
          have hzw : w.heap.size ≤ w27.heap.size := hB.size
          clear hb
          go_wp2_with fail
          refine (vSites_c _ _ _ _ (drpV l6 i6) (drpV l6 i6) _ (hide (own_reads (hS.2.1))) (hide (own_reads (hS.1))) (by omega) (by omega)).mono ?_
          rw [decide_eq_true (show drpV l6 i6 = drpV l6 i6 from rfl)]
          rintro e w28 ⟨rfl, hb⟩
          have hT : w28.ownsRow (b8) 32 2 (.slice A8 (drpV l6 i6).length c8) ((drpV l6 i6).length) (flat (drpV l6 i6)) ∧ w28.ownsRow (b7) 32 2 (.slice A7 (drpV l6 i6).length c7) ((drpV l6 i6).length) (flat (drpV l6 i6)) ∧ w28.ownsRow (b6) 32 2 (.slice A6 l6.length c6) (l6.length) (flat l6) ∧ Below w.heap.size w w28 := (fun W h hb => ⟨own_below h.1 (hb), own_below h.2.1 (hb), own_below h.2.2.1 (hb), below_via h.2.2.2 (hb)⟩ : ∀ W : World, (W.ownsRow (b8) 32 2 (.slice A8 (drpV l6 i6).length c8) ((drpV l6 i6).length) (flat (drpV l6 i6)) ∧ W.ownsRow (b7) 32 2 (.slice A7 (drpV l6 i6).length c7) ((drpV l6 i6).length) (flat (drpV l6 i6)) ∧ W.ownsRow (b6) 32 2 (.slice A6 l6.length c6) (l6.length) (flat l6) ∧ Below w.heap.size w W) → Below W.heap.size W w28 → (w28.ownsRow (b8) 32 2 (.slice A8 (drpV l6 i6).length c8) ((drpV l6 i6).length) (flat (drpV l6 i6)) ∧ w28.ownsRow (b7) 32 2 (.slice A7 (drpV l6 i6).length c7) ((drpV l6 i6).length) (flat (drpV l6 i6)) ∧ w28.ownsRow (b6) 32 2 (.slice A6 l6.length c6) (l6.length) (flat l6) ∧ Below w.heap.size w w28)) _ (by first | (with_reducible assumption) | (exact hS) | (exact ⟨hS.1, hS.2.1, hS.2.2.1, (by go_grown)⟩) | (exact ⟨(by first | (with_reducible assumption) | (exact World.ownsRow.alloc (by with_reducible assumption) _) | ((refine own_below (by with_reducible assumption) ?_); go_grown)), (by first | (with_reducible assumption) | (exact World.ownsRow.alloc (by with_reducible assumption) _) | ((refine own_below (by with_reducible assumption) ?_); go_grown)), (by first | (with_reducible assumption) | (exact World.ownsRow.alloc (by with_reducible assumption) _) | ((refine own_below (by with_reducible assumption) ?_); go_grown)), (by go_grown)⟩)) hb
          (try clear hS)
          have hS := hT
          clear hT
          have hB := hS.2.2.2
          have hzw : w.heap.size ≤ w28.heap.size := hB.size
          clear hb
          go_wp2
          go_returns
          exact ⟨ret_eq (by simp), by go_grown⟩
        obtain ⟨e5, e6, e7⟩ := drop_less HK4.out HK5.out
        rw [HV4.out] at e6
        obtain ⟨V5, hV50⟩ : ∃ q, cpV (drpV l4 0) u v = q := ⟨_, rfl⟩
        rw [hV50] at e6
        have HV5 := hide hV50
        have HK7 := hide e5
        clear hV50 e5
        have ewm : IntKind.i64.wrap ((l4.length : Int) - 1) = (l4.length : Int) - 1 := IntWalk.i64_in _ (by omega)
        have hcm : decide (V4 < V5) = false := decide_eq_false (by omega)
        have hlm : ((((drpV l4 0).length : Nat) : Int) != (l4.length : Int) - 1) = false := by simp; omega
        go_wp2_with fail
        refine (Covered_c _ _ (drpV l4 0) u v _ (hide (own_reads (hS.1))) (by omega) (own_cap (hS.1))).mono ?_
        rw [HK7.out, HV5.out]
        rintro e w25 ⟨rfl, hb⟩
        have hT : w25.ownsRow (b5) 32 2 (.slice A5 (drpV l4 0).length c5) ((drpV l4 0).length) (flat (drpV l4 0)) ∧ w25.ownsRow (b4) 32 2 (.slice A4 l4.length c4) (l4.length) (flat l4) ∧ Below w.heap.size w w25 := (fun W h hb => ⟨own_below h.1 (hb), own_below h.2.1 (hb), below_via h.2.2 (hb)⟩ : ∀ W : World, (W.ownsRow (b5) 32 2 (.slice A5 (drpV l4 0).length c5) ((drpV l4 0).length) (flat (drpV l4 0)) ∧ W.ownsRow (b4) 32 2 (.slice A4 l4.length c4) (l4.length) (flat l4) ∧ Below w.heap.size w W) → Below W.heap.size W w25 → (w25.ownsRow (b5) 32 2 (.slice A5 (drpV l4 0).length c5) ((drpV l4 0).length) (flat (drpV l4 0)) ∧ w25.ownsRow (b4) 32 2 (.slice A4 l4.length c4) (l4.length) (flat l4) ∧ Below w.heap.size w w25)) _ (by first | (with_reducible assumption) | (exact hS) | (exact ⟨hS.1, hS.2.1, (by go_grown)⟩) | (exact ⟨(by first | (with_reducible assumption) | (exact World.ownsRow.alloc (by with_reducible assumption) _) | ((refine own_below (by with_reducible assumption) ?_); go_grown)), (by first | (with_reducible assumption) | (exact World.ownsRow.alloc (by with_reducible assumption) _) | ((refine own_below (by with_reducible assumption) ?_); go_grown)), (by go_grown)⟩)) hb
        (try clear hS)
        have hS := hT
        clear hT
        have hB := hS.2.2
        have hzw : w.heap.size ≤ w25.heap.size := hB.size
        clear hb
        (try clear hS)
        go_wp2_with fail
        refine (drawDrop_c A n c _ (hide (h1.out.below (by go_grown))) HN.out).mono ?_
        rintro e w26 ⟨l6, A6, c6, i6, rfl, ho6, hl66, hp66, ⟨hi0, hi1⟩, hb⟩
        obtain ⟨b6, ho6, hbk6⟩ := own_based ho6 (m := w25.heap.size) (by first | omega | (simp; done) | (simp; omega))
        have hT : w26.ownsRow (b6) 32 2 (.slice A6 l6.length c6) (l6.length) (flat l6) ∧ Below w.heap.size w w26 := ⟨ho6, (fun W h hb => below_via h (hb) : ∀ W : World, (Below w.heap.size w W) → Below W.heap.size W w26 → (Below w.heap.size w w26)) _ (by first | (with_reducible assumption) | go_grown) hb⟩
        (try clear hS)
        have hS := hT
        clear hT
        have hB := hS.2
        have hzw : w.heap.size ≤ w26.heap.size := hB.size
        clear hb
        have HD6 := hide (drpV_len l6 i6)
        have hd6 := HD6.out
        obtain ⟨K6, HK60⟩ : ∃ q, (drpK l6 i6) = q := ⟨_, rfl⟩
        have HK6 := hide HK60
        have hP := hS
        go_wp2_with fail
        refine (Drop_c _ _ l6 i6 _ (hide (own_reads (hS.1))) (by omega) (own_cap (hS.1))).mono ?_
        rw [HK6.out]
        rintro e w27 ⟨A7, c7, rfl, ho7, hb⟩
        obtain ⟨b7, ho7, hbk7⟩ := own_based ho7 (m := w26.heap.size) (by first | omega | (simp; done) | (simp; omega))
        have ne6_7 := own_ne (hP.1) ho7 hbk7
        clear hP
        have hT : w27.ownsRow (b7) 32 2 (.slice A7 (drpV l6 i6).length c7) ((drpV l6 i6).length) (flat (drpV l6 i6)) ∧ w27.ownsRow (b6) 32 2 (.slice A6 l6.length c6) (l6.length) (flat l6) ∧ Below w.heap.size w w27 := ⟨ho7, (fun W h hb => ⟨own_below h.1 (hb), below_via h.2 (hb)⟩ : ∀ W : World, (W.ownsRow (b6) 32 2 (.slice A6 l6.length c6) (l6.length) (flat l6) ∧ Below w.heap.size w W) → Below W.heap.size W w27 → (w27.ownsRow (b6) 32 2 (.slice A6 l6.length c6) (l6.length) (flat l6) ∧ Below w.heap.size w w27)) _ (by first | (with_reducible assumption) | (exact hS) | (exact ⟨hS.1, (by go_grown)⟩) | (exact ⟨(by first | (with_reducible assumption) | (exact World.ownsRow.alloc (by with_reducible assumption) _) | ((refine own_below (by with_reducible assumption) ?_); go_grown)), (by go_grown)⟩)) hb⟩
        (try clear hS)
        have hS := hT
        clear hT
        have hB := hS.2.2
        have hzw : w.heap.size ≤ w27.heap.size := hB.size
        clear hb
        have hP := hS
        go_wp2_with fail
        refine (sDrop_c _ _ l6 i6 _ (hide (own_reads (hS.2.1))) (by omega) (own_cap (hS.2.1))).mono ?_
        rw [HK6.out]
        rintro e w28 ⟨A8, c8, rfl, ho8, hb⟩
        obtain ⟨b8, ho8, hbk8⟩ := own_based ho8 (m := w27.heap.size) (by first | omega | (simp; done) | (simp; omega))
        have ne6_8 := own_ne (hP.2.1) ho8 hbk8
        have ne7_8 := own_ne (hP.1) ho8 hbk8
        clear hP
        have hT : w28.ownsRow (b8) 32 2 (.slice A8 (drpV l6 i6).length c8) ((drpV l6 i6).length) (flat (drpV l6 i6)) ∧ w28.ownsRow (b7) 32 2 (.slice A7 (drpV l6 i6).length c7) ((drpV l6 i6).length) (flat (drpV l6 i6)) ∧ w28.ownsRow (b6) 32 2 (.slice A6 l6.length c6) (l6.length) (flat l6) ∧ Below w.heap.size w w28 := ⟨ho8, (fun W h hb => ⟨own_below h.1 (hb), own_below h.2.1 (hb), below_via h.2.2 (hb)⟩ : ∀ W : World, (W.ownsRow (b7) 32 2 (.slice A7 (drpV l6 i6).length c7) ((drpV l6 i6).length) (flat (drpV l6 i6)) ∧ W.ownsRow (b6) 32 2 (.slice A6 l6.length c6) (l6.length) (flat l6) ∧ Below w.heap.size w W) → Below W.heap.size W w28 → (w28.ownsRow (b7) 32 2 (.slice A7 (drpV l6 i6).length c7) ((drpV l6 i6).length) (flat (drpV l6 i6)) ∧ w28.ownsRow (b6) 32 2 (.slice A6 l6.length c6) (l6.length) (flat l6) ∧ Below w.heap.size w w28)) _ (by first | (with_reducible assumption) | (exact hS) | (exact ⟨hS.1, hS.2.1, (by go_grown)⟩) | (exact ⟨(by first | (with_reducible assumption) | (exact World.ownsRow.alloc (by with_reducible assumption) _) | ((refine own_below (by with_reducible assumption) ?_); go_grown)), (by first | (with_reducible assumption) | (exact World.ownsRow.alloc (by with_reducible assumption) _) | ((refine own_below (by with_reducible assumption) ?_); go_grown)), (by go_grown)⟩)) hb⟩
        (try clear hS)
        have hS := hT
        clear hT
        have hB := hS.2.2.2
        have hzw : w.heap.size ≤ w28.heap.size := hB.size
        clear hb
        go_wp2_with fail
        refine (vSites_c _ _ _ _ (drpV l6 i6) (drpV l6 i6) _ (hide (own_reads (hS.2.1))) (hide (own_reads (hS.1))) (by omega) (by omega)).mono ?_
        rw [decide_eq_true (show drpV l6 i6 = drpV l6 i6 from rfl)]
        rintro e w29 ⟨rfl, hb⟩
        have hT : w29.ownsRow (b8) 32 2 (.slice A8 (drpV l6 i6).length c8) ((drpV l6 i6).length) (flat (drpV l6 i6)) ∧ w29.ownsRow (b7) 32 2 (.slice A7 (drpV l6 i6).length c7) ((drpV l6 i6).length) (flat (drpV l6 i6)) ∧ w29.ownsRow (b6) 32 2 (.slice A6 l6.length c6) (l6.length) (flat l6) ∧ Below w.heap.size w w29 := (fun W h hb => ⟨own_below h.1 (hb), own_below h.2.1 (hb), own_below h.2.2.1 (hb), below_via h.2.2.2 (hb)⟩ : ∀ W : World, (W.ownsRow (b8) 32 2 (.slice A8 (drpV l6 i6).length c8) ((drpV l6 i6).length) (flat (drpV l6 i6)) ∧ W.ownsRow (b7) 32 2 (.slice A7 (drpV l6 i6).length c7) ((drpV l6 i6).length) (flat (drpV l6 i6)) ∧ W.ownsRow (b6) 32 2 (.slice A6 l6.length c6) (l6.length) (flat l6) ∧ Below w.heap.size w W) → Below W.heap.size W w29 → (w29.ownsRow (b8) 32 2 (.slice A8 (drpV l6 i6).length c8) ((drpV l6 i6).length) (flat (drpV l6 i6)) ∧ w29.ownsRow (b7) 32 2 (.slice A7 (drpV l6 i6).length c7) ((drpV l6 i6).length) (flat (drpV l6 i6)) ∧ w29.ownsRow (b6) 32 2 (.slice A6 l6.length c6) (l6.length) (flat l6) ∧ Below w.heap.size w w29)) _ (by first | (with_reducible assumption) | (exact hS) | (exact ⟨hS.1, hS.2.1, hS.2.2.1, (by go_grown)⟩) | (exact ⟨(by first | (with_reducible assumption) | (exact World.ownsRow.alloc (by with_reducible assumption) _) | ((refine own_below (by with_reducible assumption) ?_); go_grown)), (by first | (with_reducible assumption) | (exact World.ownsRow.alloc (by with_reducible assumption) _) | ((refine own_below (by with_reducible assumption) ?_); go_grown)), (by first | (with_reducible assumption) | (exact World.ownsRow.alloc (by with_reducible assumption) _) | ((refine own_below (by with_reducible assumption) ?_); go_grown)), (by go_grown)⟩)) hb
        (try clear hS)
        have hS := hT
        clear hT
        have hB := hS.2.2.2
        have hzw : w.heap.size ≤ w29.heap.size := hB.size
        clear hb
        go_wp2
        go_returns
        exact ⟨ret_eq (by simp), by go_grown⟩
  obtain ⟨k1, k2, k3⟩ : okS l = true ∧ pt (x, y) = true ∧ wi t 0 60 = true := by have h := HK.out; unfold covK at h; simpa using h
  obtain ⟨n1, n5⟩ := (okS_iff.1 k1).1
  have hgd := hide (okS_iff.1 k1).2
  have HPT := hide k2
  clear k1 k2 k3
  have hS3 : w5.ownsRow (b2) 3 1 (.slice A2 (covV l (x, y) t).length c2) ((covV l (x, y) t).length) (ints (covV l (x, y) t)) ∧ w5.cell? ⟨w1.heap.size, 0, none⟩ = some (.int .i64 (x)) ∧ w5.cell? ⟨w1.heap.size, 1, none⟩ = some (.int .i64 (y)) ∧ w5.ownsRow (b1) 32 2 (.slice A1 l.length c1) (l.length) (flat l) ∧ Below w.heap.size w w5 := ⟨hS.2.1, hS.2.2.1, hS.2.2.2.1, hS.2.2.2.2.1, hB⟩
  clear hS
  have hS := hS3
  clear hS3
  obtain ⟨g9, hA1, hg9, hg99⟩ := own_at (hS.2.2.2.1) (by omega)
  subst hA1
  go_wp2
  go_loopw [10] (fun iv wr => ∃ i : Nat, i ≤ l.length ∧ iv = .int .i64 i ∧ (wr.ownsRow (b2) 3 1 (.slice A2 (covV l (x, y) t).length c2) ((covV l (x, y) t).length) (ints (covV l (x, y) t)) ∧ wr.cell? ⟨w1.heap.size, 0, none⟩ = some (.int .i64 (x)) ∧ wr.cell? ⟨w1.heap.size, 1, none⟩ = some (.int .i64 (y)) ∧ wr.ownsRow (b1) 32 2 (.slice (some ⟨g9, 0, none⟩) l.length c1) (l.length) (flat l) ∧ Below w.heap.size w wr)) (fun iv _ => l.length - (intOf iv).toNat)
  case atStart => exact ⟨0, by omega, rfl, (by first | (with_reducible assumption) | (exact hS) | (exact ⟨hS.1, hS.2.1, hS.2.2.1, hS.2.2.2.1, (by go_grown)⟩) | (exact ⟨(by first | (with_reducible assumption) | (exact World.ownsRow.alloc (by with_reducible assumption) _) | ((refine own_below (by with_reducible assumption) ?_); go_grown)), (by first | (with_reducible assumption) | (simp [go_sem]; done) | ((simp only [go_sem]); (with_reducible assumption)) | ((refine keep_cell ?_ (by with_reducible assumption)); go_grown; done) | (simp [go_sem, *]; done)), (by first | (with_reducible assumption) | (simp [go_sem]; done) | ((simp only [go_sem]); (with_reducible assumption)) | ((refine keep_cell ?_ (by with_reducible assumption)); go_grown; done) | (simp [go_sem, *]; done)), (by first | (with_reducible assumption) | (exact World.ownsRow.alloc (by with_reducible assumption) _) | ((refine own_below (by with_reducible assumption) ?_); go_grown)), (by go_grown)⟩))⟩
  case round =>
    obtain ⟨i, hi, rfl, hS⟩ := hrel
    have hB := hS.2.2.2.2
    have hzw : w.heap.size ≤ wr.heap.size := hB.size
    by_cases hlt : i < l.length
    rotate_left
    · obtain rfl : i = l.length := by omega
      (try clear hS)
      go_wp2_with fail
      refine (drawCovered_c A n c _ (hide (h1.out.below (by go_grown))) HN.out).mono ?_
      rintro e w21 ⟨l4, A4, c4, u, v, rfl, ho4, hl46, hp46, ⟨⟨hu0, hu1⟩, hv0, hv1⟩, hb⟩
      obtain ⟨b4, ho4, hbk4⟩ := own_based ho4 (m := wr.heap.size) (by first | omega | (simp; done) | (simp; omega))
      have hT : w21.ownsRow (b4) 32 2 (.slice A4 l4.length c4) (l4.length) (flat l4) ∧ Below w.heap.size w w21 := ⟨ho4, (fun W h hb => below_via h (hb) : ∀ W : World, (Below w.heap.size w W) → Below W.heap.size W w21 → (Below w.heap.size w w21)) _ (by first | (with_reducible assumption) | go_grown) hb⟩
      (try clear hS)
      have hS := hT
      clear hT
      have hB := hS.2
      have hzw : w.heap.size ≤ w21.heap.size := hB.size
      clear hb
      obtain ⟨K4, HK40⟩ : ∃ q, (cpK l4 u v) = q := ⟨_, rfl⟩
      have HK4 := hide HK40
      obtain ⟨V4, HV40⟩ : ∃ q, (cpV l4 u v) = q := ⟨_, rfl⟩
      have HV4 := hide HV40
      go_wp2_with fail
      refine (Covered_c _ _ l4 u v _ (hide (own_reads (hS.1))) (by omega) (own_cap (hS.1))).mono ?_
      rw [HK4.out, HV4.out]
      rintro e w22 ⟨rfl, hb⟩
      have hT : w22.ownsRow (b4) 32 2 (.slice A4 l4.length c4) (l4.length) (flat l4) ∧ Below w.heap.size w w22 := (fun W h hb => ⟨own_below h.1 (hb), below_via h.2 (hb)⟩ : ∀ W : World, (W.ownsRow (b4) 32 2 (.slice A4 l4.length c4) (l4.length) (flat l4) ∧ Below w.heap.size w W) → Below W.heap.size W w22 → (w22.ownsRow (b4) 32 2 (.slice A4 l4.length c4) (l4.length) (flat l4) ∧ Below w.heap.size w w22)) _ (by first | (with_reducible assumption) | (exact hS) | (exact ⟨hS.1, (by go_grown)⟩) | (exact ⟨(by first | (with_reducible assumption) | (exact World.ownsRow.alloc (by with_reducible assumption) _) | ((refine own_below (by with_reducible assumption) ?_); go_grown)), (by go_grown)⟩)) hb
      (try clear hS)
      have hS := hT
      clear hT
      have hB := hS.2
      have hzw : w.heap.size ≤ w22.heap.size := hB.size
      clear hb
      go_wp2_with fail
      refine (sCovered_c _ _ l4 u v _ (hide (own_reads (hS.1))) (by omega)).mono ?_
      rw [HK4.out, HV4.out]
      rintro e w23 ⟨rfl, hb⟩
      have hT : w23.ownsRow (b4) 32 2 (.slice A4 l4.length c4) (l4.length) (flat l4) ∧ Below w.heap.size w w23 := (fun W h hb => ⟨own_below h.1 (hb), below_via h.2 (hb)⟩ : ∀ W : World, (W.ownsRow (b4) 32 2 (.slice A4 l4.length c4) (l4.length) (flat l4) ∧ Below w.heap.size w W) → Below W.heap.size W w23 → (w23.ownsRow (b4) 32 2 (.slice A4 l4.length c4) (l4.length) (flat l4) ∧ Below w.heap.size w w23)) _ (by first | (with_reducible assumption) | (exact hS) | (exact ⟨hS.1, (by go_grown)⟩) | (exact ⟨(by first | (with_reducible assumption) | (exact World.ownsRow.alloc (by with_reducible assumption) _) | ((refine own_below (by with_reducible assumption) ?_); go_grown)), (by go_grown)⟩)) hb
      (try clear hS)
      have hS := hT
      clear hT
      have hB := hS.2
      have hzw : w.heap.size ≤ w23.heap.size := hB.size
      clear hb
      have HD4 := hide (drpV_len l4 0)
      have hd4 := HD4.out
      obtain ⟨K5, HK50⟩ : ∃ q, (drpK l4 0) = q := ⟨_, rfl⟩
      have HK5 := hide HK50
      have hP := hS
      go_wp2_with fail
      refine (Drop_c _ _ l4 0 _ (hide (own_reads (hS.1))) (by omega) (own_cap (hS.1))).mono ?_
      rw [HK5.out]
      rintro e w24 ⟨A5, c5, rfl, ho5, hb⟩
      obtain ⟨b5, ho5, hbk5⟩ := own_based ho5 (m := w23.heap.size) (by first | omega | (simp; done) | (simp; omega))
      have ne4_5 := own_ne (hP.1) ho5 hbk5
      clear hP
      have hT : w24.ownsRow (b5) 32 2 (.slice A5 (drpV l4 0).length c5) ((drpV l4 0).length) (flat (drpV l4 0)) ∧ w24.ownsRow (b4) 32 2 (.slice A4 l4.length c4) (l4.length) (flat l4) ∧ Below w.heap.size w w24 := ⟨ho5, (fun W h hb => ⟨own_below h.1 (hb), below_via h.2 (hb)⟩ : ∀ W : World, (W.ownsRow (b4) 32 2 (.slice A4 l4.length c4) (l4.length) (flat l4) ∧ Below w.heap.size w W) → Below W.heap.size W w24 → (w24.ownsRow (b4) 32 2 (.slice A4 l4.length c4) (l4.length) (flat l4) ∧ Below w.heap.size w w24)) _ (by first | (with_reducible assumption) | (exact hS) | (exact ⟨hS.1, (by go_grown)⟩) | (exact ⟨(by first | (with_reducible assumption) | (exact World.ownsRow.alloc (by with_reducible assumption) _) | ((refine own_below (by with_reducible assumption) ?_); go_grown)), (by go_grown)⟩)) hb⟩
      (try clear hS)
      have hS := hT
      clear hT
      have hB := hS.2.2
      have hzw : w.heap.size ≤ w24.heap.size := hB.size
      clear hb
      have hB := hS.2.2
      cases K4
      · (try clear hS)
        go_wp2_with fail
        refine (drawDrop_c A n c _ (hide (h1.out.below (by go_grown))) HN.out).mono ?_
        rintro e w25 ⟨l6, A6, c6, i6, rfl, ho6, hl66, hp66, ⟨hi0, hi1⟩, hb⟩
        obtain ⟨b6, ho6, hbk6⟩ := own_based ho6 (m := w24.heap.size) (by first | omega | (simp; done) | (simp; omega))
        have hT : w25.ownsRow (b6) 32 2 (.slice A6 l6.length c6) (l6.length) (flat l6) ∧ Below w.heap.size w w25 := ⟨ho6, (fun W h hb => below_via h (hb) : ∀ W : World, (Below w.heap.size w W) → Below W.heap.size W w25 → (Below w.heap.size w w25)) _ (by first | (with_reducible assumption) | go_grown) hb⟩
        (try clear hS)
        have hS := hT
        clear hT
        have hB := hS.2
        have hzw : w.heap.size ≤ w25.heap.size := hB.size
        clear hb
        have HD6 := hide (drpV_len l6 i6)
        have hd6 := HD6.out
        obtain ⟨K6, HK60⟩ : ∃ q, (drpK l6 i6) = q := ⟨_, rfl⟩
        have HK6 := hide HK60
        have hP := hS
        go_wp2_with fail
        refine (Drop_c _ _ l6 i6 _ (hide (own_reads (hS.1))) (by omega) (own_cap (hS.1))).mono ?_
        rw [HK6.out]
        rintro e w26 ⟨A7, c7, rfl, ho7, hb⟩
        obtain ⟨b7, ho7, hbk7⟩ := own_based ho7 (m := w25.heap.size) (by first | omega | (simp; done) | (simp; omega))
        have ne6_7 := own_ne (hP.1) ho7 hbk7
        clear hP
        have hT : w26.ownsRow (b7) 32 2 (.slice A7 (drpV l6 i6).length c7) ((drpV l6 i6).length) (flat (drpV l6 i6)) ∧ w26.ownsRow (b6) 32 2 (.slice A6 l6.length c6) (l6.length) (flat l6) ∧ Below w.heap.size w w26 := ⟨ho7, (fun W h hb => ⟨own_below h.1 (hb), below_via h.2 (hb)⟩ : ∀ W : World, (W.ownsRow (b6) 32 2 (.slice A6 l6.length c6) (l6.length) (flat l6) ∧ Below w.heap.size w W) → Below W.heap.size W w26 → (w26.ownsRow (b6) 32 2 (.slice A6 l6.length c6) (l6.length) (flat l6) ∧ Below w.heap.size w w26)) _ (by first | (with_reducible assumption) | (exact hS) | (exact ⟨hS.1, (by go_grown)⟩) | (exact ⟨(by first | (with_reducible assumption) | (exact World.ownsRow.alloc (by with_reducible assumption) _) | ((refine own_below (by with_reducible assumption) ?_); go_grown)), (by go_grown)⟩)) hb⟩
        (try clear hS)
        have hS := hT
        clear hT
        have hB := hS.2.2
        have hzw : w.heap.size ≤ w26.heap.size := hB.size
        clear hb
        have hP := hS
        go_wp2_with fail
        refine (sDrop_c _ _ l6 i6 _ (hide (own_reads (hS.2.1))) (by omega) (own_cap (hS.2.1))).mono ?_
        rw [HK6.out]
        rintro e w27 ⟨A8, c8, rfl, ho8, hb⟩
        obtain ⟨b8, ho8, hbk8⟩ := own_based ho8 (m := w26.heap.size) (by first | omega | (simp; done) | (simp; omega))
        have ne6_8 := own_ne (hP.2.1) ho8 hbk8
        have ne7_8 := own_ne (hP.1) ho8 hbk8
        clear hP
        have hT : w27.ownsRow (b8) 32 2 (.slice A8 (drpV l6 i6).length c8) ((drpV l6 i6).length) (flat (drpV l6 i6)) ∧ w27.ownsRow (b7) 32 2 (.slice A7 (drpV l6 i6).length c7) ((drpV l6 i6).length) (flat (drpV l6 i6)) ∧ w27.ownsRow (b6) 32 2 (.slice A6 l6.length c6) (l6.length) (flat l6) ∧ Below w.heap.size w w27 := ⟨ho8, (fun W h hb => ⟨own_below h.1 (hb), own_below h.2.1 (hb), below_via h.2.2 (hb)⟩ : ∀ W : World, (W.ownsRow (b7) 32 2 (.slice A7 (drpV l6 i6).length c7) ((drpV l6 i6).length) (flat (drpV l6 i6)) ∧ W.ownsRow (b6) 32 2 (.slice A6 l6.length c6) (l6.length) (flat l6) ∧ Below w.heap.size w W) → Below W.heap.size W w27 → (w27.ownsRow (b7) 32 2 (.slice A7 (drpV l6 i6).length c7) ((drpV l6 i6).length) (flat (drpV l6 i6)) ∧ w27.ownsRow (b6) 32 2 (.slice A6 l6.length c6) (l6.length) (flat l6) ∧ Below w.heap.size w w27)) _ (by first | (with_reducible assumption) | (exact hS) | (exact ⟨hS.1, hS.2.1, (by go_grown)⟩) | (exact ⟨(by first | (with_reducible assumption) | (exact World.ownsRow.alloc (by with_reducible assumption) _) | ((refine own_below (by with_reducible assumption) ?_); go_grown)), (by first | (with_reducible assumption) | (exact World.ownsRow.alloc (by with_reducible assumption) _) | ((refine own_below (by with_reducible assumption) ?_); go_grown)), (by go_grown)⟩)) hb⟩
        (try clear hS)
        have hS := hT
        clear hT
        have hB := hS.2.2.2
        have hzw : w.heap.size ≤ w27.heap.size := hB.size
        clear hb
        go_wp2_with fail
        refine (vSites_c _ _ _ _ (drpV l6 i6) (drpV l6 i6) _ (hide (own_reads (hS.2.1))) (hide (own_reads (hS.1))) (by omega) (by omega)).mono ?_
        rw [decide_eq_true (show drpV l6 i6 = drpV l6 i6 from rfl)]
        rintro e w28 ⟨rfl, hb⟩
        have hT : w28.ownsRow (b8) 32 2 (.slice A8 (drpV l6 i6).length c8) ((drpV l6 i6).length) (flat (drpV l6 i6)) ∧ w28.ownsRow (b7) 32 2 (.slice A7 (drpV l6 i6).length c7) ((drpV l6 i6).length) (flat (drpV l6 i6)) ∧ w28.ownsRow (b6) 32 2 (.slice A6 l6.length c6) (l6.length) (flat l6) ∧ Below w.heap.size w w28 := (fun W h hb => ⟨own_below h.1 (hb), own_below h.2.1 (hb), own_below h.2.2.1 (hb), below_via h.2.2.2 (hb)⟩ : ∀ W : World, (W.ownsRow (b8) 32 2 (.slice A8 (drpV l6 i6).length c8) ((drpV l6 i6).length) (flat (drpV l6 i6)) ∧ W.ownsRow (b7) 32 2 (.slice A7 (drpV l6 i6).length c7) ((drpV l6 i6).length) (flat (drpV l6 i6)) ∧ W.ownsRow (b6) 32 2 (.slice A6 l6.length c6) (l6.length) (flat l6) ∧ Below w.heap.size w W) → Below W.heap.size W w28 → (w28.ownsRow (b8) 32 2 (.slice A8 (drpV l6 i6).length c8) ((drpV l6 i6).length) (flat (drpV l6 i6)) ∧ w28.ownsRow (b7) 32 2 (.slice A7 (drpV l6 i6).length c7) ((drpV l6 i6).length) (flat (drpV l6 i6)) ∧ w28.ownsRow (b6) 32 2 (.slice A6 l6.length c6) (l6.length) (flat l6) ∧ Below w.heap.size w w28)) _ (by first | (with_reducible assumption) | (exact hS) | (exact ⟨hS.1, hS.2.1, hS.2.2.1, (by go_grown)⟩) | (exact ⟨(by first | (with_reducible assumption) | (exact World.ownsRow.alloc (by with_reducible assumption) _) | ((refine own_below (by with_reducible assumption) ?_); go_grown)), (by first | (with_reducible assumption) | (exact World.ownsRow.alloc (by with_reducible assumption) _) | ((refine own_below (by with_reducible assumption) ?_); go_grown)), (by first | (with_reducible assumption) | (exact World.ownsRow.alloc (by with_reducible assumption) _) | ((refine own_below (by with_reducible assumption) ?_); go_grown)), (by go_grown)⟩)) hb
        (try clear hS)
        have hS := hT
        clear hT
        have hB := hS.2.2.2
        have hzw : w.heap.size ≤ w28.heap.size := hB.size
        clear hb
        go_wp2
        go_returns
        exact ⟨ret_eq (by simp), by go_grown⟩
      cases K5
      · (try clear hS)
        go_wp2_with fail
        refine (drawDrop_c A n c _ (hide (h1.out.below (by go_grown))) HN.out).mono ?_
        rintro e w25 ⟨l6, A6, c6, i6, rfl, ho6, hl66, hp66, ⟨hi0, hi1⟩, hb⟩
        obtain ⟨b6, ho6, hbk6⟩ := own_based ho6 (m := w24.heap.size) (by first | omega | (simp; done) | (simp; omega))
        have hT : w25.ownsRow (b6) 32 2 (.slice A6 l6.length c6) (l6.length) (flat l6) ∧ Below w.heap.size w w25 := ⟨ho6, (fun W h hb => below_via h (hb) : ∀ W : World, (Below w.heap.size w W) → Below W.heap.size W w25 → (Below w.heap.size w w25)) _ (by first | (with_reducible assumption) | go_grown) hb⟩
        (try clear hS)
        have hS := hT
        clear hT
        have hB := hS.2
        have hzw : w.heap.size ≤ w25.heap.size := hB.size
        clear hb
        have HD6 := hide (drpV_len l6 i6)
        have hd6 := HD6.out
        obtain ⟨K6, HK60⟩ : ∃ q, (drpK l6 i6) = q := ⟨_, rfl⟩
        have HK6 := hide HK60
        have hP := hS
        go_wp2_with fail
        refine (Drop_c _ _ l6 i6 _ (hide (own_reads (hS.1))) (by omega) (own_cap (hS.1))).mono ?_
        rw [HK6.out]
        rintro e w26 ⟨A7, c7, rfl, ho7, hb⟩
        obtain ⟨b7, ho7, hbk7⟩ := own_based ho7 (m := w25.heap.size) (by first | omega | (simp; done) | (simp; omega))
        have ne6_7 := own_ne (hP.1) ho7 hbk7
        clear hP
        have hT : w26.ownsRow (b7) 32 2 (.slice A7 (drpV l6 i6).length c7) ((drpV l6 i6).length) (flat (drpV l6 i6)) ∧ w26.ownsRow (b6) 32 2 (.slice A6 l6.length c6) (l6.length) (flat l6) ∧ Below w.heap.size w w26 := ⟨ho7, (fun W h hb => ⟨own_below h.1 (hb), below_via h.2 (hb)⟩ : ∀ W : World, (W.ownsRow (b6) 32 2 (.slice A6 l6.length c6) (l6.length) (flat l6) ∧ Below w.heap.size w W) → Below W.heap.size W w26 → (w26.ownsRow (b6) 32 2 (.slice A6 l6.length c6) (l6.length) (flat l6) ∧ Below w.heap.size w w26)) _ (by first | (with_reducible assumption) | (exact hS) | (exact ⟨hS.1, (by go_grown)⟩) | (exact ⟨(by first | (with_reducible assumption) | (exact World.ownsRow.alloc (by with_reducible assumption) _) | ((refine own_below (by with_reducible assumption) ?_); go_grown)), (by go_grown)⟩)) hb⟩
        (try clear hS)
        have hS := hT
        clear hT
        have hB := hS.2.2
        have hzw : w.heap.size ≤ w26.heap.size := hB.size
        clear hb
        have hP := hS
        go_wp2_with fail
        refine (sDrop_c _ _ l6 i6 _ (hide (own_reads (hS.2.1))) (by omega) (own_cap (hS.2.1))).mono ?_
        rw [HK6.out]
        rintro e w27 ⟨A8, c8, rfl, ho8, hb⟩
        obtain ⟨b8, ho8, hbk8⟩ := own_based ho8 (m := w26.heap.size) (by first | omega | (simp; done) | (simp; omega))
        have ne6_8 := own_ne (hP.2.1) ho8 hbk8
        have ne7_8 := own_ne (hP.1) ho8 hbk8
        clear hP
        have hT : w27.ownsRow (b8) 32 2 (.slice A8 (drpV l6 i6).length c8) ((drpV l6 i6).length) (flat (drpV l6 i6)) ∧ w27.ownsRow (b7) 32 2 (.slice A7 (drpV l6 i6).length c7) ((drpV l6 i6).length) (flat (drpV l6 i6)) ∧ w27.ownsRow (b6) 32 2 (.slice A6 l6.length c6) (l6.length) (flat l6) ∧ Below w.heap.size w w27 := ⟨ho8, (fun W h hb => ⟨own_below h.1 (hb), own_below h.2.1 (hb), below_via h.2.2 (hb)⟩ : ∀ W : World, (W.ownsRow (b7) 32 2 (.slice A7 (drpV l6 i6).length c7) ((drpV l6 i6).length) (flat (drpV l6 i6)) ∧ W.ownsRow (b6) 32 2 (.slice A6 l6.length c6) (l6.length) (flat l6) ∧ Below w.heap.size w W) → Below W.heap.size W w27 → (w27.ownsRow (b7) 32 2 (.slice A7 (drpV l6 i6).length c7) ((drpV l6 i6).length) (flat (drpV l6 i6)) ∧ w27.ownsRow (b6) 32 2 (.slice A6 l6.length c6) (l6.length) (flat l6) ∧ Below w.heap.size w w27)) _ (by first | (with_reducible assumption) | (exact hS) | (exact ⟨hS.1, hS.2.1, (by go_grown)⟩) | (exact ⟨(by first | (with_reducible assumption) | (exact World.ownsRow.alloc (by with_reducible assumption) _) | ((refine own_below (by with_reducible assumption) ?_); go_grown)), (by first | (with_reducible assumption) | (exact World.ownsRow.alloc (by with_reducible assumption) _) | ((refine own_below (by with_reducible assumption) ?_); go_grown)), (by go_grown)⟩)) hb⟩
        (try clear hS)
        have hS := hT
        clear hT
        have hB := hS.2.2.2
        have hzw : w.heap.size ≤ w27.heap.size := hB.size
        clear hb
        go_wp2_with fail
        refine (vSites_c _ _ _ _ (drpV l6 i6) (drpV l6 i6) _ (hide (own_reads (hS.2.1))) (hide (own_reads (hS.1))) (by omega) (by omega)).mono ?_
        rw [decide_eq_true (show drpV l6 i6 = drpV l6 i6 from rfl)]
        rintro e w28 ⟨rfl, hb⟩
        have hT : w28.ownsRow (b8) 32 2 (.slice A8 (drpV l6 i6).length c8) ((drpV l6 i6).length) (flat (drpV l6 i6)) ∧ w28.ownsRow (b7) 32 2 (.slice A7 (drpV l6 i6).length c7) ((drpV l6 i6).length) (flat (drpV l6 i6)) ∧ w28.ownsRow (b6) 32 2 (.slice A6 l6.length c6) (l6.length) (flat l6) ∧ Below w.heap.size w w28 := (fun W h hb => ⟨own_below h.1 (hb), own_below h.2.1 (hb), own_below h.2.2.1 (hb), below_via h.2.2.2 (hb)⟩ : ∀ W : World, (W.ownsRow (b8) 32 2 (.slice A8 (drpV l6 i6).length c8) ((drpV l6 i6).length) (flat (drpV l6 i6)) ∧ W.ownsRow (b7) 32 2 (.slice A7 (drpV l6 i6).length c7) ((drpV l6 i6).length) (flat (drpV l6 i6)) ∧ W.ownsRow (b6) 32 2 (.slice A6 l6.length c6) (l6.length) (flat l6) ∧ Below w.heap.size w W) → Below W.heap.size W w28 → (w28.ownsRow (b8) 32 2 (.slice A8 (drpV l6 i6).length c8) ((drpV l6 i6).length) (flat (drpV l6 i6)) ∧ w28.ownsRow (b7) 32 2 (.slice A7 (drpV l6 i6).length c7) ((drpV l6 i6).length) (flat (drpV l6 i6)) ∧ w28.ownsRow (b6) 32 2 (.slice A6 l6.length c6) (l6.length) (flat l6) ∧ Below w.heap.size w w28)) _ (by first | (with_reducible assumption) | (exact hS) | (exact ⟨hS.1, hS.2.1, hS.2.2.1, (by go_grown)⟩) | (exact ⟨(by first | (with_reducible assumption) | (exact World.ownsRow.alloc (by with_reducible assumption) _) | ((refine own_below (by with_reducible assumption) ?_); go_grown)), (by first | (with_reducible assumption) | (exact World.ownsRow.alloc (by with_reducible assumption) _) | ((refine own_below (by with_reducible assumption) ?_); go_grown)), (by first | (with_reducible assumption) | (exact World.ownsRow.alloc (by with_reducible assumption) _) | ((refine own_below (by with_reducible assumption) ?_); go_grown)), (by go_grown)⟩)) hb
        (try clear hS)
        have hS := hT
        clear hT
        have hB := hS.2.2.2
        have hzw : w.heap.size ≤ w28.heap.size := hB.size
        clear hb
        go_wp2
        go_returns
        exact ⟨ret_eq (by simp), by go_grown⟩
      obtain ⟨e5, e6, e7⟩ := drop_less HK4.out HK5.out
      rw [HV4.out] at e6
      obtain ⟨V5, hV50⟩ : ∃ q, cpV (drpV l4 0) u v = q := ⟨_, rfl⟩
      rw [hV50] at e6
      have HV5 := hide hV50
      have HK7 := hide e5
      clear hV50 e5
      have ewm : IntKind.i64.wrap ((l4.length : Int) - 1) = (l4.length : Int) - 1 := IntWalk.i64_in _ (by omega)
      have hcm : decide (V4 < V5) = false := decide_eq_false (by omega)
      have hlm : ((((drpV l4 0).length : Nat) : Int) != (l4.length : Int) - 1) = false := by simp; omega
      go_wp2_with fail
      refine (Covered_c _ _ (drpV l4 0) u v _ (hide (own_reads (hS.1))) (by omega) (own_cap (hS.1))).mono ?_
      rw [HK7.out, HV5.out]
      rintro e w25 ⟨rfl, hb⟩
      have hT : w25.ownsRow (b5) 32 2 (.slice A5 (drpV l4 0).length c5) ((drpV l4 0).length) (flat (drpV l4 0)) ∧ w25.ownsRow (b4) 32 2 (.slice A4 l4.length c4) (l4.length) (flat l4) ∧ Below w.heap.size w w25 := (fun W h hb => ⟨own_below h.1 (hb), own_below h.2.1 (hb), below_via h.2.2 (hb)⟩ : ∀ W : World, (W.ownsRow (b5) 32 2 (.slice A5 (drpV l4 0).length c5) ((drpV l4 0).length) (flat (drpV l4 0)) ∧ W.ownsRow (b4) 32 2 (.slice A4 l4.length c4) (l4.length) (flat l4) ∧ Below w.heap.size w W) → Below W.heap.size W w25 → (w25.ownsRow (b5) 32 2 (.slice A5 (drpV l4 0).length c5) ((drpV l4 0).length) (flat (drpV l4 0)) ∧ w25.ownsRow (b4) 32 2 (.slice A4 l4.length c4) (l4.length) (flat l4) ∧ Below w.heap.size w w25)) _ (by first | (with_reducible assumption) | (exact hS) | (exact ⟨hS.1, hS.2.1, (by go_grown)⟩) | (exact ⟨(by first | (with_reducible assumption) | (exact World.ownsRow.alloc (by with_reducible assumption) _) | ((refine own_below (by with_reducible assumption) ?_); go_grown)), (by first | (with_reducible assumption) | (exact World.ownsRow.alloc (by with_reducible assumption) _) | ((refine own_below (by with_reducible assumption) ?_); go_grown)), (by go_grown)⟩)) hb
      (try clear hS)
      have hS := hT
      clear hT
      have hB := hS.2.2
      have hzw : w.heap.size ≤ w25.heap.size := hB.size
      clear hb
      (try clear hS)
      go_wp2_with fail
      refine (drawDrop_c A n c _ (hide (h1.out.below (by go_grown))) HN.out).mono ?_
      rintro e w26 ⟨l6, A6, c6, i6, rfl, ho6, hl66, hp66, ⟨hi0, hi1⟩, hb⟩
      obtain ⟨b6, ho6, hbk6⟩ := own_based ho6 (m := w25.heap.size) (by first | omega | (simp; done) | (simp; omega))
      have hT : w26.ownsRow (b6) 32 2 (.slice A6 l6.length c6) (l6.length) (flat l6) ∧ Below w.heap.size w w26 := ⟨ho6, (fun W h hb => below_via h (hb) : ∀ W : World, (Below w.heap.size w W) → Below W.heap.size W w26 → (Below w.heap.size w w26)) _ (by first | (with_reducible assumption) | go_grown) hb⟩
      (try clear hS)
      have hS := hT
      clear hT
      have hB := hS.2
      have hzw : w.heap.size ≤ w26.heap.size := hB.size
      clear hb
      have HD6 := hide (drpV_len l6 i6)
      have hd6 := HD6.out
      obtain ⟨K6, HK60⟩ : ∃ q, (drpK l6 i6) = q := ⟨_, rfl⟩
      have HK6 := hide HK60
      have hP := hS
      go_wp2_with fail
      refine (Drop_c _ _ l6 i6 _ (hide (own_reads (hS.1))) (by omega) (own_cap (hS.1))).mono ?_
      rw [HK6.out]
      rintro e w27 ⟨A7, c7, rfl, ho7, hb⟩
      obtain ⟨b7, ho7, hbk7⟩ := own_based ho7 (m := w26.heap.size) (by first | omega | (simp; done) | (simp; omega))
      have ne6_7 := own_ne (hP.1) ho7 hbk7
      clear hP
      have hT : w27.ownsRow (b7) 32 2 (.slice A7 (drpV l6 i6).length c7) ((drpV l6 i6).length) (flat (drpV l6 i6)) ∧ w27.ownsRow (b6) 32 2 (.slice A6 l6.length c6) (l6.length) (flat l6) ∧ Below w.heap.size w w27 := ⟨ho7, (fun W h hb => ⟨own_below h.1 (hb), below_via h.2 (hb)⟩ : ∀ W : World, (W.ownsRow (b6) 32 2 (.slice A6 l6.length c6) (l6.length) (flat l6) ∧ Below w.heap.size w W) → Below W.heap.size W w27 → (w27.ownsRow (b6) 32 2 (.slice A6 l6.length c6) (l6.length) (flat l6) ∧ Below w.heap.size w w27)) _ (by first | (with_reducible assumption) | (exact hS) | (exact ⟨hS.1, (by go_grown)⟩) | (exact ⟨(by first | (with_reducible assumption) | (exact World.ownsRow.alloc (by with_reducible assumption) _) | ((refine own_below (by with_reducible assumption) ?_); go_grown)), (by go_grown)⟩)) hb⟩
      (try clear hS)
      have hS := hT
      clear hT
      have hB := hS.2.2
      have hzw : w.heap.size ≤ w27.heap.size := hB.size
      clear hb
      have hP := hS
      go_wp2_with fail
      refine (sDrop_c _ _ l6 i6 _ (hide (own_reads (hS.2.1))) (by omega) (own_cap (hS.2.1))).mono ?_
      rw [HK6.out]
      rintro e w28 ⟨A8, c8, rfl, ho8, hb⟩
      obtain ⟨b8, ho8, hbk8⟩ := own_based ho8 (m := w27.heap.size) (by first | omega | (simp; done) | (simp; omega))
      have ne6_8 := own_ne (hP.2.1) ho8 hbk8
      have ne7_8 := own_ne (hP.1) ho8 hbk8
      clear hP
      have hT : w28.ownsRow (b8) 32 2 (.slice A8 (drpV l6 i6).length c8) ((drpV l6 i6).length) (flat (drpV l6 i6)) ∧ w28.ownsRow (b7) 32 2 (.slice A7 (drpV l6 i6).length c7) ((drpV l6 i6).length) (flat (drpV l6 i6)) ∧ w28.ownsRow (b6) 32 2 (.slice A6 l6.length c6) (l6.length) (flat l6) ∧ Below w.heap.size w w28 := ⟨ho8, (fun W h hb => ⟨own_below h.1 (hb), own_below h.2.1 (hb), below_via h.2.2 (hb)⟩ : ∀ W : World, (W.ownsRow (b7) 32 2 (.slice A7 (drpV l6 i6).length c7) ((drpV l6 i6).length) (flat (drpV l6 i6)) ∧ W.ownsRow (b6) 32 2 (.slice A6 l6.length c6) (l6.length) (flat l6) ∧ Below w.heap.size w W) → Below W.heap.size W w28 → (w28.ownsRow (b7) 32 2 (.slice A7 (drpV l6 i6).length c7) ((drpV l6 i6).length) (flat (drpV l6 i6)) ∧ w28.ownsRow (b6) 32 2 (.slice A6 l6.length c6) (l6.length) (flat l6) ∧ Below w.heap.size w w28)) _ (by first | (with_reducible assumption) | (exact hS) | (exact ⟨hS.1, hS.2.1, (by go_grown)⟩) | (exact ⟨(by first | (with_reducible assumption) | (exact World.ownsRow.alloc (by with_reducible assumption) _) | ((refine own_below (by with_reducible assumption) ?_); go_grown)), (by first | (with_reducible assumption) | (exact World.ownsRow.alloc (by with_reducible assumption) _) | ((refine own_below (by with_reducible assumption) ?_); go_grown)), (by go_grown)⟩)) hb⟩
      (try clear hS)
      have hS := hT
      clear hT
      have hB := hS.2.2.2
      have hzw : w.heap.size ≤ w28.heap.size := hB.size
      clear hb
      go_wp2_with fail
      refine (vSites_c _ _ _ _ (drpV l6 i6) (drpV l6 i6) _ (hide (own_reads (hS.2.1))) (hide (own_reads (hS.1))) (by omega) (by omega)).mono ?_
      rw [decide_eq_true (show drpV l6 i6 = drpV l6 i6 from rfl)]
      rintro e w29 ⟨rfl, hb⟩
      have hT : w29.ownsRow (b8) 32 2 (.slice A8 (drpV l6 i6).length c8) ((drpV l6 i6).length) (flat (drpV l6 i6)) ∧ w29.ownsRow (b7) 32 2 (.slice A7 (drpV l6 i6).length c7) ((drpV l6 i6).length) (flat (drpV l6 i6)) ∧ w29.ownsRow (b6) 32 2 (.slice A6 l6.length c6) (l6.length) (flat l6) ∧ Below w.heap.size w w29 := (fun W h hb => ⟨own_below h.1 (hb), own_below h.2.1 (hb), own_below h.2.2.1 (hb), below_via h.2.2.2 (hb)⟩ : ∀ W : World, (W.ownsRow (b8) 32 2 (.slice A8 (drpV l6 i6).length c8) ((drpV l6 i6).length) (flat (drpV l6 i6)) ∧ W.ownsRow (b7) 32 2 (.slice A7 (drpV l6 i6).length c7) ((drpV l6 i6).length) (flat (drpV l6 i6)) ∧ W.ownsRow (b6) 32 2 (.slice A6 l6.length c6) (l6.length) (flat l6) ∧ Below w.heap.size w W) → Below W.heap.size W w29 → (w29.ownsRow (b8) 32 2 (.slice A8 (drpV l6 i6).length c8) ((drpV l6 i6).length) (flat (drpV l6 i6)) ∧ w29.ownsRow (b7) 32 2 (.slice A7 (drpV l6 i6).length c7) ((drpV l6 i6).length) (flat (drpV l6 i6)) ∧ w29.ownsRow (b6) 32 2 (.slice A6 l6.length c6) (l6.length) (flat l6) ∧ Below w.heap.size w w29)) _ (by first | (with_reducible assumption) | (exact hS) | (exact ⟨hS.1, hS.2.1, hS.2.2.1, (by go_grown)⟩) | (exact ⟨(by first | (with_reducible assumption) | (exact World.ownsRow.alloc (by with_reducible assumption) _) | ((refine own_below (by with_reducible assumption) ?_); go_grown)), (by first | (with_reducible assumption) | (exact World.ownsRow.alloc (by with_reducible assumption) _) | ((refine own_below (by with_reducible assumption) ?_); go_grown)), (by first | (with_reducible assumption) | (exact World.ownsRow.alloc (by with_reducible assumption) _) | ((refine own_below (by with_reducible assumption) ?_); go_grown)), (by go_grown)⟩)) hb
      (try clear hS)
      have hS := hT
      clear hT
      have hB := hS.2.2.2
      have hzw : w.heap.size ≤ w29.heap.size := hB.size
      clear hb
      go_wp2
      go_returns
      exact ⟨ret_eq (by simp), by go_grown⟩
    obtain ⟨ex_, ey_⟩ := own_pt (hS.2.2.2.1) hlt
    have HPI := hide (hgd.out i hlt).1
    obtain ⟨D, hD⟩ : ∃ D, dst (px l i, py l i) (x, y) = D := ⟨_, rfl⟩
    have HS2 := hide (show sdV (px l i) (py l i) x y = D from by unfold sdV; rw [HPI.out, HPT.out]; exact hD)
    have HB2 := hide (show (pt (px l i, py l i) && pt (x, y)) = true from by rw [HPI.out, HPT.out]; rfl)
    have HH := hide (show decide ((i : Int) ∈ covV l (x, y) t) = decide (D ≤ t) from by rw [has_covV HK.out hlt, hD])
    clear hD
    have hsd : ∀ W, Calls Try.prog 32 #[.agg #[.int .i64 (px l i), .int .i64 (py l i)], .agg #[.int .i64 x, .int .i64 y]] W (Gives W (.tuple #[.int .i64 D, .bool true])) := fun W => by have h := SiteDist_c (px l i) (py l i) x y W; rw [HS2.out, HB2.out] at h; exact h
    have hS4 : wr.cell? ⟨g9, i * 2, none⟩ = some (.int .i64 (px l i)) ∧ wr.cell? ⟨g9, i * 2 + 1, none⟩ = some (.int .i64 (py l i)) ∧ wr.ownsRow (b2) 3 1 (.slice A2 (covV l (x, y) t).length c2) ((covV l (x, y) t).length) (ints (covV l (x, y) t)) ∧ wr.cell? ⟨w1.heap.size, 0, none⟩ = some (.int .i64 (x)) ∧ wr.cell? ⟨w1.heap.size, 1, none⟩ = some (.int .i64 (y)) ∧ wr.ownsRow (b1) 32 2 (.slice (some ⟨g9, 0, none⟩) l.length c1) (l.length) (flat l) ∧ Below w.heap.size w wr := ⟨ex_, ey_, hS⟩
    clear hS
    have hS := hS4
    clear hS4
    go_wp2
    refine wp_region_det (fun w' => w'.cell? ⟨g9, i * 2, none⟩ = some (.int .i64 (px l i)) ∧ w'.cell? ⟨g9, i * 2 + 1, none⟩ = some (.int .i64 (py l i)) ∧ w'.ownsRow (b2) 3 1 (.slice A2 (covV l (x, y) t).length c2) ((covV l (x, y) t).length) (ints (covV l (x, y) t)) ∧ w'.cell? ⟨w1.heap.size, 0, none⟩ = some (.int .i64 (x)) ∧ w'.cell? ⟨w1.heap.size, 1, none⟩ = some (.int .i64 (y)) ∧ w'.ownsRow (b1) 32 2 (.slice (some ⟨g9, 0, none⟩) l.length c1) (l.length) (flat l) ∧ Below w.heap.size w w') (by kernel_rfl) (by kernel_rfl) (by first | (with_reducible assumption) | (exact hS) | (exact ⟨hS.1, hS.2.1, hS.2.2.1, hS.2.2.2.1, hS.2.2.2.2.1, hS.2.2.2.2.2.1, (by go_grown)⟩) | (exact ⟨(by first | (with_reducible assumption) | (simp [go_sem]; done) | ((simp only [go_sem]); (with_reducible assumption)) | ((refine keep_cell ?_ (by with_reducible assumption)); go_grown; done) | (simp [go_sem, *]; done)), (by first | (with_reducible assumption) | (simp [go_sem]; done) | ((simp only [go_sem]); (with_reducible assumption)) | ((refine keep_cell ?_ (by with_reducible assumption)); go_grown; done) | (simp [go_sem, *]; done)), (by first | (with_reducible assumption) | (exact World.ownsRow.alloc (by with_reducible assumption) _) | ((refine own_below (by with_reducible assumption) ?_); go_grown)), (by first | (with_reducible assumption) | (simp [go_sem]; done) | ((simp only [go_sem]); (with_reducible assumption)) | ((refine keep_cell ?_ (by with_reducible assumption)); go_grown; done) | (simp [go_sem, *]; done)), (by first | (with_reducible assumption) | (simp [go_sem]; done) | ((simp only [go_sem]); (with_reducible assumption)) | ((refine keep_cell ?_ (by with_reducible assumption)); go_grown; done) | (simp [go_sem, *]; done)), (by first | (with_reducible assumption) | (exact World.ownsRow.alloc (by with_reducible assumption) _) | ((refine own_below (by with_reducible assumption) ?_); go_grown)), (by go_grown)⟩)) ?_
    repeat (first
      | ((refine wpDet_skip (by rfl) ?_); simp only [Act.put, List.setIfInBounds_toArray, List.set_cons_zero, List.set_cons_succ])
      | ((refine wpDet_val (v := ?_) (by rfl) (fun w hS => ?_) ?_); rotate_left; (focus ((try dsimp only at hS); go_simp; (try (with_reducible rfl)); done)); simp only [Act.put, List.setIfInBounds_toArray, List.set_cons_zero, List.set_cons_succ])
      | ((refine wpDet_call (v := ?_) (f := ?_) (args := ?_) (by rfl) (fun w => ?_) (fun w hS => ?_) ?_); rotate_left; rotate_left; rotate_left; (focus (go_simp; (constructor <;> (with_reducible rfl)); done)); (focus (first | (go_at_call 32; refine (hsd _).mono ?_; intro e w' h; refine ⟨h.1.trans ?_, ⟨keep_cell (h.2) hS.1, keep_cell (h.2) hS.2.1, own_below hS.2.2.1 (h.2), keep_cell (h.2) hS.2.2.2.1, keep_cell (h.2) hS.2.2.2.2.1, own_below hS.2.2.2.2.2.1 (h.2), below_via hS.2.2.2.2.2.2 (h.2)⟩⟩; with_reducible rfl))); simp only [Act.put, List.setIfInBounds_toArray, List.set_cons_zero, List.set_cons_succ]))
    refine wpDet_nil ?_
    intro wd hS
    have hT : wd.cell? ⟨g9, i * 2, none⟩ = some (.int .i64 (px l i)) ∧ wd.cell? ⟨g9, i * 2 + 1, none⟩ = some (.int .i64 (py l i)) ∧ wd.ownsRow (b2) 3 1 (.slice A2 (covV l (x, y) t).length c2) ((covV l (x, y) t).length) (ints (covV l (x, y) t)) ∧ wd.cell? ⟨w1.heap.size, 0, none⟩ = some (.int .i64 (x)) ∧ wd.cell? ⟨w1.heap.size, 1, none⟩ = some (.int .i64 (y)) ∧ wd.ownsRow (b1) 32 2 (.slice (some ⟨g9, 0, none⟩) l.length c1) (l.length) (flat l) ∧ Below w.heap.size w wd := hS
    clear hS
    have hS := hT
    obtain ⟨c0, c1, c2, c3, c4, c5, hB⟩ := hT
    have hzw : w.heap.size ≤ wd.heap.size := hB.size
    have hz1 : g9 < wd.heap.size := World.block_lt_of_cell? wd _ (hS.1)
    have hz2 : w1.heap.size < wd.heap.size := World.block_lt_of_cell? wd _ (hS.2.2.2.1)
    have hrv := c2
    go_wp2_with (first | (go_at_call 33; refine (vHas_c _ _ (covV l (x, y) t) _ _ (hide (own_reads hrv)) (by omega)).mono ?_; rw [HH.out]; rintro e wv ⟨rfl, rfl⟩))
    go_wp2
    go_roundw
    case rel => exact ⟨i + 1, by omega, by go_num, hS.2.2⟩
    case measure => simp [intOf]; omega
end Go.Proofs.Ytnocgcfepkdjeaa
