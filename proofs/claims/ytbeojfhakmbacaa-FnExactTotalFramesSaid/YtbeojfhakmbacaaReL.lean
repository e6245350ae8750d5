/- Law: all frames. -/
import Derived.Test.YtbeojfhakmbacaaReC3
import Derived.Test.YtbeojfhakmbacaaReC2
import Derived.Test.YtbeojfhakmbacaaReH
namespace Go.Proofs.Ytbeojfhakmbacaa
open Go.RowKit

set_option maxHeartbeats 4000000 in
theorem fnTotalFrames (m : Int) (A : Option Addr) (c : Nat) (l : List Hd) (w : World) (h1 : Hid (Reads w w.heap.size 10 A l.length (hds l))) (bm : l.length ≤ 9223372036854775807)  : Calls Try.prog 5 #[.agg #[.int .i64 m, .slice A l.length c]] w (Gives w (.bool true)) := by
  by_cases hbig : 1048576 < l.length
  · go_enter Try.func5, Try.ntmps5
    go_wp2_with (first | (go_at_call 29; refine (szReceiver_c _ _ _ _ _ bm (by omega) (by omega) _).mono ?_; rintro e w1 ⟨rfl, hb⟩; rw [if_pos (by omega)]; have hT : Below w.heap.size w w1 := (fun W h hb => below_via h (hb) : ∀ W : World, (Below w.heap.size w W) → Below W.heap.size W w1 → (Below w.heap.size w w1)) _ (by first | (with_reducible assumption) | go_grown) hb; (try clear hS); have hS := hT; clear hT; have hB := hS; have hzw : w.heap.size ≤ w1.heap.size := hB.size; clear hb))
    go_returns
    exact ⟨ret_eq rfl, by go_grown⟩
  have b1 : l.length ≤ 1048576 := by omega
  go_enter Try.func5, Try.ntmps5
  go_wp2_with fail
  refine (szReceiver_c _ _ _ _ _ bm (by omega) (by omega) _).mono ?_
  rintro e w1 ⟨rfl, hb⟩
  rw [if_neg (by omega)]
  have hT : w1.cell? ⟨w.heap.size, 0, none⟩ = some (.int .i64 m) ∧ w1.cell? ⟨w.heap.size, 1, none⟩ = some (.slice A l.length c) ∧ Below w.heap.size w w1 := (fun W h hb => ⟨keep_cell (hb) h.1, keep_cell (hb) h.2.1, below_via h.2.2 (hb)⟩ : ∀ W : World, (W.cell? ⟨w.heap.size, 0, none⟩ = some (.int .i64 m) ∧ W.cell? ⟨w.heap.size, 1, none⟩ = some (.slice A l.length c) ∧ Below w.heap.size w W) → Below W.heap.size W w1 → (w1.cell? ⟨w.heap.size, 0, none⟩ = some (.int .i64 m) ∧ w1.cell? ⟨w.heap.size, 1, none⟩ = some (.slice A l.length c) ∧ Below w.heap.size w w1)) _ (by first | (with_reducible assumption) | (exact hS) | (exact ⟨hS.1, hS.2.1, (by go_grown)⟩) | (exact ⟨(by first | (with_reducible assumption) | (simp [go_sem]; done) | ((simp only [go_sem]); (with_reducible assumption)) | ((refine keep_cell ?_ (by with_reducible assumption)); go_grown; done) | (simp [go_sem, *]; done)), (by first | (with_reducible assumption) | (simp [go_sem]; done) | ((simp only [go_sem]); (with_reducible assumption)) | ((refine keep_cell ?_ (by with_reducible assumption)); go_grown; done) | (simp [go_sem, *]; done)), (by go_grown)⟩)) hb
  (try clear hS)
  have hS := hT
  clear hT
  have hB := hS.2.2
  have hzw : w.heap.size ≤ w1.heap.size := hB.size
  have hz1 : w.heap.size < w1.heap.size := World.block_lt_of_cell? w1 _ (hS.1)
  clear hb
  go_wp2_with fail
  refine (toReceiver_c m A c l _ (hide (reads_below h1.out (by go_grown))) (by omega)).mono ?_
  rintro e w2 ⟨A1, c1, rfl, ho1, hb⟩
  obtain ⟨b1, ho1, hbk1⟩ := own_based ho1 (m := w1.heap.size) (by first | omega | (simp; done) | (simp; omega))
  have hT : w2.ownsRow (b1) 42 10 (.slice A1 l.length c1) (l.length) (hds l) ∧ w2.cell? ⟨w.heap.size, 0, none⟩ = some (.int .i64 m) ∧ w2.cell? ⟨w.heap.size, 1, none⟩ = some (.slice A l.length c) ∧ Below w.heap.size w w2 := ⟨ho1, (fun W h hb => ⟨keep_cell (hb) h.1, keep_cell (hb) h.2.1, below_via h.2.2 (hb)⟩ : ∀ W : World, (W.cell? ⟨w.heap.size, 0, none⟩ = some (.int .i64 m) ∧ W.cell? ⟨w.heap.size, 1, none⟩ = some (.slice A l.length c) ∧ Below w.heap.size w W) → Below W.heap.size W w2 → (w2.cell? ⟨w.heap.size, 0, none⟩ = some (.int .i64 m) ∧ w2.cell? ⟨w.heap.size, 1, none⟩ = some (.slice A l.length c) ∧ Below w.heap.size w w2)) _ (by first | (with_reducible assumption) | (exact hS) | (exact ⟨hS.1, hS.2.1, (by go_grown)⟩) | (exact ⟨(by first | (with_reducible assumption) | (simp [go_sem]; done) | ((simp only [go_sem]); (with_reducible assumption)) | ((refine keep_cell ?_ (by with_reducible assumption)); go_grown; done) | (simp [go_sem, *]; done)), (by first | (with_reducible assumption) | (simp [go_sem]; done) | ((simp only [go_sem]); (with_reducible assumption)) | ((refine keep_cell ?_ (by with_reducible assumption)); go_grown; done) | (simp [go_sem, *]; done)), (by go_grown)⟩)) hb⟩
  (try clear hS)
  have hS := hT
  clear hT
  have hB := hS.2.2.2
  have hzw : w.heap.size ≤ w2.heap.size := hB.size
  have hz1 : w.heap.size < w2.heap.size := World.block_lt_of_cell? w2 _ (hS.2.1)
  clear hb
  go_wp2_with fail
  refine (sTotalFrames_c _ _ _ l _ (hide (own_reads (hS.1))) (by omega)).mono ?_
  rintro e w3 ⟨rfl, hb⟩
  have hT : w3.ownsRow (b1) 42 10 (.slice A1 l.length c1) (l.length) (hds l) ∧ w3.cell? ⟨w.heap.size, 0, none⟩ = some (.int .i64 m) ∧ w3.cell? ⟨w.heap.size, 1, none⟩ = some (.slice A l.length c) ∧ Below w.heap.size w w3 := (fun W h hb => ⟨own_below h.1 (hb), keep_cell (hb) h.2.1, keep_cell (hb) h.2.2.1, below_via h.2.2.2 (hb)⟩ : ∀ W : World, (W.ownsRow (b1) 42 10 (.slice A1 l.length c1) (l.length) (hds l) ∧ W.cell? ⟨w.heap.size, 0, none⟩ = some (.int .i64 m) ∧ W.cell? ⟨w.heap.size, 1, none⟩ = some (.slice A l.length c) ∧ Below w.heap.size w W) → Below W.heap.size W w3 → (w3.ownsRow (b1) 42 10 (.slice A1 l.length c1) (l.length) (hds l) ∧ w3.cell? ⟨w.heap.size, 0, none⟩ = some (.int .i64 m) ∧ w3.cell? ⟨w.heap.size, 1, none⟩ = some (.slice A l.length c) ∧ Below w.heap.size w w3)) _ (by first | (with_reducible assumption) | (exact hS) | (exact ⟨hS.1, hS.2.1, hS.2.2.1, (by go_grown)⟩) | (exact ⟨(by first | (with_reducible assumption) | (exact World.ownsRow.alloc (by with_reducible assumption) _) | ((refine own_below (by with_reducible assumption) ?_); go_grown)), (by first | (with_reducible assumption) | (simp [go_sem]; done) | ((simp only [go_sem]); (with_reducible assumption)) | ((refine keep_cell ?_ (by with_reducible assumption)); go_grown; done) | (simp [go_sem, *]; done)), (by first | (with_reducible assumption) | (simp [go_sem]; done) | ((simp only [go_sem]); (with_reducible assumption)) | ((refine keep_cell ?_ (by with_reducible assumption)); go_grown; done) | (simp [go_sem, *]; done)), (by go_grown)⟩)) hb
  (try clear hS)
  have hS := hT
  clear hT
  have hB := hS.2.2.2
  have hzw : w.heap.size ≤ w3.heap.size := hB.size
  have hz1 : w.heap.size < w3.heap.size := World.block_lt_of_cell? w3 _ (hS.2.1)
  clear hb
  have hP := hS
  go_wp2_with fail
  refine (toReceiver_c m A c l _ (hide (reads_below h1.out (by go_grown))) (by omega)).mono ?_
  rintro e w4 ⟨A2, c2, rfl, ho2, hb⟩
  obtain ⟨b2, ho2, hbk2⟩ := own_based ho2 (m := w3.heap.size) (by first | omega | (simp; done) | (simp; omega))
  have ne1_2 := own_ne (hP.1) ho2 hbk2
  clear hP
  have hT : w4.ownsRow (b2) 42 10 (.slice A2 l.length c2) (l.length) (hds l) ∧ w4.ownsRow (b1) 42 10 (.slice A1 l.length c1) (l.length) (hds l) ∧ w4.cell? ⟨w.heap.size, 0, none⟩ = some (.int .i64 m) ∧ w4.cell? ⟨w.heap.size, 1, none⟩ = some (.slice A l.length c) ∧ Below w.heap.size w w4 := ⟨ho2, (fun W h hb => ⟨own_below h.1 (hb), keep_cell (hb) h.2.1, keep_cell (hb) h.2.2.1, below_via h.2.2.2 (hb)⟩ : ∀ W : World, (W.ownsRow (b1) 42 10 (.slice A1 l.length c1) (l.length) (hds l) ∧ W.cell? ⟨w.heap.size, 0, none⟩ = some (.int .i64 m) ∧ W.cell? ⟨w.heap.size, 1, none⟩ = some (.slice A l.length c) ∧ Below w.heap.size w W) → Below W.heap.size W w4 → (w4.ownsRow (b1) 42 10 (.slice A1 l.length c1) (l.length) (hds l) ∧ w4.cell? ⟨w.heap.size, 0, none⟩ = some (.int .i64 m) ∧ w4.cell? ⟨w.heap.size, 1, none⟩ = some (.slice A l.length c) ∧ Below w.heap.size w w4)) _ (by first | (with_reducible assumption) | (exact hS) | (exact ⟨hS.1, hS.2.1, hS.2.2.1, (by go_grown)⟩) | (exact ⟨(by first | (with_reducible assumption) | (exact World.ownsRow.alloc (by with_reducible assumption) _) | ((refine own_below (by with_reducible assumption) ?_); go_grown)), (by first | (with_reducible assumption) | (simp [go_sem]; done) | ((simp only [go_sem]); (with_reducible assumption)) | ((refine keep_cell ?_ (by with_reducible assumption)); go_grown; done) | (simp [go_sem, *]; done)), (by first | (with_reducible assumption) | (simp [go_sem]; done) | ((simp only [go_sem]); (with_reducible assumption)) | ((refine keep_cell ?_ (by with_reducible assumption)); go_grown; done) | (simp [go_sem, *]; done)), (by go_grown)⟩)) hb⟩
  (try clear hS)
  have hS := hT
  clear hT
  have hB := hS.2.2.2.2
  have hzw : w.heap.size ≤ w4.heap.size := hB.size
  have hz1 : w.heap.size < w4.heap.size := World.block_lt_of_cell? w4 _ (hS.2.2.1)
  clear hb
  go_wp2_with fail
  obtain ⟨w5, hww5⟩ : ∃ W, W = w4.alloc (.cells #[.int .i64 m, .slice A2 l.length c2] 26) := ⟨_, rfl⟩
  have hT : w5.cell? ⟨w4.heap.size, 0, none⟩ = some (.int .i64 m) ∧ w5.cell? ⟨w4.heap.size, 1, none⟩ = some (.slice A2 l.length c2) ∧ w5.ownsRow (b2) 42 10 (.slice A2 l.length c2) (l.length) (hds l) ∧ w5.ownsRow (b1) 42 10 (.slice A1 l.length c1) (l.length) (hds l) ∧ w5.cell? ⟨w.heap.size, 0, none⟩ = some (.int .i64 m) ∧ w5.cell? ⟨w.heap.size, 1, none⟩ = some (.slice A l.length c) ∧ Below w.heap.size w w5 := by
    rw [hww5]
    exact ⟨by simp [go_sem], by simp [go_sem], own_below hS.1 (by go_grown), own_below hS.2.1 (by go_grown), keep_cell (by go_grown) hS.2.2.1, keep_cell (by go_grown) hS.2.2.2.1, below_via hS.2.2.2.2 (by go_grown)⟩
  rw [← hww5]
  clear hS hww5
  have hS := hT
  clear hT
  (try clear hB hzw)
  have hB := hS.2.2.2.2.2.2
  have hzw : w.heap.size ≤ w5.heap.size := hB.size
  have hz1 : w4.heap.size < w5.heap.size := World.block_lt_of_cell? w5 _ (hS.1)
  have hz2 : w.heap.size < w5.heap.size := World.block_lt_of_cell? w5 _ (hS.2.2.2.2.1)
  go_wp2_with fail
  refine (TotalFrames_c _ _ _ l _ (hide (own_reads (hS.2.2.1))) (by omega)).mono ?_
  rintro e w6 ⟨rfl, hb⟩
  have hT : w6.cell? ⟨w4.heap.size, 0, none⟩ = some (.int .i64 m) ∧ w6.cell? ⟨w4.heap.size, 1, none⟩ = some (.slice A2 l.length c2) ∧ w6.ownsRow (b2) 42 10 (.slice A2 l.length c2) (l.length) (hds l) ∧ w6.ownsRow (b1) 42 10 (.slice A1 l.length c1) (l.length) (hds l) ∧ w6.cell? ⟨w.heap.size, 0, none⟩ = some (.int .i64 m) ∧ w6.cell? ⟨w.heap.size, 1, none⟩ = some (.slice A l.length c) ∧ Below w.heap.size w w6 := (fun W h hb => ⟨keep_cell (hb) h.1, keep_cell (hb) h.2.1, own_below h.2.2.1 (hb), own_below h.2.2.2.1 (hb), keep_cell (hb) h.2.2.2.2.1, keep_cell (hb) h.2.2.2.2.2.1, below_via h.2.2.2.2.2.2 (hb)⟩ : ∀ W : World, (W.cell? ⟨w4.heap.size, 0, none⟩ = some (.int .i64 m) ∧ W.cell? ⟨w4.heap.size, 1, none⟩ = some (.slice A2 l.length c2) ∧ W.ownsRow (b2) 42 10 (.slice A2 l.length c2) (l.length) (hds l) ∧ W.ownsRow (b1) 42 10 (.slice A1 l.length c1) (l.length) (hds l) ∧ W.cell? ⟨w.heap.size, 0, none⟩ = some (.int .i64 m) ∧ W.cell? ⟨w.heap.size, 1, none⟩ = some (.slice A l.length c) ∧ Below w.heap.size w W) → Below W.heap.size W w6 → (w6.cell? ⟨w4.heap.size, 0, none⟩ = some (.int .i64 m) ∧ w6.cell? ⟨w4.heap.size, 1, none⟩ = some (.slice A2 l.length c2) ∧ w6.ownsRow (b2) 42 10 (.slice A2 l.length c2) (l.length) (hds l) ∧ w6.ownsRow (b1) 42 10 (.slice A1 l.length c1) (l.length) (hds l) ∧ w6.cell? ⟨w.heap.size, 0, none⟩ = some (.int .i64 m) ∧ w6.cell? ⟨w.heap.size, 1, none⟩ = some (.slice A l.length c) ∧ Below w.heap.size w w6)) _ (by first | (with_reducible assumption) | (exact hS) | (exact ⟨hS.1, hS.2.1, hS.2.2.1, hS.2.2.2.1, hS.2.2.2.2.1, hS.2.2.2.2.2.1, (by go_grown)⟩) | (exact ⟨(by first | (with_reducible assumption) | (simp [go_sem]; done) | ((simp only [go_sem]); (with_reducible assumption)) | ((refine keep_cell ?_ (by with_reducible assumption)); go_grown; done) | (simp [go_sem, *]; done)), (by first | (with_reducible assumption) | (simp [go_sem]; done) | ((simp only [go_sem]); (with_reducible assumption)) | ((refine keep_cell ?_ (by with_reducible assumption)); go_grown; done) | (simp [go_sem, *]; done)), (by first | (with_reducible assumption) | (exact World.ownsRow.alloc (by with_reducible assumption) _) | ((refine own_below (by with_reducible assumption) ?_); go_grown)), (by first | (with_reducible assumption) | (exact World.ownsRow.alloc (by with_reducible assumption) _) | ((refine own_below (by with_reducible assumption) ?_); go_grown)), (by first | (with_reducible assumption) | (simp [go_sem]; done) | ((simp only [go_sem]); (with_reducible assumption)) | ((refine keep_cell ?_ (by with_reducible assumption)); go_grown; done) | (simp [go_sem, *]; done)), (by first | (with_reducible assumption) | (simp [go_sem]; done) | ((simp only [go_sem]); (with_reducible assumption)) | ((refine keep_cell ?_ (by with_reducible assumption)); go_grown; done) | (simp [go_sem, *]; done)), (by go_grown)⟩)) hb
  (try clear hS)
  have hS := hT
  clear hT
  have hB := hS.2.2.2.2.2.2
  have hzw : w.heap.size ≤ w6.heap.size := hB.size
  have hz1 : w4.heap.size < w6.heap.size := World.block_lt_of_cell? w6 _ (hS.1)
  have hz2 : w.heap.size < w6.heap.size := World.block_lt_of_cell? w6 _ (hS.2.2.2.2.1)
  clear hb
  go_wp2
  refine wp_region_seq deed [0, 1, 2, 3, 4] (fun W => W.cell? ⟨w4.heap.size, 0, none⟩ = some (.int .i64 m) ∧ W.cell? ⟨w4.heap.size, 1, none⟩ = some (.slice A2 l.length c2) ∧ W.ownsRow (b2) 42 10 (.slice A2 l.length c2) (l.length) (hds l) ∧ W.ownsRow (b1) 42 10 (.slice A1 l.length c1) (l.length) (hds l) ∧ W.cell? ⟨w.heap.size, 0, none⟩ = some (.int .i64 m) ∧ W.cell? ⟨w.heap.size, 1, none⟩ = some (.slice A l.length c) ∧ Below w.heap.size w W) (by kernel_rfl) (by kernel_rfl) (by first | (with_reducible assumption) | (exact hS) | (exact ⟨hS.1, hS.2.1, hS.2.2.1, hS.2.2.2.1, hS.2.2.2.2.1, hS.2.2.2.2.2.1, (by go_grown)⟩) | (exact ⟨(by first | (with_reducible assumption) | (simp [go_sem]; done) | ((simp only [go_sem]); (with_reducible assumption)) | ((refine keep_cell ?_ (by with_reducible assumption)); go_grown; done) | (simp [go_sem, *]; done)), (by first | (with_reducible assumption) | (simp [go_sem]; done) | ((simp only [go_sem]); (with_reducible assumption)) | ((refine keep_cell ?_ (by with_reducible assumption)); go_grown; done) | (simp [go_sem, *]; done)), (by first | (with_reducible assumption) | (exact World.ownsRow.alloc (by with_reducible assumption) _) | ((refine own_below (by with_reducible assumption) ?_); go_grown)), (by first | (with_reducible assumption) | (exact World.ownsRow.alloc (by with_reducible assumption) _) | ((refine own_below (by with_reducible assumption) ?_); go_grown)), (by first | (with_reducible assumption) | (simp [go_sem]; done) | ((simp only [go_sem]); (with_reducible assumption)) | ((refine keep_cell ?_ (by with_reducible assumption)); go_grown; done) | (simp [go_sem, *]; done)), (by first | (with_reducible assumption) | (simp [go_sem]; done) | ((simp only [go_sem]); (with_reducible assumption)) | ((refine keep_cell ?_ (by with_reducible assumption)); go_grown; done) | (simp [go_sem, *]; done)), (by go_grown)⟩)) ?_
  simp only [byNum, List.getElem?_cons_zero, List.getElem?_cons_succ]
  repeat (first
    | ((refine seq_skip (by rfl) (by rfl) ?_); simp only [Act.put, List.setIfInBounds_toArray, List.set_cons_zero, List.set_cons_succ])
    | ((refine seq_val (v := ?_) (by rfl) (by rfl) (fun w hS => ?_) ?_); rotate_left; (focus ((try dsimp only at hS); go_simp; (try (with_reducible rfl)); done)); simp only [Act.put, List.setIfInBounds_toArray, List.set_cons_zero, List.set_cons_succ]))
  have hP := hS
  refine seq_call (f := ?_) (args := ?_) (by rfl) (by rfl) ?_ ?_
  rotate_left
  rotate_left
  focus (go_simp; (constructor <;> (with_reducible rfl)); done)
  refine (toReceiver_c m A c l _ (hide (reads_below h1.out (by go_grown))) (by omega)).mono ?_
  rintro e w7 ⟨A3, c3, rfl, ho3, hb⟩
  obtain ⟨b3, ho3, hbk3⟩ := own_based ho3 (m := w6.heap.size) (by first | omega | (simp; done) | (simp; omega))
  have ne1_3 := own_ne (hP.2.2.2.1) ho3 hbk3
  have ne2_3 := own_ne (hP.2.2.1) ho3 hbk3
  clear hP
  have hT : w7.ownsRow (b3) 42 10 (.slice A3 l.length c3) (l.length) (hds l) ∧ w7.cell? ⟨w4.heap.size, 0, none⟩ = some (.int .i64 m) ∧ w7.cell? ⟨w4.heap.size, 1, none⟩ = some (.slice A2 l.length c2) ∧ w7.ownsRow (b2) 42 10 (.slice A2 l.length c2) (l.length) (hds l) ∧ w7.ownsRow (b1) 42 10 (.slice A1 l.length c1) (l.length) (hds l) ∧ w7.cell? ⟨w.heap.size, 0, none⟩ = some (.int .i64 m) ∧ w7.cell? ⟨w.heap.size, 1, none⟩ = some (.slice A l.length c) ∧ Below w.heap.size w w7 := ⟨ho3, (fun W h hb => ⟨keep_cell (hb) h.1, keep_cell (hb) h.2.1, own_below h.2.2.1 (hb), own_below h.2.2.2.1 (hb), keep_cell (hb) h.2.2.2.2.1, keep_cell (hb) h.2.2.2.2.2.1, below_via h.2.2.2.2.2.2 (hb)⟩ : ∀ W : World, (W.cell? ⟨w4.heap.size, 0, none⟩ = some (.int .i64 m) ∧ W.cell? ⟨w4.heap.size, 1, none⟩ = some (.slice A2 l.length c2) ∧ W.ownsRow (b2) 42 10 (.slice A2 l.length c2) (l.length) (hds l) ∧ W.ownsRow (b1) 42 10 (.slice A1 l.length c1) (l.length) (hds l) ∧ W.cell? ⟨w.heap.size, 0, none⟩ = some (.int .i64 m) ∧ W.cell? ⟨w.heap.size, 1, none⟩ = some (.slice A l.length c) ∧ Below w.heap.size w W) → Below W.heap.size W w7 → (w7.cell? ⟨w4.heap.size, 0, none⟩ = some (.int .i64 m) ∧ w7.cell? ⟨w4.heap.size, 1, none⟩ = some (.slice A2 l.length c2) ∧ w7.ownsRow (b2) 42 10 (.slice A2 l.length c2) (l.length) (hds l) ∧ w7.ownsRow (b1) 42 10 (.slice A1 l.length c1) (l.length) (hds l) ∧ w7.cell? ⟨w.heap.size, 0, none⟩ = some (.int .i64 m) ∧ w7.cell? ⟨w.heap.size, 1, none⟩ = some (.slice A l.length c) ∧ Below w.heap.size w w7)) _ (by first | (with_reducible assumption) | (exact hS) | (exact ⟨hS.1, hS.2.1, hS.2.2.1, hS.2.2.2.1, hS.2.2.2.2.1, hS.2.2.2.2.2.1, (by go_grown)⟩) | (exact ⟨(by first | (with_reducible assumption) | (simp [go_sem]; done) | ((simp only [go_sem]); (with_reducible assumption)) | ((refine keep_cell ?_ (by with_reducible assumption)); go_grown; done) | (simp [go_sem, *]; done)), (by first | (with_reducible assumption) | (simp [go_sem]; done) | ((simp only [go_sem]); (with_reducible assumption)) | ((refine keep_cell ?_ (by with_reducible assumption)); go_grown; done) | (simp [go_sem, *]; done)), (by first | (with_reducible assumption) | (exact World.ownsRow.alloc (by with_reducible assumption) _) | ((refine own_below (by with_reducible assumption) ?_); go_grown)), (by first | (with_reducible assumption) | (exact World.ownsRow.alloc (by with_reducible assumption) _) | ((refine own_below (by with_reducible assumption) ?_); go_grown)), (by first | (with_reducible assumption) | (simp [go_sem]; done) | ((simp only [go_sem]); (with_reducible assumption)) | ((refine keep_cell ?_ (by with_reducible assumption)); go_grown; done) | (simp [go_sem, *]; done)), (by first | (with_reducible assumption) | (simp [go_sem]; done) | ((simp only [go_sem]); (with_reducible assumption)) | ((refine keep_cell ?_ (by with_reducible assumption)); go_grown; done) | (simp [go_sem, *]; done)), (by go_grown)⟩)) hb⟩
  (try clear hS)
  have hS := hT
  clear hT
  have hB := hS.2.2.2.2.2.2.2
  have hzw : w.heap.size ≤ w7.heap.size := hB.size
  have hz1 : w4.heap.size < w7.heap.size := World.block_lt_of_cell? w7 _ (hS.2.1)
  have hz2 : w.heap.size < w7.heap.size := World.block_lt_of_cell? w7 _ (hS.2.2.2.2.2.1)
  clear hb
  refine ⟨_, rfl, (fun W => W.ownsRow (b3) 42 10 (.slice A3 l.length c3) (l.length) (hds l) ∧ W.cell? ⟨w4.heap.size, 0, none⟩ = some (.int .i64 m) ∧ W.cell? ⟨w4.heap.size, 1, none⟩ = some (.slice A2 l.length c2) ∧ W.ownsRow (b2) 42 10 (.slice A2 l.length c2) (l.length) (hds l) ∧ W.ownsRow (b1) 42 10 (.slice A1 l.length c1) (l.length) (hds l) ∧ W.cell? ⟨w.heap.size, 0, none⟩ = some (.int .i64 m) ∧ W.cell? ⟨w.heap.size, 1, none⟩ = some (.slice A l.length c) ∧ Below w.heap.size w W), hS, (fun W h => h.2), ?_⟩
  simp only [Act.put, List.setIfInBounds_toArray, List.set_cons_zero, List.set_cons_succ]
  repeat (first
    | ((refine seq_skip (by rfl) (by rfl) ?_); simp only [Act.put, List.setIfInBounds_toArray, List.set_cons_zero, List.set_cons_succ])
    | ((refine seq_val (v := ?_) (by rfl) (by rfl) (fun w hS => ?_) ?_); rotate_left; (focus ((try dsimp only at hS); go_simp; (try (with_reducible rfl)); done)); simp only [Act.put, List.setIfInBounds_toArray, List.set_cons_zero, List.set_cons_succ]))
  have hP := hS
  refine seq_call (f := ?_) (args := ?_) (by rfl) (by rfl) ?_ ?_
  rotate_left
  rotate_left
  focus (go_simp; (constructor <;> (with_reducible rfl)); done)
  refine (eqReceiver_c _ _ _ _ _ (l) _ (hide (own_reads (hS.2.2.2.1))) (hide (own_reads (hS.1))) (by omega)).mono ?_
  rintro e w8 ⟨rfl, hb⟩
  clear hP
  have hT : w8.ownsRow (b3) 42 10 (.slice A3 l.length c3) (l.length) (hds l) ∧ w8.cell? ⟨w4.heap.size, 0, none⟩ = some (.int .i64 m) ∧ w8.cell? ⟨w4.heap.size, 1, none⟩ = some (.slice A2 l.length c2) ∧ w8.ownsRow (b2) 42 10 (.slice A2 l.length c2) (l.length) (hds l) ∧ w8.ownsRow (b1) 42 10 (.slice A1 l.length c1) (l.length) (hds l) ∧ w8.cell? ⟨w.heap.size, 0, none⟩ = some (.int .i64 m) ∧ w8.cell? ⟨w.heap.size, 1, none⟩ = some (.slice A l.length c) ∧ Below w.heap.size w w8 := (fun W h hb => ⟨own_below h.1 (hb), keep_cell (hb) h.2.1, keep_cell (hb) h.2.2.1, own_below h.2.2.2.1 (hb), own_below h.2.2.2.2.1 (hb), keep_cell (hb) h.2.2.2.2.2.1, keep_cell (hb) h.2.2.2.2.2.2.1, below_via h.2.2.2.2.2.2.2 (hb)⟩ : ∀ W : World, (W.ownsRow (b3) 42 10 (.slice A3 l.length c3) (l.length) (hds l) ∧ W.cell? ⟨w4.heap.size, 0, none⟩ = some (.int .i64 m) ∧ W.cell? ⟨w4.heap.size, 1, none⟩ = some (.slice A2 l.length c2) ∧ W.ownsRow (b2) 42 10 (.slice A2 l.length c2) (l.length) (hds l) ∧ W.ownsRow (b1) 42 10 (.slice A1 l.length c1) (l.length) (hds l) ∧ W.cell? ⟨w.heap.size, 0, none⟩ = some (.int .i64 m) ∧ W.cell? ⟨w.heap.size, 1, none⟩ = some (.slice A l.length c) ∧ Below w.heap.size w W) → Below W.heap.size W w8 → (w8.ownsRow (b3) 42 10 (.slice A3 l.length c3) (l.length) (hds l) ∧ w8.cell? ⟨w4.heap.size, 0, none⟩ = some (.int .i64 m) ∧ w8.cell? ⟨w4.heap.size, 1, none⟩ = some (.slice A2 l.length c2) ∧ w8.ownsRow (b2) 42 10 (.slice A2 l.length c2) (l.length) (hds l) ∧ w8.ownsRow (b1) 42 10 (.slice A1 l.length c1) (l.length) (hds l) ∧ w8.cell? ⟨w.heap.size, 0, none⟩ = some (.int .i64 m) ∧ w8.cell? ⟨w.heap.size, 1, none⟩ = some (.slice A l.length c) ∧ Below w.heap.size w w8)) _ (by first | (with_reducible assumption) | (exact hS) | (exact ⟨hS.1, hS.2.1, hS.2.2.1, hS.2.2.2.1, hS.2.2.2.2.1, hS.2.2.2.2.2.1, hS.2.2.2.2.2.2.1, (by go_grown)⟩) | (exact ⟨(by first | (with_reducible assumption) | (exact World.ownsRow.alloc (by with_reducible assumption) _) | ((refine own_below (by with_reducible assumption) ?_); go_grown)), (by first | (with_reducible assumption) | (simp [go_sem]; done) | ((simp only [go_sem]); (with_reducible assumption)) | ((refine keep_cell ?_ (by with_reducible assumption)); go_grown; done) | (simp [go_sem, *]; done)), (by first | (with_reducible assumption) | (simp [go_sem]; done) | ((simp only [go_sem]); (with_reducible assumption)) | ((refine keep_cell ?_ (by with_reducible assumption)); go_grown; done) | (simp [go_sem, *]; done)), (by first | (with_reducible assumption) | (exact World.ownsRow.alloc (by with_reducible assumption) _) | ((refine own_below (by with_reducible assumption) ?_); go_grown)), (by first | (with_reducible assumption) | (exact World.ownsRow.alloc (by with_reducible assumption) _) | ((refine own_below (by with_reducible assumption) ?_); go_grown)), (by first | (with_reducible assumption) | (simp [go_sem]; done) | ((simp only [go_sem]); (with_reducible assumption)) | ((refine keep_cell ?_ (by with_reducible assumption)); go_grown; done) | (simp [go_sem, *]; done)), (by first | (with_reducible assumption) | (simp [go_sem]; done) | ((simp only [go_sem]); (with_reducible assumption)) | ((refine keep_cell ?_ (by with_reducible assumption)); go_grown; done) | (simp [go_sem, *]; done)), (by go_grown)⟩)) hb
  (try clear hS)
  have hS := hT
  clear hT
  have hB := hS.2.2.2.2.2.2.2
  have hzw : w.heap.size ≤ w8.heap.size := hB.size
  have hz1 : w4.heap.size < w8.heap.size := World.block_lt_of_cell? w8 _ (hS.2.1)
  have hz2 : w.heap.size < w8.heap.size := World.block_lt_of_cell? w8 _ (hS.2.2.2.2.2.1)
  clear hb
  refine ⟨_, rfl, (fun W => W.ownsRow (b3) 42 10 (.slice A3 l.length c3) (l.length) (hds l) ∧ W.cell? ⟨w4.heap.size, 0, none⟩ = some (.int .i64 m) ∧ W.cell? ⟨w4.heap.size, 1, none⟩ = some (.slice A2 l.length c2) ∧ W.ownsRow (b2) 42 10 (.slice A2 l.length c2) (l.length) (hds l) ∧ W.ownsRow (b1) 42 10 (.slice A1 l.length c1) (l.length) (hds l) ∧ W.cell? ⟨w.heap.size, 0, none⟩ = some (.int .i64 m) ∧ W.cell? ⟨w.heap.size, 1, none⟩ = some (.slice A l.length c) ∧ Below w.heap.size w W), hS, (fun W h => h), ?_⟩
  simp only [Act.put, List.setIfInBounds_toArray, List.set_cons_zero, List.set_cons_succ]
  repeat (first
    | ((refine seq_skip (by rfl) (by rfl) ?_); simp only [Act.put, List.setIfInBounds_toArray, List.set_cons_zero, List.set_cons_succ])
    | ((refine seq_val (v := ?_) (by rfl) (by rfl) (fun w hS => ?_) ?_); rotate_left; (focus ((try dsimp only at hS); go_simp; (try (with_reducible rfl)); done)); simp only [Act.put, List.setIfInBounds_toArray, List.set_cons_zero, List.set_cons_succ]))
  refine seq_nil ?_
  go_wp2
  go_returns
  exact ⟨ret_eq (by simp), hB⟩
end Go.Proofs.Ytbeojfhakmbacaa
