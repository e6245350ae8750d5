/- What is proved here is used by the law below: contracts of functions and plain lemmas (part 16 of 17). Their conditions stand in each. -/
import Derived.Test.YtbeojfhakmbacaaFinRiaa
import Derived.Test.YtbeojfhakmbacaaFinRiao
namespace Go.Proofs.Ytbeojfhakmbacaa
open Go.RowKit
set_option maxRecDepth 100000 in
set_option maxHeartbeats 8000000 in
theorem drawPosNow_c (A : Option Addr) (n c : Nat) (w : World) (h1 : Hid (CodeOk w A n)) (hn : n ≤ 65536)  : Calls Try.prog 23 #[.slice A n c] w (DrawsRI w) := by
  go_enter Try.func23, Try.ntmps23
  go_wp2_with fail
  refine (receiver_c (w.heap.size + 1) (0) _ (hide (cur_new (h1.out.below (by go_grown)) hn (by first | rfl | (simp; done)) 0)) (by omega)).mono ?_
  rintro e w1 ⟨_, rfl, ⟨m, l, AR, cR, rfl, hrow, hl9, hm0, hm1⟩, hcn, hgn⟩
  have hT : Cur w1 (w.heap.size + 1) (0 + 280) ∧ (w.heap.size < w1.heap.size ∧ ∀ i, w1.frozen? ⟨w.heap.size, i, none⟩ = false) ∧ w1.cell? ⟨w.heap.size, 0, none⟩ = some (.int .i64 (0)) ∧ w1.cell? ⟨w.heap.size, 1, none⟩ = some (.slice none 0 0) ∧ Below w.heap.size w w1 := (fun W h hgn => ⟨hcn, fre_gb (h.2.1) hgn (by intro e; injection e with e; (try dsimp only at e); omega), hgn.cell (h.2.2.1) (by intro e; injection e with e; (try dsimp only at e); omega), hgn.cell (h.2.2.2.1) (by intro e; injection e with e; (try dsimp only at e); omega), below_gb (h.2.2.2.2) hgn (h.2.2.2.2).size (by first | omega | (simp; done) | (simp; omega))⟩ : ∀ W : World, (Cur W (w.heap.size + 1) (0) ∧ (w.heap.size < W.heap.size ∧ ∀ i, W.frozen? ⟨w.heap.size, i, none⟩ = false) ∧ W.cell? ⟨w.heap.size, 0, none⟩ = some (.int .i64 (0)) ∧ W.cell? ⟨w.heap.size, 1, none⟩ = some (.slice none 0 0) ∧ Below w.heap.size w W) → W.grownBy w1 (some (w.heap.size + 1)) → (Cur w1 (w.heap.size + 1) (0 + 280) ∧ (w.heap.size < w1.heap.size ∧ ∀ i, w1.frozen? ⟨w.heap.size, i, none⟩ = false) ∧ w1.cell? ⟨w.heap.size, 0, none⟩ = some (.int .i64 (0)) ∧ w1.cell? ⟨w.heap.size, 1, none⟩ = some (.slice none 0 0) ∧ Below w.heap.size w w1)) _ ⟨(cur_new (h1.out.below (by go_grown)) hn (by first | rfl | (simp; done)) 0), (by first | (with_reducible assumption) | (simp [go_sem]; done) | (refine keep_fre ?_ ⟨by with_reducible assumption, by with_reducible assumption⟩; go_grown; done) | (simp [go_sem, *]; done)), (by first | (with_reducible assumption) | (simp [go_sem]; done) | ((simp only [go_sem]); (with_reducible assumption)) | ((refine keep_cell ?_ (by with_reducible assumption)); go_grown; done) | (simp [go_sem, *]; done) | (rw [World.cell?_setCell_other _ _ _ _ (by simp; omega)]; with_reducible assumption) | (rw [World.cell?_setCell_other _ _ _ _ (by simp; omega), World.cell?_setCell_other _ _ _ _ (by simp; omega)]; with_reducible assumption)), (by first | (with_reducible assumption) | (simp [go_sem]; done) | ((simp only [go_sem]); (with_reducible assumption)) | ((refine keep_cell ?_ (by with_reducible assumption)); go_grown; done) | (simp [go_sem, *]; done) | (rw [World.cell?_setCell_other _ _ _ _ (by simp; omega)]; with_reducible assumption) | (rw [World.cell?_setCell_other _ _ _ _ (by simp; omega), World.cell?_setCell_other _ _ _ _ (by simp; omega)]; with_reducible assumption)), (by go_grown)⟩ hgn
  (try clear hS)
  have hS := hT
  clear hT hcn hgn
  have hS2 := hS
  obtain ⟨hq0, ⟨f0, fr0⟩, q1, q2, hF⟩ := hS2
  have hgl : w.heap.size + 1 < w1.heap.size := hq0.lt
  have hzw : w.heap.size ≤ w1.heap.size := hF.size
  have hB := hF
  have hz1 : w.heap.size < w1.heap.size := World.block_lt_of_cell? w1 _ q1
  have hT : Cur w1 (w.heap.size + 1) (0 + 280) ∧ (w.heap.size < w1.heap.size ∧ ∀ i, w1.frozen? ⟨w.heap.size, i, none⟩ = false) ∧ w1.cell? ⟨w.heap.size, 0, none⟩ = some (.int .i64 (0)) ∧ w1.cell? ⟨w.heap.size, 1, none⟩ = some (.slice none 0 0) ∧ w1.ownsRow (w.heap.size + 2) 42 10 (.slice AR l.length cR) (l.length) (hds l) ∧ Below w.heap.size w w1 := ⟨hS.1, hS.2.1, hS.2.2.1, hS.2.2.2.1, own_mono hrow (by first | omega | (simp; done) | (simp; omega)), hS.2.2.2.2⟩
  clear hS
  have hS := hT
  clear hT
  have hS2 := hS
  obtain ⟨hq0, ⟨f0, fr0⟩, q1, q2, q3, hF⟩ := hS2
  have hgl : w.heap.size + 1 < w1.heap.size := hq0.lt
  have hzw : w.heap.size ≤ w1.heap.size := hF.size
  have hB := hF
  have hz1 : w.heap.size < w1.heap.size := World.block_lt_of_cell? w1 _ q1
  clear hrow
  have hrw9 := q3
  go_upto_region 3 with fail
  obtain ⟨T, hN9⟩ : ∃ q, w1.heap.size = q := ⟨_, rfl⟩
  obtain ⟨w2, hw9⟩ : ∃ W, World.alloc w1 (.cells #[.int .i64 m, .slice AR l.length cR] 26) = W := ⟨_, rfl⟩
  rw [hw9, hN9]
  have hTn : (Value.slice AR l.length cR).ownBlock ≠ some T := fun e => by have h8 := (hrw9.lt _ e).2; omega
  clear hrw9
  have hb : Below w1.heap.size w1 w2 := by rw [← hw9]; go_grown
  have hgT : w.heap.size + 1 < T := by rw [← hN9]; exact hS.1.lt
  have hT : Cur w2 (w.heap.size + 1) (0 + 280) ∧ (w.heap.size < w2.heap.size ∧ ∀ i, w2.frozen? ⟨w.heap.size, i, none⟩ = false) ∧ w2.cell? ⟨w.heap.size, 0, none⟩ = some (.int .i64 (0)) ∧ w2.cell? ⟨w.heap.size, 1, none⟩ = some (.slice none 0 0) ∧ w2.ownsRow (w.heap.size + 2) 42 10 (.slice AR l.length cR) (l.length) (hds l) ∧ (T < w2.heap.size ∧ ∀ i, w2.frozen? ⟨T, i, none⟩ = false) ∧ w2.cell? ⟨T, 0, none⟩ = some (.int .i64 m) ∧ w2.cell? ⟨T, 1, none⟩ = some (.slice AR l.length cR) ∧ Below w.heap.size w w2 := ⟨hS.1.below hb, keep_fre hb (hS.2.1), keep_cell hb (hS.2.2.1), keep_cell hb (hS.2.2.2.1), own_below (hS.2.2.2.2.1) hb, ⟨by rw [← hw9, ← hN9]; simp, by rw [← hw9, ← hN9]; simp [go_sem]⟩, by rw [← hw9, ← hN9]; simp [go_sem], by rw [← hw9, ← hN9]; simp [go_sem], below_via (hS.2.2.2.2.2) hb⟩
  clear hS hb hw9 hN9
  have hS := hT
  clear hT
  have hS2 := hS
  obtain ⟨hq0, ⟨f0, fr0⟩, q1, q2, q3, ⟨f4, fr4⟩, q5, q6, hF⟩ := hS2
  have hgl : w.heap.size + 1 < w2.heap.size := hq0.lt
  have hzw : w.heap.size ≤ w2.heap.size := hF.size
  have hB := hF
  have hz1 : w.heap.size < w2.heap.size := World.block_lt_of_cell? w2 _ q1
  have hz2 : T < w2.heap.size := World.block_lt_of_cell? w2 _ q5
  go_wp2_with fail
  refine (place_c (w.heap.size + 1) (0 + 280) _ (hide (by repeat' (first | (with_reducible exact hS.1) | (with_reducible refine Cur.drew ?_) | (with_reducible refine Cur.alloc ?_ _) | (with_reducible refine Cur.setc ?_ (by first | omega | (simp; done) | (simp; omega)) _)))) (by omega)).mono ?_
  rintro e w3 ⟨_, rfl, ⟨x, y, rfl, ⟨x0, x1⟩, y0, y1⟩, hcn, hgn⟩
  have hT : Cur w3 (w.heap.size + 1) (0 + 288) ∧ (w.heap.size < w3.heap.size ∧ ∀ i, w3.frozen? ⟨w.heap.size, i, none⟩ = false) ∧ w3.cell? ⟨w.heap.size, 0, none⟩ = some (.int .i64 (0)) ∧ w3.cell? ⟨w.heap.size, 1, none⟩ = some (.slice none 0 0) ∧ w3.ownsRow (w.heap.size + 2) 42 10 (.slice AR l.length cR) (l.length) (hds l) ∧ (T < w3.heap.size ∧ ∀ i, w3.frozen? ⟨T, i, none⟩ = false) ∧ w3.cell? ⟨T, 0, none⟩ = some (.int .i64 m) ∧ w3.cell? ⟨T, 1, none⟩ = some (.slice AR l.length cR) ∧ Below w.heap.size w w3 := (fun W h hgn => ⟨hcn, fre_gb (h.2.1) hgn (by intro e; injection e with e; (try dsimp only at e); omega), hgn.cell (h.2.2.1) (by intro e; injection e with e; (try dsimp only at e); omega), hgn.cell (h.2.2.2.1) (by intro e; injection e with e; (try dsimp only at e); omega), World.ownsRow.kept (h.2.2.2.2.1) hgn (own_far (h.2.2.2.2.1) (by first | omega | (simp; done) | (simp; omega))), fre_gb (h.2.2.2.2.2.1) hgn (by intro e; injection e with e; (try dsimp only at e); omega), hgn.cell (h.2.2.2.2.2.2.1) (by intro e; injection e with e; (try dsimp only at e); omega), hgn.cell (h.2.2.2.2.2.2.2.1) (by intro e; injection e with e; (try dsimp only at e); omega), below_gb (h.2.2.2.2.2.2.2.2) hgn (h.2.2.2.2.2.2.2.2).size (by first | omega | (simp; done) | (simp; omega))⟩ : ∀ W : World, (Cur W (w.heap.size + 1) (0 + 280) ∧ (w.heap.size < W.heap.size ∧ ∀ i, W.frozen? ⟨w.heap.size, i, none⟩ = false) ∧ W.cell? ⟨w.heap.size, 0, none⟩ = some (.int .i64 (0)) ∧ W.cell? ⟨w.heap.size, 1, none⟩ = some (.slice none 0 0) ∧ W.ownsRow (w.heap.size + 2) 42 10 (.slice AR l.length cR) (l.length) (hds l) ∧ (T < W.heap.size ∧ ∀ i, W.frozen? ⟨T, i, none⟩ = false) ∧ W.cell? ⟨T, 0, none⟩ = some (.int .i64 m) ∧ W.cell? ⟨T, 1, none⟩ = some (.slice AR l.length cR) ∧ Below w.heap.size w W) → W.grownBy w3 (some (w.heap.size + 1)) → (Cur w3 (w.heap.size + 1) (0 + 288) ∧ (w.heap.size < w3.heap.size ∧ ∀ i, w3.frozen? ⟨w.heap.size, i, none⟩ = false) ∧ w3.cell? ⟨w.heap.size, 0, none⟩ = some (.int .i64 (0)) ∧ w3.cell? ⟨w.heap.size, 1, none⟩ = some (.slice none 0 0) ∧ w3.ownsRow (w.heap.size + 2) 42 10 (.slice AR l.length cR) (l.length) (hds l) ∧ (T < w3.heap.size ∧ ∀ i, w3.frozen? ⟨T, i, none⟩ = false) ∧ w3.cell? ⟨T, 0, none⟩ = some (.int .i64 m) ∧ w3.cell? ⟨T, 1, none⟩ = some (.slice AR l.length cR) ∧ Below w.heap.size w w3)) _ ⟨(by repeat' (first | (with_reducible exact hS.1) | (with_reducible refine Cur.drew ?_) | (with_reducible refine Cur.alloc ?_ _) | (with_reducible refine Cur.setc ?_ (by first | omega | (simp; done) | (simp; omega)) _))), (by first | (with_reducible assumption) | (simp [go_sem]; done) | (refine keep_fre ?_ ⟨by with_reducible assumption, by with_reducible assumption⟩; go_grown; done) | (simp [go_sem, *]; done)), (by first | (with_reducible assumption) | (simp [go_sem]; done) | ((simp only [go_sem]); (with_reducible assumption)) | ((refine keep_cell ?_ (by with_reducible assumption)); go_grown; done) | (simp [go_sem, *]; done) | (rw [World.cell?_setCell_other _ _ _ _ (by simp; omega)]; with_reducible assumption) | (rw [World.cell?_setCell_other _ _ _ _ (by simp; omega), World.cell?_setCell_other _ _ _ _ (by simp; omega)]; with_reducible assumption)), (by first | (with_reducible assumption) | (simp [go_sem]; done) | ((simp only [go_sem]); (with_reducible assumption)) | ((refine keep_cell ?_ (by with_reducible assumption)); go_grown; done) | (simp [go_sem, *]; done) | (rw [World.cell?_setCell_other _ _ _ _ (by simp; omega)]; with_reducible assumption) | (rw [World.cell?_setCell_other _ _ _ _ (by simp; omega), World.cell?_setCell_other _ _ _ _ (by simp; omega)]; with_reducible assumption)), (by first | (with_reducible assumption) | (exact hS.2.2.2.2.1) | ((refine own_below (by with_reducible assumption) ?_); go_grown)), (by first | (with_reducible assumption) | (simp [go_sem]; done) | (refine keep_fre ?_ ⟨by with_reducible assumption, by with_reducible assumption⟩; go_grown; done) | (simp [go_sem, *]; done)), (by first | (with_reducible assumption) | (simp [go_sem]; done) | ((simp only [go_sem]); (with_reducible assumption)) | ((refine keep_cell ?_ (by with_reducible assumption)); go_grown; done) | (simp [go_sem, *]; done) | (rw [World.cell?_setCell_other _ _ _ _ (by simp; omega)]; with_reducible assumption) | (rw [World.cell?_setCell_other _ _ _ _ (by simp; omega), World.cell?_setCell_other _ _ _ _ (by simp; omega)]; with_reducible assumption)), (by first | (with_reducible assumption) | (simp [go_sem]; done) | ((simp only [go_sem]); (with_reducible assumption)) | ((refine keep_cell ?_ (by with_reducible assumption)); go_grown; done) | (simp [go_sem, *]; done) | (rw [World.cell?_setCell_other _ _ _ _ (by simp; omega)]; with_reducible assumption) | (rw [World.cell?_setCell_other _ _ _ _ (by simp; omega), World.cell?_setCell_other _ _ _ _ (by simp; omega)]; with_reducible assumption)), (by go_grown)⟩ hgn
  (try clear hS)
  have hS := hT
  clear hT hcn hgn
  have hS2 := hS
  obtain ⟨hq0, ⟨f0, fr0⟩, q1, q2, q3, ⟨f4, fr4⟩, q5, q6, hF⟩ := hS2
  have hgl : w.heap.size + 1 < w3.heap.size := hq0.lt
  have hzw : w.heap.size ≤ w3.heap.size := hF.size
  have hB := hF
  have hz1 : w.heap.size < w3.heap.size := World.block_lt_of_cell? w3 _ q1
  have hz2 : T < w3.heap.size := World.block_lt_of_cell? w3 _ q5
  go_upto_region 4 with fail
  obtain ⟨P, hN9⟩ : ∃ q, w3.heap.size = q := ⟨_, rfl⟩
  obtain ⟨w4, hw9⟩ : ∃ W, World.alloc w3 (.cells #[.int .i64 (x), .int .i64 (y)] 48) = W := ⟨_, rfl⟩
  rw [hw9, hN9]
  have hTP : T < P := by omega
  have hb : Below w3.heap.size w3 w4 := by rw [← hw9]; go_grown
  have hgP : w.heap.size + 1 < P := by rw [← hN9]; exact hS.1.lt
  have hT : Cur w4 (w.heap.size + 1) (0 + 288) ∧ (w.heap.size < w4.heap.size ∧ ∀ i, w4.frozen? ⟨w.heap.size, i, none⟩ = false) ∧ w4.cell? ⟨w.heap.size, 0, none⟩ = some (.int .i64 (0)) ∧ w4.cell? ⟨w.heap.size, 1, none⟩ = some (.slice none 0 0) ∧ w4.ownsRow (w.heap.size + 2) 42 10 (.slice AR l.length cR) (l.length) (hds l) ∧ (T < w4.heap.size ∧ ∀ i, w4.frozen? ⟨T, i, none⟩ = false) ∧ w4.cell? ⟨T, 0, none⟩ = some (.int .i64 m) ∧ w4.cell? ⟨T, 1, none⟩ = some (.slice AR l.length cR) ∧ (P < w4.heap.size ∧ ∀ i, w4.frozen? ⟨P, i, none⟩ = false) ∧ w4.cell? ⟨P, 0, none⟩ = some (.int .i64 (x)) ∧ w4.cell? ⟨P, 1, none⟩ = some (.int .i64 (y)) ∧ Below w.heap.size w w4 := ⟨hS.1.below hb, keep_fre hb (hS.2.1), keep_cell hb (hS.2.2.1), keep_cell hb (hS.2.2.2.1), own_below (hS.2.2.2.2.1) hb, keep_fre hb (hS.2.2.2.2.2.1), keep_cell hb (hS.2.2.2.2.2.2.1), keep_cell hb (hS.2.2.2.2.2.2.2.1), ⟨by rw [← hw9, ← hN9]; simp, by rw [← hw9, ← hN9]; simp [go_sem]⟩, by rw [← hw9, ← hN9]; simp [go_sem], by rw [← hw9, ← hN9]; simp [go_sem], below_via (hS.2.2.2.2.2.2.2.2) hb⟩
  clear hS hb hw9 hN9
  have hS := hT
  clear hT
  have hS2 := hS
  obtain ⟨hq0, ⟨f0, fr0⟩, q1, q2, q3, ⟨f4, fr4⟩, q5, q6, ⟨f7, fr7⟩, q8, q9, hF⟩ := hS2
  have hgl : w.heap.size + 1 < w4.heap.size := hq0.lt
  have hzw : w.heap.size ≤ w4.heap.size := hF.size
  have hB := hF
  have hz1 : w.heap.size < w4.heap.size := World.block_lt_of_cell? w4 _ q1
  have hz2 : T < w4.heap.size := World.block_lt_of_cell? w4 _ q5
  have hz3 : P < w4.heap.size := World.block_lt_of_cell? w4 _ q8
  go_wp2_with fail
  go_loopw [7] (fun iv wr => ∃ (i : Nat) (M : Int) (L : List Hd) (AL : Option Addr) (cL : Nat), i ≤ 2 ∧ iv = .int .i64 i ∧ (-1 ≤ M ∧ M ≤ 10000) ∧ L.length ≤ 9 + i ∧ (Value.slice AL L.length cL).ownBlock ≠ some T ∧ Hid (Cur wr (w.heap.size + 1) (0 + 288 + 2 * i)) ∧ Hid (wr.ownsRow (w.heap.size + 2) 42 10 (.slice AL L.length cL) L.length (hds L)) ∧ ((w.heap.size < wr.heap.size ∧ ∀ i, wr.frozen? ⟨w.heap.size, i, none⟩ = false) ∧ wr.cell? ⟨w.heap.size, 0, none⟩ = some (.int .i64 (0)) ∧ wr.cell? ⟨w.heap.size, 1, none⟩ = some (.slice none 0 0) ∧ (T < wr.heap.size ∧ ∀ i, wr.frozen? ⟨T, i, none⟩ = false) ∧ wr.cell? ⟨T, 0, none⟩ = some (.int .i64 (M)) ∧ wr.cell? ⟨T, 1, none⟩ = some (.slice AL L.length cL) ∧ (P < wr.heap.size ∧ ∀ i, wr.frozen? ⟨P, i, none⟩ = false) ∧ wr.cell? ⟨P, 0, none⟩ = some (.int .i64 (x)) ∧ wr.cell? ⟨P, 1, none⟩ = some (.int .i64 (y)) ∧ Below w.heap.size w wr)) (fun iv _ => 2 - (intOf iv).toNat)
  case atStart => exact ⟨0, m, l, AR, cR, by omega, rfl, ⟨hm0, hm1⟩, by omega, hTn, hide hq0, hide q3, ⟨f0, fr0⟩, q1, q2, ⟨f4, fr4⟩, q5, q6, ⟨f7, fr7⟩, q8, q9, hF⟩
  case round =>
    (try clear hS)
    (try clear hB)
    clear hq0 hF q1 q2 q3 q5 q6 q8 q9
    obtain ⟨i, M, L, AL, cL, hi, rfl, ⟨M0, M1⟩, hLi, hLT, HCU, HROW, hS⟩ := hrel
    have hzw : w.heap.size ≤ wr.heap.size := (hS.2.2.2.2.2.2.2.2.2).size
    by_cases hlt : i < 2
    rotate_left
    · obtain rfl : i = 2 := by omega
      have hS8 : Cur wr (w.heap.size + 1) (0 + 292) ∧ (w.heap.size < wr.heap.size ∧ ∀ i, wr.frozen? ⟨w.heap.size, i, none⟩ = false) ∧ wr.cell? ⟨w.heap.size, 0, none⟩ = some (.int .i64 (0)) ∧ wr.cell? ⟨w.heap.size, 1, none⟩ = some (.slice none 0 0) ∧ (T < wr.heap.size ∧ ∀ i, wr.frozen? ⟨T, i, none⟩ = false) ∧ wr.cell? ⟨T, 0, none⟩ = some (.int .i64 (M)) ∧ wr.cell? ⟨T, 1, none⟩ = some (.slice AL L.length cL) ∧ (P < wr.heap.size ∧ ∀ i, wr.frozen? ⟨P, i, none⟩ = false) ∧ wr.cell? ⟨P, 0, none⟩ = some (.int .i64 (x)) ∧ wr.cell? ⟨P, 1, none⟩ = some (.int .i64 (y)) ∧ wr.ownsRow (w.heap.size + 2) 42 10 (.slice AL L.length cL) (L.length) (hds L) ∧ Below w.heap.size w wr := ⟨(HCU.out).more (by omega), hS.1, hS.2.1, hS.2.2.1, hS.2.2.2.1, hS.2.2.2.2.1, hS.2.2.2.2.2.1, hS.2.2.2.2.2.2.1, hS.2.2.2.2.2.2.2.1, hS.2.2.2.2.2.2.2.2.1, HROW.out, hS.2.2.2.2.2.2.2.2.2⟩
      clear hS
      have hS := hS8
      clear hS8
      have hS2 := hS
      obtain ⟨hq0, ⟨f0, fr0⟩, q1, q2, ⟨f3, fr3⟩, q4, q5, ⟨f6, fr6⟩, q7, q8, q9, hF⟩ := hS2
      have hgl : w.heap.size + 1 < wr.heap.size := hq0.lt
      have hzw : w.heap.size ≤ wr.heap.size := hF.size
      have hB := hF
      have hz1 : w.heap.size < wr.heap.size := World.block_lt_of_cell? wr _ q1
      have hz2 : T < wr.heap.size := World.block_lt_of_cell? wr _ q4
      have hz3 : P < wr.heap.size := World.block_lt_of_cell? wr _ q7
      go_upto_region 11 with fail
      refine wp_region_seq deed [0, 1, 2, 3, 4, 5] (fun W => W.cell? ⟨T, 0, none⟩ = some (.int .i64 (M)) ∧ W.cell? ⟨T, 1, none⟩ = some (.slice AL L.length cL) ∧ Below w.heap.size w W) (by kernel_rfl) (by kernel_rfl) ⟨(by first | (with_reducible assumption) | (simp [go_sem]; done) | ((simp only [go_sem]); (with_reducible assumption)) | ((refine keep_cell ?_ (by with_reducible assumption)); go_grown; done) | (simp [go_sem, *]; done) | (rw [World.cell?_setCell_other _ _ _ _ (by simp; omega)]; with_reducible assumption) | (rw [World.cell?_setCell_other _ _ _ _ (by simp; omega), World.cell?_setCell_other _ _ _ _ (by simp; omega)]; with_reducible assumption)), (by first | (with_reducible assumption) | (simp [go_sem]; done) | ((simp only [go_sem]); (with_reducible assumption)) | ((refine keep_cell ?_ (by with_reducible assumption)); go_grown; done) | (simp [go_sem, *]; done) | (rw [World.cell?_setCell_other _ _ _ _ (by simp; omega)]; with_reducible assumption) | (rw [World.cell?_setCell_other _ _ _ _ (by simp; omega), World.cell?_setCell_other _ _ _ _ (by simp; omega)]; with_reducible assumption)), (by go_grown)⟩ ?_
      simp only [byNum, List.getElem?_cons_zero, List.getElem?_cons_succ]
      repeat (first
        | ((refine seq_skip (by rfl) (by rfl) ?_); simp only [Act.put, zp1, zp2, zp3])
        | ((refine seq_val (v := ?_) (by rfl) (by rfl) (fun w hS => ?_) ?_); rotate_left; (focus ((try dsimp only at hS); go_simp; (try (with_reducible rfl)); done)); simp only [Act.put, zp1, zp2, zp3]))
      refine seq_deed (v := ?_) (w' := ?_) (by rfl) (by rfl) ?_ ?_
      rotate_left
      rotate_left
      focus (go_simp; (constructor <;> (with_reducible rfl)); done)
      obtain ⟨w71, hw9⟩ : ∃ W, World.drew (World.alloc wr (.cells #[.int .i64 1, .int .i64 2, .int .i64 7, .int .i64 7, .int .i64 300, .int .i64 4] 3)) = W := ⟨_, rfl⟩
      rw [hw9]
      have hb : Below wr.heap.size wr w71 := by rw [← hw9]; go_grown
      have hT : Cur w71 (w.heap.size + 1) (0 + 292) ∧ (w.heap.size < w71.heap.size ∧ ∀ i, w71.frozen? ⟨w.heap.size, i, none⟩ = false) ∧ w71.cell? ⟨w.heap.size, 0, none⟩ = some (.int .i64 (0)) ∧ w71.cell? ⟨w.heap.size, 1, none⟩ = some (.slice none 0 0) ∧ (T < w71.heap.size ∧ ∀ i, w71.frozen? ⟨T, i, none⟩ = false) ∧ w71.cell? ⟨T, 0, none⟩ = some (.int .i64 (M)) ∧ w71.cell? ⟨T, 1, none⟩ = some (.slice AL L.length cL) ∧ (P < w71.heap.size ∧ ∀ i, w71.frozen? ⟨P, i, none⟩ = false) ∧ w71.cell? ⟨P, 0, none⟩ = some (.int .i64 (x)) ∧ w71.cell? ⟨P, 1, none⟩ = some (.int .i64 (y)) ∧ w71.ownsRow (w.heap.size + 2) 42 10 (.slice AL L.length cL) (L.length) (hds L) ∧ (∀ j, j < ([1, 2, 7, 7, 300, 4] : List Int).length → w71.cell? ((⟨wr.heap.size, 0, none⟩ : Addr).add j) = some (.int .i64 (nth [1, 2, 7, 7, 300, 4] j))) ∧ Below w.heap.size w w71 := ⟨hS.1.below hb, keep_fre hb (hS.2.1), keep_cell hb (hS.2.2.1), keep_cell hb (hS.2.2.2.1), keep_fre hb (hS.2.2.2.2.1), keep_cell hb (hS.2.2.2.2.2.1), keep_cell hb (hS.2.2.2.2.2.2.1), keep_fre hb (hS.2.2.2.2.2.2.2.1), keep_cell hb (hS.2.2.2.2.2.2.2.2.1), keep_cell hb (hS.2.2.2.2.2.2.2.2.2.1), own_below (hS.2.2.2.2.2.2.2.2.2.2.1) hb, (by rw [← hw9]; exact lit_at (by rfl) rfl), below_via (hS.2.2.2.2.2.2.2.2.2.2.2) hb⟩
      clear hS hb hw9
      have hS := hT
      clear hT
      have hS2 := hS
      obtain ⟨hq0, ⟨f0, fr0⟩, q1, q2, ⟨f3, fr3⟩, q4, q5, ⟨f6, fr6⟩, q7, q8, q9, q10, hF⟩ := hS2
      have hgl : w.heap.size + 1 < w71.heap.size := hq0.lt
      have hzw : w.heap.size ≤ w71.heap.size := hF.size
      have hB := hF
      have hz1 : w.heap.size < w71.heap.size := World.block_lt_of_cell? w71 _ q1
      have hz2 : T < w71.heap.size := World.block_lt_of_cell? w71 _ q4
      have hz3 : P < w71.heap.size := World.block_lt_of_cell? w71 _ q7
      refine ⟨(fun W => W.cell? ⟨T, 0, none⟩ = some (.int .i64 (M)) ∧ W.cell? ⟨T, 1, none⟩ = some (.slice AL L.length cL) ∧ Below w.heap.size w W), ⟨hS.2.2.2.2.2.1, hS.2.2.2.2.2.2.1, hS.2.2.2.2.2.2.2.2.2.2.2.2⟩, (fun W h => h), ?_⟩
      simp only [Act.put, zp1, zp2, zp3]
      repeat (first
        | ((refine seq_skip (by rfl) (by rfl) ?_); simp only [Act.put, zp1, zp2, zp3])
        | ((refine seq_val (v := ?_) (by rfl) (by rfl) (fun w hS => ?_) ?_); rotate_left; (focus ((try dsimp only at hS); go_simp; (try (with_reducible rfl)); done)); simp only [Act.put, zp1, zp2, zp3]))
      refine seq_call (f := ?_) (args := ?_) (by rfl) (by rfl) ?_ ?_
      rotate_left
      rotate_left
      focus (go_simp; (constructor <;> (with_reducible rfl)); done)
      refine (among_c (1) (300) [1, 2, 7, 7, 300, 4] _ _ (w.heap.size + 1) (0 + 292) _ (hide (by repeat' (first | (with_reducible exact hS.1) | (with_reducible refine Cur.drew ?_) | (with_reducible refine Cur.alloc ?_ _) | (with_reducible refine Cur.setc ?_ (by first | omega | (simp; done) | (simp; omega)) _)))) (by omega) (hide (by with_reducible assumption)) (by intro e; (try dsimp only at e); omega) ⟨by decide, by decide⟩ (hide (by decide))).mono ?_
      rintro e w72 ⟨_, rfl, ⟨x9, rfl, x90, x91⟩, hcn, hgn⟩
      have hT : Cur w72 (w.heap.size + 1) (0 + 294) ∧ (w.heap.size < w72.heap.size ∧ ∀ i, w72.frozen? ⟨w.heap.size, i, none⟩ = false) ∧ w72.cell? ⟨w.heap.size, 0, none⟩ = some (.int .i64 (0)) ∧ w72.cell? ⟨w.heap.size, 1, none⟩ = some (.slice none 0 0) ∧ (T < w72.heap.size ∧ ∀ i, w72.frozen? ⟨T, i, none⟩ = false) ∧ w72.cell? ⟨T, 0, none⟩ = some (.int .i64 (M)) ∧ w72.cell? ⟨T, 1, none⟩ = some (.slice AL L.length cL) ∧ (P < w72.heap.size ∧ ∀ i, w72.frozen? ⟨P, i, none⟩ = false) ∧ w72.cell? ⟨P, 0, none⟩ = some (.int .i64 (x)) ∧ w72.cell? ⟨P, 1, none⟩ = some (.int .i64 (y)) ∧ w72.ownsRow (w.heap.size + 2) 42 10 (.slice AL L.length cL) (L.length) (hds L) ∧ (∀ j, j < ([1, 2, 7, 7, 300, 4] : List Int).length → w72.cell? ((⟨wr.heap.size, 0, none⟩ : Addr).add j) = some (.int .i64 (nth [1, 2, 7, 7, 300, 4] j))) ∧ Below w.heap.size w w72 := (fun W h hgn => ⟨hcn, fre_gb (h.2.1) hgn (by intro e; injection e with e; (try dsimp only at e); omega), hgn.cell (h.2.2.1) (by intro e; injection e with e; (try dsimp only at e); omega), hgn.cell (h.2.2.2.1) (by intro e; injection e with e; (try dsimp only at e); omega), fre_gb (h.2.2.2.2.1) hgn (by intro e; injection e with e; (try dsimp only at e); omega), hgn.cell (h.2.2.2.2.2.1) (by intro e; injection e with e; (try dsimp only at e); omega), hgn.cell (h.2.2.2.2.2.2.1) (by intro e; injection e with e; (try dsimp only at e); omega), fre_gb (h.2.2.2.2.2.2.2.1) hgn (by intro e; injection e with e; (try dsimp only at e); omega), hgn.cell (h.2.2.2.2.2.2.2.2.1) (by intro e; injection e with e; (try dsimp only at e); omega), hgn.cell (h.2.2.2.2.2.2.2.2.2.1) (by intro e; injection e with e; (try dsimp only at e); omega), World.ownsRow.kept (h.2.2.2.2.2.2.2.2.2.2.1) hgn (own_far (h.2.2.2.2.2.2.2.2.2.2.1) (by first | omega | (simp; done) | (simp; omega))), (fun j hj => hgn.cell ((h.2.2.2.2.2.2.2.2.2.2.2.1) j hj) (by rw [block_of_add]; intro e; injection e with e; (try dsimp only at e); omega)), below_gb (h.2.2.2.2.2.2.2.2.2.2.2.2) hgn (h.2.2.2.2.2.2.2.2.2.2.2.2).size (by first | omega | (simp; done) | (simp; omega))⟩ : ∀ W : World, (Cur W (w.heap.size + 1) (0 + 292) ∧ (w.heap.size < W.heap.size ∧ ∀ i, W.frozen? ⟨w.heap.size, i, none⟩ = false) ∧ W.cell? ⟨w.heap.size, 0, none⟩ = some (.int .i64 (0)) ∧ W.cell? ⟨w.heap.size, 1, none⟩ = some (.slice none 0 0) ∧ (T < W.heap.size ∧ ∀ i, W.frozen? ⟨T, i, none⟩ = false) ∧ W.cell? ⟨T, 0, none⟩ = some (.int .i64 (M)) ∧ W.cell? ⟨T, 1, none⟩ = some (.slice AL L.length cL) ∧ (P < W.heap.size ∧ ∀ i, W.frozen? ⟨P, i, none⟩ = false) ∧ W.cell? ⟨P, 0, none⟩ = some (.int .i64 (x)) ∧ W.cell? ⟨P, 1, none⟩ = some (.int .i64 (y)) ∧ W.ownsRow (w.heap.size + 2) 42 10 (.slice AL L.length cL) (L.length) (hds L) ∧ (∀ j, j < ([1, 2, 7, 7, 300, 4] : List Int).length → W.cell? ((⟨wr.heap.size, 0, none⟩ : Addr).add j) = some (.int .i64 (nth [1, 2, 7, 7, 300, 4] j))) ∧ Below w.heap.size w W) → W.grownBy w72 (some (w.heap.size + 1)) → (Cur w72 (w.heap.size + 1) (0 + 294) ∧ (w.heap.size < w72.heap.size ∧ ∀ i, w72.frozen? ⟨w.heap.size, i, none⟩ = false) ∧ w72.cell? ⟨w.heap.size, 0, none⟩ = some (.int .i64 (0)) ∧ w72.cell? ⟨w.heap.size, 1, none⟩ = some (.slice none 0 0) ∧ (T < w72.heap.size ∧ ∀ i, w72.frozen? ⟨T, i, none⟩ = false) ∧ w72.cell? ⟨T, 0, none⟩ = some (.int .i64 (M)) ∧ w72.cell? ⟨T, 1, none⟩ = some (.slice AL L.length cL) ∧ (P < w72.heap.size ∧ ∀ i, w72.frozen? ⟨P, i, none⟩ = false) ∧ w72.cell? ⟨P, 0, none⟩ = some (.int .i64 (x)) ∧ w72.cell? ⟨P, 1, none⟩ = some (.int .i64 (y)) ∧ w72.ownsRow (w.heap.size + 2) 42 10 (.slice AL L.length cL) (L.length) (hds L) ∧ (∀ j, j < ([1, 2, 7, 7, 300, 4] : List Int).length → w72.cell? ((⟨wr.heap.size, 0, none⟩ : Addr).add j) = some (.int .i64 (nth [1, 2, 7, 7, 300, 4] j))) ∧ Below w.heap.size w w72)) _ ⟨(by repeat' (first | (with_reducible exact hS.1) | (with_reducible refine Cur.drew ?_) | (with_reducible refine Cur.alloc ?_ _) | (with_reducible refine Cur.setc ?_ (by first | omega | (simp; done) | (simp; omega)) _))), (by first | (with_reducible assumption) | (simp [go_sem]; done) | (refine keep_fre ?_ ⟨by with_reducible assumption, by with_reducible assumption⟩; go_grown; done) | (simp [go_sem, *]; done)), (by first | (with_reducible assumption) | (simp [go_sem]; done) | ((simp only [go_sem]); (with_reducible assumption)) | ((refine keep_cell ?_ (by with_reducible assumption)); go_grown; done) | (simp [go_sem, *]; done) | (rw [World.cell?_setCell_other _ _ _ _ (by simp; omega)]; with_reducible assumption) | (rw [World.cell?_setCell_other _ _ _ _ (by simp; omega), World.cell?_setCell_other _ _ _ _ (by simp; omega)]; with_reducible assumption)), (by first | (with_reducible assumption) | (simp [go_sem]; done) | ((simp only [go_sem]); (with_reducible assumption)) | ((refine keep_cell ?_ (by with_reducible assumption)); go_grown; done) | (simp [go_sem, *]; done) | (rw [World.cell?_setCell_other _ _ _ _ (by simp; omega)]; with_reducible assumption) | (rw [World.cell?_setCell_other _ _ _ _ (by simp; omega), World.cell?_setCell_other _ _ _ _ (by simp; omega)]; with_reducible assumption)), (by first | (with_reducible assumption) | (simp [go_sem]; done) | (refine keep_fre ?_ ⟨by with_reducible assumption, by with_reducible assumption⟩; go_grown; done) | (simp [go_sem, *]; done)), (by first | (with_reducible assumption) | (simp [go_sem]; done) | ((simp only [go_sem]); (with_reducible assumption)) | ((refine keep_cell ?_ (by with_reducible assumption)); go_grown; done) | (simp [go_sem, *]; done) | (rw [World.cell?_setCell_other _ _ _ _ (by simp; omega)]; with_reducible assumption) | (rw [World.cell?_setCell_other _ _ _ _ (by simp; omega), World.cell?_setCell_other _ _ _ _ (by simp; omega)]; with_reducible assumption)), (by first | (with_reducible assumption) | (simp [go_sem]; done) | ((simp only [go_sem]); (with_reducible assumption)) | ((refine keep_cell ?_ (by with_reducible assumption)); go_grown; done) | (simp [go_sem, *]; done) | (rw [World.cell?_setCell_other _ _ _ _ (by simp; omega)]; with_reducible assumption) | (rw [World.cell?_setCell_other _ _ _ _ (by simp; omega), World.cell?_setCell_other _ _ _ _ (by simp; omega)]; with_reducible assumption)), (by first | (with_reducible assumption) | (simp [go_sem]; done) | (refine keep_fre ?_ ⟨by with_reducible assumption, by with_reducible assumption⟩; go_grown; done) | (simp [go_sem, *]; done)), (by first | (with_reducible assumption) | (simp [go_sem]; done) | ((simp only [go_sem]); (with_reducible assumption)) | ((refine keep_cell ?_ (by with_reducible assumption)); go_grown; done) | (simp [go_sem, *]; done) | (rw [World.cell?_setCell_other _ _ _ _ (by simp; omega)]; with_reducible assumption) | (rw [World.cell?_setCell_other _ _ _ _ (by simp; omega), World.cell?_setCell_other _ _ _ _ (by simp; omega)]; with_reducible assumption)), (by first | (with_reducible assumption) | (simp [go_sem]; done) | ((simp only [go_sem]); (with_reducible assumption)) | ((refine keep_cell ?_ (by with_reducible assumption)); go_grown; done) | (simp [go_sem, *]; done) | (rw [World.cell?_setCell_other _ _ _ _ (by simp; omega)]; with_reducible assumption) | (rw [World.cell?_setCell_other _ _ _ _ (by simp; omega), World.cell?_setCell_other _ _ _ _ (by simp; omega)]; with_reducible assumption)), (by first | (with_reducible assumption) | (exact hS.2.2.2.2.2.2.2.2.2.2.1) | ((refine own_below (by with_reducible assumption) ?_); go_grown)), (by first | (with_reducible assumption) | (exact lit_at (by rfl) (by first | rfl | (with_reducible assumption) | simp))), (by go_grown)⟩ hgn
      (try clear hS)
      have hS := hT
      clear hT hcn hgn
      have hS2 := hS
      obtain ⟨hq0, ⟨f0, fr0⟩, q1, q2, ⟨f3, fr3⟩, q4, q5, ⟨f6, fr6⟩, q7, q8, q9, q10, hF⟩ := hS2
      have hgl : w.heap.size + 1 < w72.heap.size := hq0.lt
      have hzw : w.heap.size ≤ w72.heap.size := hF.size
      have hB := hF
      have hz1 : w.heap.size < w72.heap.size := World.block_lt_of_cell? w72 _ q1
      have hz2 : T < w72.heap.size := World.block_lt_of_cell? w72 _ q4
      have hz3 : P < w72.heap.size := World.block_lt_of_cell? w72 _ q7
  
      refine ⟨_, rfl, (fun W => W.cell? ⟨T, 0, none⟩ = some (.int .i64 (M)) ∧ W.cell? ⟨T, 1, none⟩ = some (.slice AL L.length cL) ∧ Below w.heap.size w W), ⟨hS.2.2.2.2.2.1, hS.2.2.2.2.2.2.1, hS.2.2.2.2.2.2.2.2.2.2.2.2⟩, (fun W h => h), ?_⟩
      simp only [Act.put, zp1, zp2, zp3]
      repeat (first
        | ((refine seq_skip (by rfl) (by rfl) ?_); simp only [Act.put, zp1, zp2, zp3])
        | ((refine seq_val (v := ?_) (by rfl) (by rfl) (fun w hS => ?_) ?_); rotate_left; (focus ((try dsimp only at hS); go_simp; (try (with_reducible rfl)); done)); simp only [Act.put, zp1, zp2, zp3]))
      have hrow := q9
      have hTR : T ≠ w.heap.size := by omega
      obtain ⟨X9, hX9⟩ : ∃ X, (w72.setCell ⟨w.heap.size, 0, none⟩ (.int .i64 (M))).setCell ⟨w.heap.size, 1, none⟩ (.slice AL L.length cL) = X := ⟨_, rfl⟩
      obtain ⟨_, _, d2, d3⟩ := box2_sets q1 q2 (.int .i64 (M)) (.slice AL L.length cL)
      rw [hX9] at d2 d3
      have hS9 : X9.cell? ⟨T, 0, none⟩ = some (.int .i64 (M)) ∧ X9.cell? ⟨T, 1, none⟩ = some (.slice AL L.length cL) ∧ Below w.heap.size w X9 := by rw [← hX9]; exact ⟨sc _ hTR (sc _ hTR q4), sc _ hTR (sc _ hTR q5), (hF.setCell (p := ⟨w.heap.size, 0, none⟩) (Nat.le_refl _) _).setCell (p := ⟨w.heap.size, 1, none⟩) (Nat.le_refl _) _⟩
      have hr9 := hide (own_set (own_set hrow (p := ⟨w.heap.size, 0, none⟩) (show w.heap.size < w.heap.size + 2 by omega) (.int .i64 (M))) (show w.heap.size < w.heap.size + 2 by omega) (.slice AL L.length cL) (p := ⟨w.heap.size, 1, none⟩))
      rw [hX9] at hr9
      refine seq_store (w' := X9) (by rfl) (by rfl) (by rw [← hX9]; go_simp; (try (with_reducible rfl)); done) ?_
      refine ⟨(fun W => W.cell? ⟨T, 0, none⟩ = some (.int .i64 (M)) ∧ W.cell? ⟨T, 1, none⟩ = some (.slice AL L.length cL) ∧ Below w.heap.size w W), hS9, (fun W h => h), ?_⟩
      simp only [Act.put, zp1, zp2, zp3]
      repeat (first
        | ((refine seq_skip (by rfl) (by rfl) ?_); simp only [Act.put, zp1, zp2, zp3])
        | ((refine seq_val (v := ?_) (by rfl) (by rfl) (fun w hS => ?_) ?_); rotate_left; (focus ((try dsimp only at hS); go_simp; (try (with_reducible rfl)); done)); simp only [Act.put, zp1, zp2, zp3]))
      refine seq_nil ?_
      clear hS hX9
      go_wp2
      refine bodyPost_ret (by simp [results, Try.results23, go_sem, d2, d3]; try rfl) rfl ?_
      exact ⟨M, L, AL, cL, x9, rfl, own_mono hr9.out (by omega), by omega, ⟨M0, M1⟩, ⟨by omega, by omega⟩, hS9.2.2⟩
    go_wp2_with fail
    refine (one_c 2 (by omega) (w.heap.size + 1) (0 + 288 + 2 * i) _ (hide HCU.out) (by omega)).mono ?_
    rintro e w1 ⟨_, rfl, ⟨b, rfl⟩, hcn, hgn⟩
    have hS1 : (w.heap.size < w1.heap.size ∧ ∀ i, w1.frozen? ⟨w.heap.size, i, none⟩ = false) ∧ w1.cell? ⟨w.heap.size, 0, none⟩ = some (.int .i64 (0)) ∧ w1.cell? ⟨w.heap.size, 1, none⟩ = some (.slice none 0 0) ∧ (T < w1.heap.size ∧ ∀ i, w1.frozen? ⟨T, i, none⟩ = false) ∧ w1.cell? ⟨T, 0, none⟩ = some (.int .i64 (M)) ∧ w1.cell? ⟨T, 1, none⟩ = some (.slice AL L.length cL) ∧ (P < w1.heap.size ∧ ∀ i, w1.frozen? ⟨P, i, none⟩ = false) ∧ w1.cell? ⟨P, 0, none⟩ = some (.int .i64 (x)) ∧ w1.cell? ⟨P, 1, none⟩ = some (.int .i64 (y)) ∧ Below w.heap.size w w1 := ⟨fre_gb (hS.1) hgn (ne_some (show w.heap.size ≠ w.heap.size + 1 by omega)), gc hgn (hS.2.1) (show w.heap.size ≠ w.heap.size + 1 by omega), gc hgn (hS.2.2.1) (show w.heap.size ≠ w.heap.size + 1 by omega), fre_gb (hS.2.2.2.1) hgn (ne_some (show T ≠ w.heap.size + 1 by omega)), gc hgn (hS.2.2.2.2.1) (show T ≠ w.heap.size + 1 by omega), gc hgn (hS.2.2.2.2.2.1) (show T ≠ w.heap.size + 1 by omega), fre_gb (hS.2.2.2.2.2.2.1) hgn (ne_some (show P ≠ w.heap.size + 1 by omega)), gc hgn (hS.2.2.2.2.2.2.2.1) (show P ≠ w.heap.size + 1 by omega), gc hgn (hS.2.2.2.2.2.2.2.2.1) (show P ≠ w.heap.size + 1 by omega), below_gb (hS.2.2.2.2.2.2.2.2.2) hgn hzw (by omega)⟩
    have HR1 := hide (World.ownsRow.kept HROW.out hgn (own_far HROW.out (by omega)))
    clear hS HROW HCU hgn hzw
    rcases b with _ | _
    · have hS8 : Cur w1 (w.heap.size + 1) (0 + 292) ∧ (w.heap.size < w1.heap.size ∧ ∀ i, w1.frozen? ⟨w.heap.size, i, none⟩ = false) ∧ w1.cell? ⟨w.heap.size, 0, none⟩ = some (.int .i64 (0)) ∧ w1.cell? ⟨w.heap.size, 1, none⟩ = some (.slice none 0 0) ∧ (T < w1.heap.size ∧ ∀ i, w1.frozen? ⟨T, i, none⟩ = false) ∧ w1.cell? ⟨T, 0, none⟩ = some (.int .i64 (M)) ∧ w1.cell? ⟨T, 1, none⟩ = some (.slice AL L.length cL) ∧ (P < w1.heap.size ∧ ∀ i, w1.frozen? ⟨P, i, none⟩ = false) ∧ w1.cell? ⟨P, 0, none⟩ = some (.int .i64 (x)) ∧ w1.cell? ⟨P, 1, none⟩ = some (.int .i64 (y)) ∧ w1.ownsRow (w.heap.size + 2) 42 10 (.slice AL L.length cL) (L.length) (hds L) ∧ Below w.heap.size w w1 := ⟨(hcn).more (by omega), hS1.1, hS1.2.1, hS1.2.2.1, hS1.2.2.2.1, hS1.2.2.2.2.1, hS1.2.2.2.2.2.1, hS1.2.2.2.2.2.2.1, hS1.2.2.2.2.2.2.2.1, hS1.2.2.2.2.2.2.2.2.1, HR1.out, hS1.2.2.2.2.2.2.2.2.2⟩
      clear hS1
      have hS := hS8
      clear hS8
      have hS2 := hS
      obtain ⟨hq0, ⟨f0, fr0⟩, q1, q2, ⟨f3, fr3⟩, q4, q5, ⟨f6, fr6⟩, q7, q8, q9, hF⟩ := hS2
      have hgl : w.heap.size + 1 < w1.heap.size := hq0.lt
      have hzw : w.heap.size ≤ w1.heap.size := hF.size
      have hB := hF
      have hz1 : w.heap.size < w1.heap.size := World.block_lt_of_cell? w1 _ q1
      have hz2 : T < w1.heap.size := World.block_lt_of_cell? w1 _ q4
      have hz3 : P < w1.heap.size := World.block_lt_of_cell? w1 _ q7
      go_upto_region 11 with fail
      refine wp_region_seq deed [0, 1, 2, 3, 4, 5] (fun W => W.cell? ⟨T, 0, none⟩ = some (.int .i64 (M)) ∧ W.cell? ⟨T, 1, none⟩ = some (.slice AL L.length cL) ∧ Below w.heap.size w W) (by kernel_rfl) (by kernel_rfl) ⟨(by first | (with_reducible assumption) | (simp [go_sem]; done) | ((simp only [go_sem]); (with_reducible assumption)) | ((refine keep_cell ?_ (by with_reducible assumption)); go_grown; done) | (simp [go_sem, *]; done) | (rw [World.cell?_setCell_other _ _ _ _ (by simp; omega)]; with_reducible assumption) | (rw [World.cell?_setCell_other _ _ _ _ (by simp; omega), World.cell?_setCell_other _ _ _ _ (by simp; omega)]; with_reducible assumption)), (by first | (with_reducible assumption) | (simp [go_sem]; done) | ((simp only [go_sem]); (with_reducible assumption)) | ((refine keep_cell ?_ (by with_reducible assumption)); go_grown; done) | (simp [go_sem, *]; done) | (rw [World.cell?_setCell_other _ _ _ _ (by simp; omega)]; with_reducible assumption) | (rw [World.cell?_setCell_other _ _ _ _ (by simp; omega), World.cell?_setCell_other _ _ _ _ (by simp; omega)]; with_reducible assumption)), (by go_grown)⟩ ?_
      simp only [byNum, List.getElem?_cons_zero, List.getElem?_cons_succ]
      repeat (first
        | ((refine seq_skip (by rfl) (by rfl) ?_); simp only [Act.put, zp1, zp2, zp3])
        | ((refine seq_val (v := ?_) (by rfl) (by rfl) (fun w hS => ?_) ?_); rotate_left; (focus ((try dsimp only at hS); go_simp; (try (with_reducible rfl)); done)); simp only [Act.put, zp1, zp2, zp3]))
      refine seq_deed (v := ?_) (w' := ?_) (by rfl) (by rfl) ?_ ?_
      rotate_left
      rotate_left
      focus (go_simp; (constructor <;> (with_reducible rfl)); done)
      obtain ⟨w71, hw9⟩ : ∃ W, World.drew (World.alloc w1 (.cells #[.int .i64 1, .int .i64 2, .int .i64 7, .int .i64 7, .int .i64 300, .int .i64 4] 3)) = W := ⟨_, rfl⟩
      rw [hw9]
      have hb : Below w1.heap.size w1 w71 := by rw [← hw9]; go_grown
      have hT : Cur w71 (w.heap.size + 1) (0 + 292) ∧ (w.heap.size < w71.heap.size ∧ ∀ i, w71.frozen? ⟨w.heap.size, i, none⟩ = false) ∧ w71.cell? ⟨w.heap.size, 0, none⟩ = some (.int .i64 (0)) ∧ w71.cell? ⟨w.heap.size, 1, none⟩ = some (.slice none 0 0) ∧ (T < w71.heap.size ∧ ∀ i, w71.frozen? ⟨T, i, none⟩ = false) ∧ w71.cell? ⟨T, 0, none⟩ = some (.int .i64 (M)) ∧ w71.cell? ⟨T, 1, none⟩ = some (.slice AL L.length cL) ∧ (P < w71.heap.size ∧ ∀ i, w71.frozen? ⟨P, i, none⟩ = false) ∧ w71.cell? ⟨P, 0, none⟩ = some (.int .i64 (x)) ∧ w71.cell? ⟨P, 1, none⟩ = some (.int .i64 (y)) ∧ w71.ownsRow (w.heap.size + 2) 42 10 (.slice AL L.length cL) (L.length) (hds L) ∧ (∀ j, j < ([1, 2, 7, 7, 300, 4] : List Int).length → w71.cell? ((⟨w1.heap.size, 0, none⟩ : Addr).add j) = some (.int .i64 (nth [1, 2, 7, 7, 300, 4] j))) ∧ Below w.heap.size w w71 := ⟨hS.1.below hb, keep_fre hb (hS.2.1), keep_cell hb (hS.2.2.1), keep_cell hb (hS.2.2.2.1), keep_fre hb (hS.2.2.2.2.1), keep_cell hb (hS.2.2.2.2.2.1), keep_cell hb (hS.2.2.2.2.2.2.1), keep_fre hb (hS.2.2.2.2.2.2.2.1), keep_cell hb (hS.2.2.2.2.2.2.2.2.1), keep_cell hb (hS.2.2.2.2.2.2.2.2.2.1), own_below (hS.2.2.2.2.2.2.2.2.2.2.1) hb, (by rw [← hw9]; exact lit_at (by rfl) rfl), below_via (hS.2.2.2.2.2.2.2.2.2.2.2) hb⟩
      clear hS hb hw9
      have hS := hT
      clear hT
      have hS2 := hS
      obtain ⟨hq0, ⟨f0, fr0⟩, q1, q2, ⟨f3, fr3⟩, q4, q5, ⟨f6, fr6⟩, q7, q8, q9, q10, hF⟩ := hS2
      have hgl : w.heap.size + 1 < w71.heap.size := hq0.lt
      have hzw : w.heap.size ≤ w71.heap.size := hF.size
      have hB := hF
      have hz1 : w.heap.size < w71.heap.size := World.block_lt_of_cell? w71 _ q1
      have hz2 : T < w71.heap.size := World.block_lt_of_cell? w71 _ q4
      have hz3 : P < w71.heap.size := World.block_lt_of_cell? w71 _ q7
      refine ⟨(fun W => W.cell? ⟨T, 0, none⟩ = some (.int .i64 (M)) ∧ W.cell? ⟨T, 1, none⟩ = some (.slice AL L.length cL) ∧ Below w.heap.size w W), ⟨hS.2.2.2.2.2.1, hS.2.2.2.2.2.2.1, hS.2.2.2.2.2.2.2.2.2.2.2.2⟩, (fun W h => h), ?_⟩
      simp only [Act.put, zp1, zp2, zp3]
      repeat (first
        | ((refine seq_skip (by rfl) (by rfl) ?_); simp only [Act.put, zp1, zp2, zp3])
        | ((refine seq_val (v := ?_) (by rfl) (by rfl) (fun w hS => ?_) ?_); rotate_left; (focus ((try dsimp only at hS); go_simp; (try (with_reducible rfl)); done)); simp only [Act.put, zp1, zp2, zp3]))
      refine seq_call (f := ?_) (args := ?_) (by rfl) (by rfl) ?_ ?_
      rotate_left
      rotate_left
      focus (go_simp; (constructor <;> (with_reducible rfl)); done)
      refine (among_c (1) (300) [1, 2, 7, 7, 300, 4] _ _ (w.heap.size + 1) (0 + 292) _ (hide (by repeat' (first | (with_reducible exact hS.1) | (with_reducible refine Cur.drew ?_) | (with_reducible refine Cur.alloc ?_ _) | (with_reducible refine Cur.setc ?_ (by first | omega | (simp; done) | (simp; omega)) _)))) (by omega) (hide (by with_reducible assumption)) (by intro e; (try dsimp only at e); omega) ⟨by decide, by decide⟩ (hide (by decide))).mono ?_
      rintro e w72 ⟨_, rfl, ⟨x9, rfl, x90, x91⟩, hcn, hgn⟩
      have hT : Cur w72 (w.heap.size + 1) (0 + 294) ∧ (w.heap.size < w72.heap.size ∧ ∀ i, w72.frozen? ⟨w.heap.size, i, none⟩ = false) ∧ w72.cell? ⟨w.heap.size, 0, none⟩ = some (.int .i64 (0)) ∧ w72.cell? ⟨w.heap.size, 1, none⟩ = some (.slice none 0 0) ∧ (T < w72.heap.size ∧ ∀ i, w72.frozen? ⟨T, i, none⟩ = false) ∧ w72.cell? ⟨T, 0, none⟩ = some (.int .i64 (M)) ∧ w72.cell? ⟨T, 1, none⟩ = some (.slice AL L.length cL) ∧ (P < w72.heap.size ∧ ∀ i, w72.frozen? ⟨P, i, none⟩ = false) ∧ w72.cell? ⟨P, 0, none⟩ = some (.int .i64 (x)) ∧ w72.cell? ⟨P, 1, none⟩ = some (.int .i64 (y)) ∧ w72.ownsRow (w.heap.size + 2) 42 10 (.slice AL L.length cL) (L.length) (hds L) ∧ (∀ j, j < ([1, 2, 7, 7, 300, 4] : List Int).length → w72.cell? ((⟨w1.heap.size, 0, none⟩ : Addr).add j) = some (.int .i64 (nth [1, 2, 7, 7, 300, 4] j))) ∧ Below w.heap.size w w72 := (fun W h hgn => ⟨hcn, fre_gb (h.2.1) hgn (by intro e; injection e with e; (try dsimp only at e); omega), hgn.cell (h.2.2.1) (by intro e; injection e with e; (try dsimp only at e); omega), hgn.cell (h.2.2.2.1) (by intro e; injection e with e; (try dsimp only at e); omega), fre_gb (h.2.2.2.2.1) hgn (by intro e; injection e with e; (try dsimp only at e); omega), hgn.cell (h.2.2.2.2.2.1) (by intro e; injection e with e; (try dsimp only at e); omega), hgn.cell (h.2.2.2.2.2.2.1) (by intro e; injection e with e; (try dsimp only at e); omega), fre_gb (h.2.2.2.2.2.2.2.1) hgn (by intro e; injection e with e; (try dsimp only at e); omega), hgn.cell (h.2.2.2.2.2.2.2.2.1) (by intro e; injection e with e; (try dsimp only at e); omega), hgn.cell (h.2.2.2.2.2.2.2.2.2.1) (by intro e; injection e with e; (try dsimp only at e); omega), World.ownsRow.kept (h.2.2.2.2.2.2.2.2.2.2.1) hgn (own_far (h.2.2.2.2.2.2.2.2.2.2.1) (by first | omega | (simp; done) | (simp; omega))), (fun j hj => hgn.cell ((h.2.2.2.2.2.2.2.2.2.2.2.1) j hj) (by rw [block_of_add]; intro e; injection e with e; (try dsimp only at e); omega)), below_gb (h.2.2.2.2.2.2.2.2.2.2.2.2) hgn (h.2.2.2.2.2.2.2.2.2.2.2.2).size (by first | omega | (simp; done) | (simp; omega))⟩ : ∀ W : World, (Cur W (w.heap.size + 1) (0 + 292) ∧ (w.heap.size < W.heap.size ∧ ∀ i, W.frozen? ⟨w.heap.size, i, none⟩ = false) ∧ W.cell? ⟨w.heap.size, 0, none⟩ = some (.int .i64 (0)) ∧ W.cell? ⟨w.heap.size, 1, none⟩ = some (.slice none 0 0) ∧ (T < W.heap.size ∧ ∀ i, W.frozen? ⟨T, i, none⟩ = false) ∧ W.cell? ⟨T, 0, none⟩ = some (.int .i64 (M)) ∧ W.cell? ⟨T, 1, none⟩ = some (.slice AL L.length cL) ∧ (P < W.heap.size ∧ ∀ i, W.frozen? ⟨P, i, none⟩ = false) ∧ W.cell? ⟨P, 0, none⟩ = some (.int .i64 (x)) ∧ W.cell? ⟨P, 1, none⟩ = some (.int .i64 (y)) ∧ W.ownsRow (w.heap.size + 2) 42 10 (.slice AL L.length cL) (L.length) (hds L) ∧ (∀ j, j < ([1, 2, 7, 7, 300, 4] : List Int).length → W.cell? ((⟨w1.heap.size, 0, none⟩ : Addr).add j) = some (.int .i64 (nth [1, 2, 7, 7, 300, 4] j))) ∧ Below w.heap.size w W) → W.grownBy w72 (some (w.heap.size + 1)) → (Cur w72 (w.heap.size + 1) (0 + 294) ∧ (w.heap.size < w72.heap.size ∧ ∀ i, w72.frozen? ⟨w.heap.size, i, none⟩ = false) ∧ w72.cell? ⟨w.heap.size, 0, none⟩ = some (.int .i64 (0)) ∧ w72.cell? ⟨w.heap.size, 1, none⟩ = some (.slice none 0 0) ∧ (T < w72.heap.size ∧ ∀ i, w72.frozen? ⟨T, i, none⟩ = false) ∧ w72.cell? ⟨T, 0, none⟩ = some (.int .i64 (M)) ∧ w72.cell? ⟨T, 1, none⟩ = some (.slice AL L.length cL) ∧ (P < w72.heap.size ∧ ∀ i, w72.frozen? ⟨P, i, none⟩ = false) ∧ w72.cell? ⟨P, 0, none⟩ = some (.int .i64 (x)) ∧ w72.cell? ⟨P, 1, none⟩ = some (.int .i64 (y)) ∧ w72.ownsRow (w.heap.size + 2) 42 10 (.slice AL L.length cL) (L.length) (hds L) ∧ (∀ j, j < ([1, 2, 7, 7, 300, 4] : List Int).length → w72.cell? ((⟨w1.heap.size, 0, none⟩ : Addr).add j) = some (.int .i64 (nth [1, 2, 7, 7, 300, 4] j))) ∧ Below w.heap.size w w72)) _ ⟨(by repeat' (first | (with_reducible exact hS.1) | (with_reducible refine Cur.drew ?_) | (with_reducible refine Cur.alloc ?_ _) | (with_reducible refine Cur.setc ?_ (by first | omega | (simp; done) | (simp; omega)) _))), (by first | (with_reducible assumption) | (simp [go_sem]; done) | (refine keep_fre ?_ ⟨by with_reducible assumption, by with_reducible assumption⟩; go_grown; done) | (simp [go_sem, *]; done)), (by first | (with_reducible assumption) | (simp [go_sem]; done) | ((simp only [go_sem]); (with_reducible assumption)) | ((refine keep_cell ?_ (by with_reducible assumption)); go_grown; done) | (simp [go_sem, *]; done) | (rw [World.cell?_setCell_other _ _ _ _ (by simp; omega)]; with_reducible assumption) | (rw [World.cell?_setCell_other _ _ _ _ (by simp; omega), World.cell?_setCell_other _ _ _ _ (by simp; omega)]; with_reducible assumption)), (by first | (with_reducible assumption) | (simp [go_sem]; done) | ((simp only [go_sem]); (with_reducible assumption)) | ((refine keep_cell ?_ (by with_reducible assumption)); go_grown; done) | (simp [go_sem, *]; done) | (rw [World.cell?_setCell_other _ _ _ _ (by simp; omega)]; with_reducible assumption) | (rw [World.cell?_setCell_other _ _ _ _ (by simp; omega), World.cell?_setCell_other _ _ _ _ (by simp; omega)]; with_reducible assumption)), (by first | (with_reducible assumption) | (simp [go_sem]; done) | (refine keep_fre ?_ ⟨by with_reducible assumption, by with_reducible assumption⟩; go_grown; done) | (simp [go_sem, *]; done)), (by first | (with_reducible assumption) | (simp [go_sem]; done) | ((simp only [go_sem]); (with_reducible assumption)) | ((refine keep_cell ?_ (by with_reducible assumption)); go_grown; done) | (simp [go_sem, *]; done) | (rw [World.cell?_setCell_other _ _ _ _ (by simp; omega)]; with_reducible assumption) | (rw [World.cell?_setCell_other _ _ _ _ (by simp; omega), World.cell?_setCell_other _ _ _ _ (by simp; omega)]; with_reducible assumption)), (by first | (with_reducible assumption) | (simp [go_sem]; done) | ((simp only [go_sem]); (with_reducible assumption)) | ((refine keep_cell ?_ (by with_reducible assumption)); go_grown; done) | (simp [go_sem, *]; done) | (rw [World.cell?_setCell_other _ _ _ _ (by simp; omega)]; with_reducible assumption) | (rw [World.cell?_setCell_other _ _ _ _ (by simp; omega), World.cell?_setCell_other _ _ _ _ (by simp; omega)]; with_reducible assumption)), (by first | (with_reducible assumption) | (simp [go_sem]; done) | (refine keep_fre ?_ ⟨by with_reducible assumption, by with_reducible assumption⟩; go_grown; done) | (simp [go_sem, *]; done)), (by first | (with_reducible assumption) | (simp [go_sem]; done) | ((simp only [go_sem]); (with_reducible assumption)) | ((refine keep_cell ?_ (by with_reducible assumption)); go_grown; done) | (simp [go_sem, *]; done) | (rw [World.cell?_setCell_other _ _ _ _ (by simp; omega)]; with_reducible assumption) | (rw [World.cell?_setCell_other _ _ _ _ (by simp; omega), World.cell?_setCell_other _ _ _ _ (by simp; omega)]; with_reducible assumption)), (by first | (with_reducible assumption) | (simp [go_sem]; done) | ((simp only [go_sem]); (with_reducible assumption)) | ((refine keep_cell ?_ (by with_reducible assumption)); go_grown; done) | (simp [go_sem, *]; done) | (rw [World.cell?_setCell_other _ _ _ _ (by simp; omega)]; with_reducible assumption) | (rw [World.cell?_setCell_other _ _ _ _ (by simp; omega), World.cell?_setCell_other _ _ _ _ (by simp; omega)]; with_reducible assumption)), (by first | (with_reducible assumption) | (exact hS.2.2.2.2.2.2.2.2.2.2.1) | ((refine own_below (by with_reducible assumption) ?_); go_grown)), (by first | (with_reducible assumption) | (exact lit_at (by rfl) (by first | rfl | (with_reducible assumption) | simp))), (by go_grown)⟩ hgn
      (try clear hS)
      have hS := hT
      clear hT hcn hgn
      have hS2 := hS
      obtain ⟨hq0, ⟨f0, fr0⟩, q1, q2, ⟨f3, fr3⟩, q4, q5, ⟨f6, fr6⟩, q7, q8, q9, q10, hF⟩ := hS2
      have hgl : w.heap.size + 1 < w72.heap.size := hq0.lt
      have hzw : w.heap.size ≤ w72.heap.size := hF.size
      have hB := hF
      have hz1 : w.heap.size < w72.heap.size := World.block_lt_of_cell? w72 _ q1
      have hz2 : T < w72.heap.size := World.block_lt_of_cell? w72 _ q4
      have hz3 : P < w72.heap.size := World.block_lt_of_cell? w72 _ q7
  
      refine ⟨_, rfl, (fun W => W.cell? ⟨T, 0, none⟩ = some (.int .i64 (M)) ∧ W.cell? ⟨T, 1, none⟩ = some (.slice AL L.length cL) ∧ Below w.heap.size w W), ⟨hS.2.2.2.2.2.1, hS.2.2.2.2.2.2.1, hS.2.2.2.2.2.2.2.2.2.2.2.2⟩, (fun W h => h), ?_⟩
      simp only [Act.put, zp1, zp2, zp3]
      repeat (first
        | ((refine seq_skip (by rfl) (by rfl) ?_); simp only [Act.put, zp1, zp2, zp3])
        | ((refine seq_val (v := ?_) (by rfl) (by rfl) (fun w hS => ?_) ?_); rotate_left; (focus ((try dsimp only at hS); go_simp; (try (with_reducible rfl)); done)); simp only [Act.put, zp1, zp2, zp3]))
      have hrow := q9
      have hTR : T ≠ w.heap.size := by omega
      obtain ⟨X9, hX9⟩ : ∃ X, (w72.setCell ⟨w.heap.size, 0, none⟩ (.int .i64 (M))).setCell ⟨w.heap.size, 1, none⟩ (.slice AL L.length cL) = X := ⟨_, rfl⟩
      obtain ⟨_, _, d2, d3⟩ := box2_sets q1 q2 (.int .i64 (M)) (.slice AL L.length cL)
      rw [hX9] at d2 d3
      have hS9 : X9.cell? ⟨T, 0, none⟩ = some (.int .i64 (M)) ∧ X9.cell? ⟨T, 1, none⟩ = some (.slice AL L.length cL) ∧ Below w.heap.size w X9 := by rw [← hX9]; exact ⟨sc _ hTR (sc _ hTR q4), sc _ hTR (sc _ hTR q5), (hF.setCell (p := ⟨w.heap.size, 0, none⟩) (Nat.le_refl _) _).setCell (p := ⟨w.heap.size, 1, none⟩) (Nat.le_refl _) _⟩
      have hr9 := hide (own_set (own_set hrow (p := ⟨w.heap.size, 0, none⟩) (show w.heap.size < w.heap.size + 2 by omega) (.int .i64 (M))) (show w.heap.size < w.heap.size + 2 by omega) (.slice AL L.length cL) (p := ⟨w.heap.size, 1, none⟩))
      rw [hX9] at hr9
      refine seq_store (w' := X9) (by rfl) (by rfl) (by rw [← hX9]; go_simp; (try (with_reducible rfl)); done) ?_
      refine ⟨(fun W => W.cell? ⟨T, 0, none⟩ = some (.int .i64 (M)) ∧ W.cell? ⟨T, 1, none⟩ = some (.slice AL L.length cL) ∧ Below w.heap.size w W), hS9, (fun W h => h), ?_⟩
      simp only [Act.put, zp1, zp2, zp3]
      repeat (first
        | ((refine seq_skip (by rfl) (by rfl) ?_); simp only [Act.put, zp1, zp2, zp3])
        | ((refine seq_val (v := ?_) (by rfl) (by rfl) (fun w hS => ?_) ?_); rotate_left; (focus ((try dsimp only at hS); go_simp; (try (with_reducible rfl)); done)); simp only [Act.put, zp1, zp2, zp3]))
      refine seq_nil ?_
      clear hS hX9
      go_wp2
      refine bodyPost_ret (by simp [results, Try.results23, go_sem, d2, d3]; try rfl) rfl ?_
      exact ⟨M, L, AL, cL, x9, rfl, own_mono hr9.out (by omega), by omega, ⟨M0, M1⟩, ⟨by omega, by omega⟩, hS9.2.2⟩
    go_wp2_with fail
    refine (l7Of_c x y _ x0 y0 _).mono ?_
    rintro e w2 ⟨rfl, hb⟩
    have hS2 : (w.heap.size < w2.heap.size ∧ ∀ i, w2.frozen? ⟨w.heap.size, i, none⟩ = false) ∧ w2.cell? ⟨w.heap.size, 0, none⟩ = some (.int .i64 (0)) ∧ w2.cell? ⟨w.heap.size, 1, none⟩ = some (.slice none 0 0) ∧ (T < w2.heap.size ∧ ∀ i, w2.frozen? ⟨T, i, none⟩ = false) ∧ w2.cell? ⟨T, 0, none⟩ = some (.int .i64 (M)) ∧ w2.cell? ⟨T, 1, none⟩ = some (.slice AL L.length cL) ∧ (P < w2.heap.size ∧ ∀ i, w2.frozen? ⟨P, i, none⟩ = false) ∧ w2.cell? ⟨P, 0, none⟩ = some (.int .i64 (x)) ∧ w2.cell? ⟨P, 1, none⟩ = some (.int .i64 (y)) ∧ Below w.heap.size w w2 := ⟨keep_fre hb (hS1.1), keep_cell hb (hS1.2.1), keep_cell hb (hS1.2.2.1), keep_fre hb (hS1.2.2.2.1), keep_cell hb (hS1.2.2.2.2.1), keep_cell hb (hS1.2.2.2.2.2.1), keep_fre hb (hS1.2.2.2.2.2.2.1), keep_cell hb (hS1.2.2.2.2.2.2.2.1), keep_cell hb (hS1.2.2.2.2.2.2.2.2.1), below_via (hS1.2.2.2.2.2.2.2.2.2) hb⟩
    have HR2 := hide (own_below HR1.out hb)
    have hcm := hcn.below hb
    clear hS1 HR1 hcn
    have hS1 := hS2
    have HR1 := HR2
    have hcn := hcm
    clear hS2 HR2 hcm
    clear hb
    obtain ⟨o, ho⟩ : ∃ o, ((i : Int) == 1) = o := ⟨_, rfl⟩
    rw [ho]
    clear ho
    obtain ⟨a0, a1⟩ := of_bd (x := x) o
    obtain ⟨b0, b1⟩ := of_bd (x := y) o
    obtain ⟨a, ha⟩ : ∃ a, x % szOf o = a := ⟨_, rfl⟩
    obtain ⟨b, hb9⟩ : ∃ b, y % szOf o = b := ⟨_, rfl⟩
    rw [ha] at a0 a1
    rw [hb9] at b0 b1
    rw [ha, hb9]
    clear ha hb9
    go_wp2_with fail
    refine (l7Pack_c o a b a0 a1 b0 b1 _).mono ?_
    rintro e w3 ⟨rfl, hb⟩
    have hS2 : (w.heap.size < w3.heap.size ∧ ∀ i, w3.frozen? ⟨w.heap.size, i, none⟩ = false) ∧ w3.cell? ⟨w.heap.size, 0, none⟩ = some (.int .i64 (0)) ∧ w3.cell? ⟨w.heap.size, 1, none⟩ = some (.slice none 0 0) ∧ (T < w3.heap.size ∧ ∀ i, w3.frozen? ⟨T, i, none⟩ = false) ∧ w3.cell? ⟨T, 0, none⟩ = some (.int .i64 (M)) ∧ w3.cell? ⟨T, 1, none⟩ = some (.slice AL L.length cL) ∧ (P < w3.heap.size ∧ ∀ i, w3.frozen? ⟨P, i, none⟩ = false) ∧ w3.cell? ⟨P, 0, none⟩ = some (.int .i64 (x)) ∧ w3.cell? ⟨P, 1, none⟩ = some (.int .i64 (y)) ∧ Below w.heap.size w w3 := ⟨keep_fre hb (hS1.1), keep_cell hb (hS1.2.1), keep_cell hb (hS1.2.2.1), keep_fre hb (hS1.2.2.2.1), keep_cell hb (hS1.2.2.2.2.1), keep_cell hb (hS1.2.2.2.2.2.1), keep_fre hb (hS1.2.2.2.2.2.2.1), keep_cell hb (hS1.2.2.2.2.2.2.2.1), keep_cell hb (hS1.2.2.2.2.2.2.2.2.1), below_via (hS1.2.2.2.2.2.2.2.2.2) hb⟩
    have HR2 := hide (own_below HR1.out hb)
    have hcm := hcn.below hb
    clear hS1 HR1 hcn
    have hS1 := hS2
    have HR1 := HR2
    have hcn := hcm
    clear hS2 HR2 hcm
    clear hb
    obtain ⟨u0, u1⟩ := pk_bd (o := o) a0 a1 b0 b1
    obtain ⟨u, hu⟩ : ∃ u, pkU o a b = u := ⟨_, rfl⟩
    rw [hu] at u0 u1
    rw [hu]
    clear hu
    go_upto_region 8 with fail
    obtain ⟨Q, hQ⟩ : ∃ q, w3.heap.size = q := ⟨_, rfl⟩
    obtain ⟨w4, hw9⟩ : ∃ W, World.alloc w3 (.cells #[.int .i64 2, .int .i64 7, .int .i64 u] 34) = W := ⟨_, rfl⟩
    rw [hw9, hQ]
    have hb : Below w3.heap.size w3 w4 := by rw [← hw9]; go_grown
    have hTQ : T < Q := by rw [← hQ]; exact (hS1.2.2.2.1).1
    have f0 : w4.cell? ⟨Q, 0, none⟩ = some (.int .i64 2) := by rw [← hw9, ← hQ]; simp [go_sem]
    have f1 : w4.cell? ⟨Q, 1, none⟩ = some (.int .i64 7) := by rw [← hw9, ← hQ]; simp [go_sem]
    have f2 : w4.cell? ⟨Q, 2, none⟩ = some (.int .i64 u) := by rw [← hw9, ← hQ]; simp [go_sem]
    have hS2 : (w.heap.size < w4.heap.size ∧ ∀ i, w4.frozen? ⟨w.heap.size, i, none⟩ = false) ∧ w4.cell? ⟨w.heap.size, 0, none⟩ = some (.int .i64 (0)) ∧ w4.cell? ⟨w.heap.size, 1, none⟩ = some (.slice none 0 0) ∧ (T < w4.heap.size ∧ ∀ i, w4.frozen? ⟨T, i, none⟩ = false) ∧ w4.cell? ⟨T, 0, none⟩ = some (.int .i64 (M)) ∧ w4.cell? ⟨T, 1, none⟩ = some (.slice AL L.length cL) ∧ (P < w4.heap.size ∧ ∀ i, w4.frozen? ⟨P, i, none⟩ = false) ∧ w4.cell? ⟨P, 0, none⟩ = some (.int .i64 (x)) ∧ w4.cell? ⟨P, 1, none⟩ = some (.int .i64 (y)) ∧ Below w.heap.size w w4 := ⟨keep_fre hb (hS1.1), keep_cell hb (hS1.2.1), keep_cell hb (hS1.2.2.1), keep_fre hb (hS1.2.2.2.1), keep_cell hb (hS1.2.2.2.2.1), keep_cell hb (hS1.2.2.2.2.2.1), keep_fre hb (hS1.2.2.2.2.2.2.1), keep_cell hb (hS1.2.2.2.2.2.2.2.1), keep_cell hb (hS1.2.2.2.2.2.2.2.2.1), below_via (hS1.2.2.2.2.2.2.2.2.2) hb⟩
    have HR2 := hide (own_below HR1.out hb)
    have hcm := hcn.below hb
    clear hS1 HR1 hcn
    have hS1 := hS2
    have HR1 := HR2
    have hcn := hcm
    clear hS2 HR2 hcm
    clear hb hw9 hQ
    go_cut [9, 10] (fun pv kv wx => ∃ (N : Nat) (K : Bool) (m2 : Int) (l2 : List Hd) (B : Option Addr) (d : Nat), pv = .pointer (some ⟨N, 0, none⟩) ∧ kv = .bool K ∧ T < N ∧ (Value.slice B l2.length d).ownBlock ≠ some T ∧ (K = true → m2 = M) ∧ l2.length ≤ L.length + 1 ∧ Hid (Cur wx (w.heap.size + 1) (0 + 288 + 2 * i + 2)) ∧ Hid (wx.ownsRow (w.heap.size + 2) 42 10 (.slice AL L.length cL) L.length (hds L)) ∧ Hid (wx.ownsRow (w.heap.size + 2) 42 10 (.slice B l2.length d) l2.length (hds l2)) ∧ ((w.heap.size < wx.heap.size ∧ ∀ i, wx.frozen? ⟨w.heap.size, i, none⟩ = false) ∧ wx.cell? ⟨w.heap.size, 0, none⟩ = some (.int .i64 (0)) ∧ wx.cell? ⟨w.heap.size, 1, none⟩ = some (.slice none 0 0) ∧ (T < wx.heap.size ∧ ∀ i, wx.frozen? ⟨T, i, none⟩ = false) ∧ wx.cell? ⟨T, 0, none⟩ = some (.int .i64 (M)) ∧ wx.cell? ⟨T, 1, none⟩ = some (.slice AL L.length cL) ∧ (P < wx.heap.size ∧ ∀ i, wx.frozen? ⟨P, i, none⟩ = false) ∧ wx.cell? ⟨P, 0, none⟩ = some (.int .i64 (x)) ∧ wx.cell? ⟨P, 1, none⟩ = some (.int .i64 (y)) ∧ wx.cell? ⟨N, 0, none⟩ = some (.int .i64 m2) ∧ wx.cell? ⟨N, 1, none⟩ = some (.slice B l2.length d) ∧ Below w.heap.size w wx))
    case first =>
      refine wp_region_all (by kernel_rfl) ?_
      obtain ⟨W0, hW0⟩ : ∃ W, World.drew w4 = W := ⟨_, rfl⟩
      rw [hW0]
      have hcw : Below w4.heap.size w4 W0 := by rw [← hW0]; go_grown
      have HS0 := hide (show (w.heap.size < W0.heap.size ∧ ∀ i, W0.frozen? ⟨w.heap.size, i, none⟩ = false) ∧ W0.cell? ⟨w.heap.size, 0, none⟩ = some (.int .i64 (0)) ∧ W0.cell? ⟨w.heap.size, 1, none⟩ = some (.slice none 0 0) ∧ (T < W0.heap.size ∧ ∀ i, W0.frozen? ⟨T, i, none⟩ = false) ∧ W0.cell? ⟨T, 0, none⟩ = some (.int .i64 (M)) ∧ W0.cell? ⟨T, 1, none⟩ = some (.slice AL L.length cL) ∧ (P < W0.heap.size ∧ ∀ i, W0.frozen? ⟨P, i, none⟩ = false) ∧ W0.cell? ⟨P, 0, none⟩ = some (.int .i64 (x)) ∧ W0.cell? ⟨P, 1, none⟩ = some (.int .i64 (y)) ∧ Below w.heap.size w W0 from ⟨keep_fre hcw (hS1.1), keep_cell hcw (hS1.2.1), keep_cell hcw (hS1.2.2.1), keep_fre hcw (hS1.2.2.2.1), keep_cell hcw (hS1.2.2.2.2.1), keep_cell hcw (hS1.2.2.2.2.2.1), keep_fre hcw (hS1.2.2.2.2.2.2.1), keep_cell hcw (hS1.2.2.2.2.2.2.2.1), keep_cell hcw (hS1.2.2.2.2.2.2.2.2.1), below_via (hS1.2.2.2.2.2.2.2.2.2) hcw⟩)
      have HRA := hide (own_below HR1.out hcw)
      have HC := hide (hcn.below hcw)
      have hQW : Q < W0.heap.size := World.block_lt_of_cell? W0 _ (keep_cell hcw f0)
      have hTW : T < W0.heap.size := by omega
      have hPW : P < W0.heap.size := (HS0.out.2.2.2.2.2.2.1).1
      have hzW : w.heap.size + 2 ≤ W0.heap.size := by omega
      have hS7 : W0.cell? ⟨T, 0, none⟩ = some (.int .i64 (M)) ∧ W0.cell? ⟨T, 1, none⟩ = some (.slice AL L.length cL) ∧ W0.cell? ⟨Q, 0, none⟩ = some (.int .i64 2) ∧ W0.cell? ⟨Q, 1, none⟩ = some (.int .i64 7) ∧ W0.cell? ⟨Q, 2, none⟩ = some (.int .i64 u) ∧ W0.grownBy W0 (some (w.heap.size + 1)) := ⟨HS0.out.2.2.2.2.1, HS0.out.2.2.2.2.2.1, keep_cell hcw f0, keep_cell hcw f1, keep_cell hcw f2, gb_refl _ _⟩
      clear hS1 hcw hW0 HR1 hcn f0 f1 f2
      have hS := hS7
      clear hS7
      refine all_split 9 2 (by decide) ?_ ?_
      · refine all_seq_core [0, 1, 3, 4, 9, 2, 5, 6, 7, 8, 10, 11] (fun W => W.cell? ⟨T, 0, none⟩ = some (.int .i64 (M)) ∧ W.cell? ⟨T, 1, none⟩ = some (.slice AL L.length cL) ∧ W.cell? ⟨Q, 0, none⟩ = some (.int .i64 2) ∧ W.cell? ⟨Q, 1, none⟩ = some (.int .i64 7) ∧ W.cell? ⟨Q, 2, none⟩ = some (.int .i64 u) ∧ W0.grownBy W (some (w.heap.size + 1))) (addE_core 9 2 _) (by kernel_rfl) hS ?_
        simp only [byNum, List.getElem?_cons_zero, List.getElem?_cons_succ]
        repeat (first
          | ((refine seq_skip (by rfl) (by rfl) ?_); simp only [Act.put, zp1, zp2, zp3])
          | ((refine seq_val (v := ?_) (by rfl) (by rfl) (fun w hS => ?_) ?_); rotate_left; (focus ((try dsimp only at hS); go_simp; (try (with_reducible rfl)); done)); simp only [Act.put, zp1, zp2, zp3]))
        refine seq_deed (v := ?_) (w' := ?_) (by rfl) (by rfl) ?_ ?_
        rotate_left
        rotate_left
        focus (go_simp; (constructor <;> (with_reducible rfl)); done)
        obtain ⟨X1, hX1⟩ : ∃ X, World.alloc W0 (.cells #[.int .i64 0, .slice none 0 0] 26) = X := ⟨_, rfl⟩
        rw [hX1]
        have hbx : Below W0.heap.size W0 X1 := by rw [← hX1]; go_grown
        have hlHT := (hS.2.2.2.2.2).size
        have hmHT : W0.heap.size < X1.heap.size := by rw [← hX1]; simp
        have HT9 := hide (show TZ X1 W0.heap.size 26 from by rw [← hX1]; exact TZ.new _ _)
        have HRAb := hide (own_below HRA.out hbx)
        clear HRA
        have HRA := HRAb
        clear HRAb
        have HCb := hide (HC.out.below hbx)
        clear HC
        have HC := HCb
        clear HCb
        have hS2 : X1.cell? ⟨T, 0, none⟩ = some (.int .i64 (M)) ∧ X1.cell? ⟨T, 1, none⟩ = some (.slice AL L.length cL) ∧ X1.cell? ⟨Q, 0, none⟩ = some (.int .i64 2) ∧ X1.cell? ⟨Q, 1, none⟩ = some (.int .i64 7) ∧ X1.cell? ⟨Q, 2, none⟩ = some (.int .i64 u) ∧ W0.grownBy X1 (some (w.heap.size + 1)) := ⟨keep_cell hbx (hS.1), keep_cell hbx (hS.2.1), keep_cell hbx (hS.2.2.1), keep_cell hbx (hS.2.2.2.1), keep_cell hbx (hS.2.2.2.2.1), gb_below (hS.2.2.2.2.2) hbx⟩
        clear hS
        have hS := hS2
        clear hS2
        have hsz := (hS.2.2.2.2.2).size
        clear hbx
        clear hX1
        have HT := HT9
        clear HT9
        refine ⟨(fun W => W.cell? ⟨T, 0, none⟩ = some (.int .i64 (M)) ∧ W.cell? ⟨T, 1, none⟩ = some (.slice AL L.length cL) ∧ W.cell? ⟨Q, 0, none⟩ = some (.int .i64 2) ∧ W.cell? ⟨Q, 1, none⟩ = some (.int .i64 7) ∧ W.cell? ⟨Q, 2, none⟩ = some (.int .i64 u) ∧ W0.grownBy W (some (w.heap.size + 1))), hS, (fun W h => h), ?_⟩
        simp only [Act.put, zp1, zp2, zp3]
        repeat (first
          | ((refine seq_skip (by rfl) (by rfl) ?_); simp only [Act.put, zp1, zp2, zp3])
          | ((refine seq_val (v := ?_) (by rfl) (by rfl) (fun w hS => ?_) ?_); rotate_left; (focus ((try dsimp only at hS); go_simp; (try (with_reducible rfl)); done)); simp only [Act.put, zp1, zp2, zp3]))
        refine seq_call (f := ?_) (args := ?_) (by rfl) (by rfl) ?_ ?_
        rotate_left
        rotate_left
        focus (go_simp; (constructor <;> (with_reducible rfl)); done)
        refine (l5Hex_c 2 7 u (by omega) (by omega) (by omega) (by omega) u0 (by omega) _).mono ?_
        rintro e X2 ⟨z, rfl, hz9, hbx⟩
        have HRAb := hide (own_below HRA.out hbx)
        clear HRA
        have HRA := HRAb
        clear HRAb
        have HTb := hide (HT.out.below hbx)
        clear HT
        have HT := HTb
        clear HTb
        have HCb := hide (HC.out.below hbx)
        clear HC
        have HC := HCb
        clear HCb
        have hS2 : X2.cell? ⟨T, 0, none⟩ = some (.int .i64 (M)) ∧ X2.cell? ⟨T, 1, none⟩ = some (.slice AL L.length cL) ∧ X2.cell? ⟨Q, 0, none⟩ = some (.int .i64 2) ∧ X2.cell? ⟨Q, 1, none⟩ = some (.int .i64 7) ∧ X2.cell? ⟨Q, 2, none⟩ = some (.int .i64 u) ∧ W0.grownBy X2 (some (w.heap.size + 1)) := ⟨keep_cell hbx (hS.1), keep_cell hbx (hS.2.1), keep_cell hbx (hS.2.2.1), keep_cell hbx (hS.2.2.2.1), keep_cell hbx (hS.2.2.2.2.1), gb_below (hS.2.2.2.2.2) hbx⟩
        clear hS
        have hS := hS2
        clear hS2
        have hsz := (hS.2.2.2.2.2).size
        clear hbx
        refine ⟨_, rfl, (fun W => W.cell? ⟨T, 0, none⟩ = some (.int .i64 (M)) ∧ W.cell? ⟨T, 1, none⟩ = some (.slice AL L.length cL) ∧ W.cell? ⟨Q, 0, none⟩ = some (.int .i64 2) ∧ W.cell? ⟨Q, 1, none⟩ = some (.int .i64 7) ∧ W.cell? ⟨Q, 2, none⟩ = some (.int .i64 u) ∧ W0.grownBy W (some (w.heap.size + 1))), hS, (fun W h => h), ?_⟩
        simp only [Act.put, zp1, zp2, zp3]
        repeat (first
          | ((refine seq_skip (by rfl) (by rfl) ?_); simp only [Act.put, zp1, zp2, zp3])
          | ((refine seq_val (v := ?_) (by rfl) (by rfl) (fun w hS => ?_) ?_); rotate_left; (focus ((try dsimp only at hS); go_simp; (try (with_reducible rfl)); done)); simp only [Act.put, zp1, zp2, zp3]))
        refine seq_call (f := ?_) (args := ?_) (by rfl) (by rfl) ?_ ?_
        rotate_left
        rotate_left
        focus (go_simp; (constructor <;> (with_reducible rfl)); done)
        refine (sReceive_c M AL cL L z M X2 (hide (own_reads HRA.out)) (by omega) (by omega)).mono ?_
        rintro e X3 ⟨B, d, rfl, hown, hbx⟩
        have hszc : W0.heap.size ≤ X2.heap.size := (hS.2.2.2.2.2).size
        have hBN : (Value.slice B (RvV M L z M).length d).ownBlock ≠ some (W0.heap.size) := fun e => by have h8 := (hown.lt _ e).1; have h7 := HT.out.2.2.1.1; omega
        have hBT : (Value.slice B (RvV M L z M).length d).ownBlock ≠ some T := fun e => by have h8 := (hown.lt _ e).1; omega
        have HRAb := hide (own_below HRA.out hbx)
        clear HRA
        have HRA := HRAb
        clear HRAb
        have HTb := hide (HT.out.below hbx)
        clear HT
        have HT := HTb
        clear HTb
        have HCb := hide (HC.out.below hbx)
        clear HC
        have HC := HCb
        clear HCb
        have hS2 : X3.cell? ⟨T, 0, none⟩ = some (.int .i64 (M)) ∧ X3.cell? ⟨T, 1, none⟩ = some (.slice AL L.length cL) ∧ X3.cell? ⟨Q, 0, none⟩ = some (.int .i64 2) ∧ X3.cell? ⟨Q, 1, none⟩ = some (.int .i64 7) ∧ X3.cell? ⟨Q, 2, none⟩ = some (.int .i64 u) ∧ W0.grownBy X3 (some (w.heap.size + 1)) := ⟨keep_cell hbx (hS.1), keep_cell hbx (hS.2.1), keep_cell hbx (hS.2.2.1), keep_cell hbx (hS.2.2.2.1), keep_cell hbx (hS.2.2.2.2.1), gb_below (hS.2.2.2.2.2) hbx⟩
        clear hS
        have hS := hS2
        clear hS2
        have hsz := (hS.2.2.2.2.2).size
        clear hbx
        have HO := hide (own_mono hown (show w.heap.size + 2 ≤ X2.heap.size by omega))
        clear hown
        refine ⟨_, rfl, (fun W => W.cell? ⟨T, 0, none⟩ = some (.int .i64 (M)) ∧ W.cell? ⟨T, 1, none⟩ = some (.slice AL L.length cL) ∧ W.cell? ⟨Q, 0, none⟩ = some (.int .i64 2) ∧ W.cell? ⟨Q, 1, none⟩ = some (.int .i64 7) ∧ W.cell? ⟨Q, 2, none⟩ = some (.int .i64 u) ∧ W0.grownBy W (some (w.heap.size + 1))), hS, (fun W h => h), ?_⟩
        simp only [Act.put, zp1, zp2, zp3]
        repeat (first
          | ((refine seq_skip (by rfl) (by rfl) ?_); simp only [Act.put, zp1, zp2, zp3])
          | ((refine seq_val (v := ?_) (by rfl) (by rfl) (fun w hS => ?_) ?_); rotate_left; (focus ((try dsimp only at hS); go_simp; (try (with_reducible rfl)); done)); simp only [Act.put, zp1, zp2, zp3]))
        have hAN : (Value.slice AL L.length cL).ownBlock ≠ some (W0.heap.size) := ty_ne HRA.out HT.out.2.2.2 (by decide)
        have hGq := hS.2.2.2.2.2
        obtain ⟨X9, hX9⟩ : ∃ X, (X3.setCell ⟨W0.heap.size, 0, none⟩ (.int .i64 (RvM M L z M))).setCell ⟨W0.heap.size, 1, none⟩ (.slice B (RvV M L z M).length d) = X := ⟨_, rfl⟩
        obtain ⟨y0, y1, ⟨y2, y3⟩, _⟩ := HT.out
        refine seq_store (w' := X9) (by rfl) (by rfl) (by rw [← hX9]; go_simp; (try (with_reducible rfl)); done) ?_
        have hS2 : X9.cell? ⟨T, 0, none⟩ = some (.int .i64 (M)) ∧ X9.cell? ⟨T, 1, none⟩ = some (.slice AL L.length cL) ∧ X9.cell? ⟨Q, 0, none⟩ = some (.int .i64 2) ∧ X9.cell? ⟨Q, 1, none⟩ = some (.int .i64 7) ∧ X9.cell? ⟨Q, 2, none⟩ = some (.int .i64 u) ∧ W0.grownBy X9 (some (w.heap.size + 1)) := ⟨(by rw [← hX9]; exact sc _ (by omega) (sc _ (by omega) (hS.1))), (by rw [← hX9]; exact sc _ (by omega) (sc _ (by omega) (hS.2.1))), (by rw [← hX9]; exact sc _ (by omega) (sc _ (by omega) (hS.2.2.1))), (by rw [← hX9]; exact sc _ (by omega) (sc _ (by omega) (hS.2.2.2.1))), (by rw [← hX9]; exact sc _ (by omega) (sc _ (by omega) (hS.2.2.2.2.1))), (by rw [← hX9]; exact gb_seta (gb_seta hGq (show W0.heap.size ≤ W0.heap.size by omega) _) (show W0.heap.size ≤ W0.heap.size by omega) _)⟩
        clear hS
        have hS := hS2
        clear hS2
        have hsz := (hS.2.2.2.2.2).size
        refine ⟨(fun W => W.cell? ⟨T, 0, none⟩ = some (.int .i64 (M)) ∧ W.cell? ⟨T, 1, none⟩ = some (.slice AL L.length cL) ∧ W.cell? ⟨Q, 0, none⟩ = some (.int .i64 2) ∧ W.cell? ⟨Q, 1, none⟩ = some (.int .i64 7) ∧ W.cell? ⟨Q, 2, none⟩ = some (.int .i64 u) ∧ W0.grownBy W (some (w.heap.size + 1))), hS, (fun W h => h), ?_⟩
        simp only [Act.put, zp1, zp2, zp3]
        repeat (first
          | ((refine seq_skip (by rfl) (by rfl) ?_); simp only [Act.put, zp1, zp2, zp3])
          | ((refine seq_val (v := ?_) (by rfl) (by rfl) (fun w hS => ?_) ?_); rotate_left; (focus ((try dsimp only at hS); go_simp; (try (with_reducible rfl)); done)); simp only [Act.put, zp1, zp2, zp3]))
        refine seq_nil ?_
        go_wp2_with fail
        go_meet
        case rel => exact ⟨W0.heap.size, RvK M L z M, RvM M L z M, (RvV M L z M), B, d, rfl, rfl, by omega, hBT, (fun h => RvM_of h), RvV_len M L z M, hide (by rw [← hX9]; exact ((HC.out.setc (show w.heap.size + 1 < W0.heap.size by omega) _).setc (show w.heap.size + 1 < W0.heap.size by omega) _).more (by omega)), hide (by rw [← hX9]; exact ownsRow_setCell_other (ownsRow_setCell_other HRA.out (a := ⟨W0.heap.size, 0, none⟩) hAN _) (a := ⟨W0.heap.size, 1, none⟩) hAN _), hide (by rw [← hX9]; exact ownsRow_setCell_other (ownsRow_setCell_other HO.out (a := ⟨W0.heap.size, 0, none⟩) hBN _) (a := ⟨W0.heap.size, 1, none⟩) hBN _), (by rw [← hX9]; exact ⟨sf _ (sf _ (fre_gb (HS0.out.1) hGq (ne_some (show w.heap.size ≠ w.heap.size + 1 by omega)))), sc _ (by omega) (sc _ (by omega) (gc hGq (HS0.out.2.1) (show w.heap.size ≠ w.heap.size + 1 by omega))), sc _ (by omega) (sc _ (by omega) (gc hGq (HS0.out.2.2.1) (show w.heap.size ≠ w.heap.size + 1 by omega))), sf _ (sf _ (fre_gb (HS0.out.2.2.2.1) hGq (ne_some (show T ≠ w.heap.size + 1 by omega)))), sc _ (by omega) (sc _ (by omega) (gc hGq (HS0.out.2.2.2.2.1) (show T ≠ w.heap.size + 1 by omega))), sc _ (by omega) (sc _ (by omega) (gc hGq (HS0.out.2.2.2.2.2.1) (show T ≠ w.heap.size + 1 by omega))), sf _ (sf _ (fre_gb (HS0.out.2.2.2.2.2.2.1) hGq (ne_some (show P ≠ w.heap.size + 1 by omega)))), sc _ (by omega) (sc _ (by omega) (gc hGq (HS0.out.2.2.2.2.2.2.2.1) (show P ≠ w.heap.size + 1 by omega))), sc _ (by omega) (sc _ (by omega) (gc hGq (HS0.out.2.2.2.2.2.2.2.2.1) (show P ≠ w.heap.size + 1 by omega))), sc_off (by omega) (sc_at y0), sc_at (sc_off (by omega) y1), ((below_gb (HS0.out.2.2.2.2.2.2.2.2.2) hGq (show w.heap.size ≤ W0.heap.size by omega) (show w.heap.size ≤ w.heap.size + 1 by omega)).setCell (p := ⟨W0.heap.size, 0, none⟩) (show w.heap.size ≤ W0.heap.size by omega) _).setCell (p := ⟨W0.heap.size, 1, none⟩) (show w.heap.size ≤ W0.heap.size by omega) _⟩)⟩
      · refine all_split 9 5 (by decide) ?_ ?_
        · refine all_seq_core [0, 1, 3, 4, 2, 9, 5, 6, 7, 8, 10, 11] (fun W => W.cell? ⟨T, 0, none⟩ = some (.int .i64 (M)) ∧ W.cell? ⟨T, 1, none⟩ = some (.slice AL L.length cL) ∧ W.cell? ⟨Q, 0, none⟩ = some (.int .i64 2) ∧ W.cell? ⟨Q, 1, none⟩ = some (.int .i64 7) ∧ W.cell? ⟨Q, 2, none⟩ = some (.int .i64 u) ∧ W0.grownBy W (some (w.heap.size + 1))) (Core.trans (addE_core 2 9 _) (addE_core 9 5 _)) (by kernel_rfl) hS ?_
          simp only [byNum, List.getElem?_cons_zero, List.getElem?_cons_succ]
          repeat (first
            | ((refine seq_skip (by rfl) (by rfl) ?_); simp only [Act.put, zp1, zp2, zp3])
            | ((refine seq_val (v := ?_) (by rfl) (by rfl) (fun w hS => ?_) ?_); rotate_left; (focus ((try dsimp only at hS); go_simp; (try (with_reducible rfl)); done)); simp only [Act.put, zp1, zp2, zp3]))
          refine seq_call (f := ?_) (args := ?_) (by rfl) (by rfl) ?_ ?_
          rotate_left
          rotate_left
          focus (go_simp; (constructor <;> (with_reducible rfl)); done)
          refine (l5Hex_c 2 7 u (by omega) (by omega) (by omega) (by omega) u0 (by omega) _).mono ?_
          rintro e X1 ⟨z, rfl, hz9, hbx⟩
          have HRAb := hide (own_below HRA.out hbx)
          clear HRA
          have HRA := HRAb
          clear HRAb
          have HCb := hide (HC.out.below hbx)
          clear HC
          have HC := HCb
          clear HCb
          have hS2 : X1.cell? ⟨T, 0, none⟩ = some (.int .i64 (M)) ∧ X1.cell? ⟨T, 1, none⟩ = some (.slice AL L.length cL) ∧ X1.cell? ⟨Q, 0, none⟩ = some (.int .i64 2) ∧ X1.cell? ⟨Q, 1, none⟩ = some (.int .i64 7) ∧ X1.cell? ⟨Q, 2, none⟩ = some (.int .i64 u) ∧ W0.grownBy X1 (some (w.heap.size + 1)) := ⟨keep_cell hbx (hS.1), keep_cell hbx (hS.2.1), keep_cell hbx (hS.2.2.1), keep_cell hbx (hS.2.2.2.1), keep_cell hbx (hS.2.2.2.2.1), gb_below (hS.2.2.2.2.2) hbx⟩
          clear hS
          have hS := hS2
          clear hS2
          have hsz := (hS.2.2.2.2.2).size
          clear hbx
          refine ⟨_, rfl, (fun W => W.cell? ⟨T, 0, none⟩ = some (.int .i64 (M)) ∧ W.cell? ⟨T, 1, none⟩ = some (.slice AL L.length cL) ∧ W.cell? ⟨Q, 0, none⟩ = some (.int .i64 2) ∧ W.cell? ⟨Q, 1, none⟩ = some (.int .i64 7) ∧ W.cell? ⟨Q, 2, none⟩ = some (.int .i64 u) ∧ W0.grownBy W (some (w.heap.size + 1))), hS, (fun W h => h), ?_⟩
          simp only [Act.put, zp1, zp2, zp3]
          repeat (first
            | ((refine seq_skip (by rfl) (by rfl) ?_); simp only [Act.put, zp1, zp2, zp3])
            | ((refine seq_val (v := ?_) (by rfl) (by rfl) (fun w hS => ?_) ?_); rotate_left; (focus ((try dsimp only at hS); go_simp; (try (with_reducible rfl)); done)); simp only [Act.put, zp1, zp2, zp3]))
          refine seq_deed (v := ?_) (w' := ?_) (by rfl) (by rfl) ?_ ?_
          rotate_left
          rotate_left
          focus (go_simp; (constructor <;> (with_reducible rfl)); done)
          obtain ⟨X2, hX2⟩ : ∃ X, World.alloc X1 (.cells #[.int .i64 0, .slice none 0 0] 26) = X := ⟨_, rfl⟩
          rw [hX2]
          have hbx : Below X1.heap.size X1 X2 := by rw [← hX2]; go_grown
          have hlHT := (hS.2.2.2.2.2).size
          have hmHT : X1.heap.size < X2.heap.size := by rw [← hX2]; simp
          have HT9 := hide (show TZ X2 X1.heap.size 26 from by rw [← hX2]; exact TZ.new _ _)
          have HRAb := hide (own_below HRA.out hbx)
          clear HRA
          have HRA := HRAb
          clear HRAb
          have HCb := hide (HC.out.below hbx)
          clear HC
          have HC := HCb
          clear HCb
          have hS2 : X2.cell? ⟨T, 0, none⟩ = some (.int .i64 (M)) ∧ X2.cell? ⟨T, 1, none⟩ = some (.slice AL L.length cL) ∧ X2.cell? ⟨Q, 0, none⟩ = some (.int .i64 2) ∧ X2.cell? ⟨Q, 1, none⟩ = some (.int .i64 7) ∧ X2.cell? ⟨Q, 2, none⟩ = some (.int .i64 u) ∧ W0.grownBy X2 (some (w.heap.size + 1)) := ⟨keep_cell hbx (hS.1), keep_cell hbx (hS.2.1), keep_cell hbx (hS.2.2.1), keep_cell hbx (hS.2.2.2.1), keep_cell hbx (hS.2.2.2.2.1), gb_below (hS.2.2.2.2.2) hbx⟩
          clear hS
          have hS := hS2
          clear hS2
          have hsz := (hS.2.2.2.2.2).size
          clear hbx
          clear hX2
          have HT := HT9
          clear HT9
          refine ⟨(fun W => W.cell? ⟨T, 0, none⟩ = some (.int .i64 (M)) ∧ W.cell? ⟨T, 1, none⟩ = some (.slice AL L.length cL) ∧ W.cell? ⟨Q, 0, none⟩ = some (.int .i64 2) ∧ W.cell? ⟨Q, 1, none⟩ = some (.int .i64 7) ∧ W.cell? ⟨Q, 2, none⟩ = some (.int .i64 u) ∧ W0.grownBy W (some (w.heap.size + 1))), hS, (fun W h => h), ?_⟩
          simp only [Act.put, zp1, zp2, zp3]
          repeat (first
            | ((refine seq_skip (by rfl) (by rfl) ?_); simp only [Act.put, zp1, zp2, zp3])
            | ((refine seq_val (v := ?_) (by rfl) (by rfl) (fun w hS => ?_) ?_); rotate_left; (focus ((try dsimp only at hS); go_simp; (try (with_reducible rfl)); done)); simp only [Act.put, zp1, zp2, zp3]))
          refine seq_call (f := ?_) (args := ?_) (by rfl) (by rfl) ?_ ?_
          rotate_left
          rotate_left
          focus (go_simp; (constructor <;> (with_reducible rfl)); done)
          refine (sReceive_c M AL cL L z M X2 (hide (own_reads HRA.out)) (by omega) (by omega)).mono ?_
          rintro e X3 ⟨B, d, rfl, hown, hbx⟩
          have hszc : W0.heap.size ≤ X2.heap.size := (hS.2.2.2.2.2).size
          have hBN : (Value.slice B (RvV M L z M).length d).ownBlock ≠ some (X1.heap.size) := fun e => by have h8 := (hown.lt _ e).1; have h7 := HT.out.2.2.1.1; omega
          have hBT : (Value.slice B (RvV M L z M).length d).ownBlock ≠ some T := fun e => by have h8 := (hown.lt _ e).1; omega
          have HRAb := hide (own_below HRA.out hbx)
          clear HRA
          have HRA := HRAb
          clear HRAb
          have HTb := hide (HT.out.below hbx)
          clear HT
          have HT := HTb
          clear HTb
          have HCb := hide (HC.out.below hbx)
          clear HC
          have HC := HCb
          clear HCb
          have hS2 : X3.cell? ⟨T, 0, none⟩ = some (.int .i64 (M)) ∧ X3.cell? ⟨T, 1, none⟩ = some (.slice AL L.length cL) ∧ X3.cell? ⟨Q, 0, none⟩ = some (.int .i64 2) ∧ X3.cell? ⟨Q, 1, none⟩ = some (.int .i64 7) ∧ X3.cell? ⟨Q, 2, none⟩ = some (.int .i64 u) ∧ W0.grownBy X3 (some (w.heap.size + 1)) := ⟨keep_cell hbx (hS.1), keep_cell hbx (hS.2.1), keep_cell hbx (hS.2.2.1), keep_cell hbx (hS.2.2.2.1), keep_cell hbx (hS.2.2.2.2.1), gb_below (hS.2.2.2.2.2) hbx⟩
          clear hS
          have hS := hS2
          clear hS2
          have hsz := (hS.2.2.2.2.2).size
          clear hbx
          have HO := hide (own_mono hown (show w.heap.size + 2 ≤ X2.heap.size by omega))
          clear hown
          refine ⟨_, rfl, (fun W => W.cell? ⟨T, 0, none⟩ = some (.int .i64 (M)) ∧ W.cell? ⟨T, 1, none⟩ = some (.slice AL L.length cL) ∧ W.cell? ⟨Q, 0, none⟩ = some (.int .i64 2) ∧ W.cell? ⟨Q, 1, none⟩ = some (.int .i64 7) ∧ W.cell? ⟨Q, 2, none⟩ = some (.int .i64 u) ∧ W0.grownBy W (some (w.heap.size + 1))), hS, (fun W h => h), ?_⟩
          simp only [Act.put, zp1, zp2, zp3]
          repeat (first
            | ((refine seq_skip (by rfl) (by rfl) ?_); simp only [Act.put, zp1, zp2, zp3])
            | ((refine seq_val (v := ?_) (by rfl) (by rfl) (fun w hS => ?_) ?_); rotate_left; (focus ((try dsimp only at hS); go_simp; (try (with_reducible rfl)); done)); simp only [Act.put, zp1, zp2, zp3]))
          have hAN : (Value.slice AL L.length cL).ownBlock ≠ some (X1.heap.size) := ty_ne HRA.out HT.out.2.2.2 (by decide)
          have hGq := hS.2.2.2.2.2
          obtain ⟨X9, hX9⟩ : ∃ X, (X3.setCell ⟨X1.heap.size, 0, none⟩ (.int .i64 (RvM M L z M))).setCell ⟨X1.heap.size, 1, none⟩ (.slice B (RvV M L z M).length d) = X := ⟨_, rfl⟩
          obtain ⟨y0, y1, ⟨y2, y3⟩, _⟩ := HT.out
          refine seq_store (w' := X9) (by rfl) (by rfl) (by rw [← hX9]; go_simp; (try (with_reducible rfl)); done) ?_
          have hS2 : X9.cell? ⟨T, 0, none⟩ = some (.int .i64 (M)) ∧ X9.cell? ⟨T, 1, none⟩ = some (.slice AL L.length cL) ∧ X9.cell? ⟨Q, 0, none⟩ = some (.int .i64 2) ∧ X9.cell? ⟨Q, 1, none⟩ = some (.int .i64 7) ∧ X9.cell? ⟨Q, 2, none⟩ = some (.int .i64 u) ∧ W0.grownBy X9 (some (w.heap.size + 1)) := ⟨(by rw [← hX9]; exact sc _ (by omega) (sc _ (by omega) (hS.1))), (by rw [← hX9]; exact sc _ (by omega) (sc _ (by omega) (hS.2.1))), (by rw [← hX9]; exact sc _ (by omega) (sc _ (by omega) (hS.2.2.1))), (by rw [← hX9]; exact sc _ (by omega) (sc _ (by omega) (hS.2.2.2.1))), (by rw [← hX9]; exact sc _ (by omega) (sc _ (by omega) (hS.2.2.2.2.1))), (by rw [← hX9]; exact gb_seta (gb_seta hGq (show W0.heap.size ≤ X1.heap.size by omega) _) (show W0.heap.size ≤ X1.heap.size by omega) _)⟩
          clear hS
          have hS := hS2
          clear hS2
          have hsz := (hS.2.2.2.2.2).size
          refine ⟨(fun W => W.cell? ⟨T, 0, none⟩ = some (.int .i64 (M)) ∧ W.cell? ⟨T, 1, none⟩ = some (.slice AL L.length cL) ∧ W.cell? ⟨Q, 0, none⟩ = some (.int .i64 2) ∧ W.cell? ⟨Q, 1, none⟩ = some (.int .i64 7) ∧ W.cell? ⟨Q, 2, none⟩ = some (.int .i64 u) ∧ W0.grownBy W (some (w.heap.size + 1))), hS, (fun W h => h), ?_⟩
          simp only [Act.put, zp1, zp2, zp3]
          repeat (first
            | ((refine seq_skip (by rfl) (by rfl) ?_); simp only [Act.put, zp1, zp2, zp3])
            | ((refine seq_val (v := ?_) (by rfl) (by rfl) (fun w hS => ?_) ?_); rotate_left; (focus ((try dsimp only at hS); go_simp; (try (with_reducible rfl)); done)); simp only [Act.put, zp1, zp2, zp3]))
          refine seq_nil ?_
          go_wp2_with fail
          go_meet
          case rel => exact ⟨X1.heap.size, RvK M L z M, RvM M L z M, (RvV M L z M), B, d, rfl, rfl, by omega, hBT, (fun h => RvM_of h), RvV_len M L z M, hide (by rw [← hX9]; exact ((HC.out.setc (show w.heap.size + 1 < X1.heap.size by omega) _).setc (show w.heap.size + 1 < X1.heap.size by omega) _).more (by omega)), hide (by rw [← hX9]; exact ownsRow_setCell_other (ownsRow_setCell_other HRA.out (a := ⟨X1.heap.size, 0, none⟩) hAN _) (a := ⟨X1.heap.size, 1, none⟩) hAN _), hide (by rw [← hX9]; exact ownsRow_setCell_other (ownsRow_setCell_other HO.out (a := ⟨X1.heap.size, 0, none⟩) hBN _) (a := ⟨X1.heap.size, 1, none⟩) hBN _), (by rw [← hX9]; exact ⟨sf _ (sf _ (fre_gb (HS0.out.1) hGq (ne_some (show w.heap.size ≠ w.heap.size + 1 by omega)))), sc _ (by omega) (sc _ (by omega) (gc hGq (HS0.out.2.1) (show w.heap.size ≠ w.heap.size + 1 by omega))), sc _ (by omega) (sc _ (by omega) (gc hGq (HS0.out.2.2.1) (show w.heap.size ≠ w.heap.size + 1 by omega))), sf _ (sf _ (fre_gb (HS0.out.2.2.2.1) hGq (ne_some (show T ≠ w.heap.size + 1 by omega)))), sc _ (by omega) (sc _ (by omega) (gc hGq (HS0.out.2.2.2.2.1) (show T ≠ w.heap.size + 1 by omega))), sc _ (by omega) (sc _ (by omega) (gc hGq (HS0.out.2.2.2.2.2.1) (show T ≠ w.heap.size + 1 by omega))), sf _ (sf _ (fre_gb (HS0.out.2.2.2.2.2.2.1) hGq (ne_some (show P ≠ w.heap.size + 1 by omega)))), sc _ (by omega) (sc _ (by omega) (gc hGq (HS0.out.2.2.2.2.2.2.2.1) (show P ≠ w.heap.size + 1 by omega))), sc _ (by omega) (sc _ (by omega) (gc hGq (HS0.out.2.2.2.2.2.2.2.2.1) (show P ≠ w.heap.size + 1 by omega))), sc_off (by omega) (sc_at y0), sc_at (sc_off (by omega) y1), ((below_gb (HS0.out.2.2.2.2.2.2.2.2.2) hGq (show w.heap.size ≤ W0.heap.size by omega) (show w.heap.size ≤ w.heap.size + 1 by omega)).setCell (p := ⟨X1.heap.size, 0, none⟩) (show w.heap.size ≤ X1.heap.size by omega) _).setCell (p := ⟨X1.heap.size, 1, none⟩) (show w.heap.size ≤ X1.heap.size by omega) _⟩)⟩
        · refine all_seq_core [0, 1, 3, 4, 2, 5, 6, 7, 8, 9, 10, 11] (fun W => W.cell? ⟨T, 0, none⟩ = some (.int .i64 (M)) ∧ W.cell? ⟨T, 1, none⟩ = some (.slice AL L.length cL) ∧ W.cell? ⟨Q, 0, none⟩ = some (.int .i64 2) ∧ W.cell? ⟨Q, 1, none⟩ = some (.int .i64 7) ∧ W.cell? ⟨Q, 2, none⟩ = some (.int .i64 u) ∧ W0.grownBy W (some (w.heap.size + 1))) (Core.trans (addE_core 2 9 _) (addE_core 5 9 _)) (by kernel_rfl) hS ?_
          simp only [byNum, List.getElem?_cons_zero, List.getElem?_cons_succ]
          repeat (first
            | ((refine seq_skip (by rfl) (by rfl) ?_); simp only [Act.put, zp1, zp2, zp3])
            | ((refine seq_val (v := ?_) (by rfl) (by rfl) (fun w hS => ?_) ?_); rotate_left; (focus ((try dsimp only at hS); go_simp; (try (with_reducible rfl)); done)); simp only [Act.put, zp1, zp2, zp3]))
          refine seq_call (f := ?_) (args := ?_) (by rfl) (by rfl) ?_ ?_
          rotate_left
          rotate_left
          focus (go_simp; (constructor <;> (with_reducible rfl)); done)
          refine (l5Hex_c 2 7 u (by omega) (by omega) (by omega) (by omega) u0 (by omega) _).mono ?_
          rintro e X1 ⟨z, rfl, hz9, hbx⟩
          have HRAb := hide (own_below HRA.out hbx)
          clear HRA
          have HRA := HRAb
          clear HRAb
          have HCb := hide (HC.out.below hbx)
          clear HC
          have HC := HCb
          clear HCb
          have hS2 : X1.cell? ⟨T, 0, none⟩ = some (.int .i64 (M)) ∧ X1.cell? ⟨T, 1, none⟩ = some (.slice AL L.length cL) ∧ X1.cell? ⟨Q, 0, none⟩ = some (.int .i64 2) ∧ X1.cell? ⟨Q, 1, none⟩ = some (.int .i64 7) ∧ X1.cell? ⟨Q, 2, none⟩ = some (.int .i64 u) ∧ W0.grownBy X1 (some (w.heap.size + 1)) := ⟨keep_cell hbx (hS.1), keep_cell hbx (hS.2.1), keep_cell hbx (hS.2.2.1), keep_cell hbx (hS.2.2.2.1), keep_cell hbx (hS.2.2.2.2.1), gb_below (hS.2.2.2.2.2) hbx⟩
          clear hS
          have hS := hS2
          clear hS2
          have hsz := (hS.2.2.2.2.2).size
          clear hbx
          refine ⟨_, rfl, (fun W => W.cell? ⟨T, 0, none⟩ = some (.int .i64 (M)) ∧ W.cell? ⟨T, 1, none⟩ = some (.slice AL L.length cL) ∧ W.cell? ⟨Q, 0, none⟩ = some (.int .i64 2) ∧ W.cell? ⟨Q, 1, none⟩ = some (.int .i64 7) ∧ W.cell? ⟨Q, 2, none⟩ = some (.int .i64 u) ∧ W0.grownBy W (some (w.heap.size + 1))), hS, (fun W h => h), ?_⟩
          simp only [Act.put, zp1, zp2, zp3]
          repeat (first
            | ((refine seq_skip (by rfl) (by rfl) ?_); simp only [Act.put, zp1, zp2, zp3])
            | ((refine seq_val (v := ?_) (by rfl) (by rfl) (fun w hS => ?_) ?_); rotate_left; (focus ((try dsimp only at hS); go_simp; (try (with_reducible rfl)); done)); simp only [Act.put, zp1, zp2, zp3]))
          refine seq_call (f := ?_) (args := ?_) (by rfl) (by rfl) ?_ ?_
          rotate_left
          rotate_left
          focus (go_simp; (constructor <;> (with_reducible rfl)); done)
          refine (sReceive_c M AL cL L z M X1 (hide (own_reads HRA.out)) (by omega) (by omega)).mono ?_
          rintro e X2 ⟨B, d, rfl, hown, hbx⟩
          have hszc : W0.heap.size ≤ X1.heap.size := (hS.2.2.2.2.2).size
          have hBT : (Value.slice B (RvV M L z M).length d).ownBlock ≠ some T := fun e => by have h8 := (hown.lt _ e).1; omega
          have HRAb := hide (own_below HRA.out hbx)
          clear HRA
          have HRA := HRAb
          clear HRAb
          have HCb := hide (HC.out.below hbx)
          clear HC
          have HC := HCb
          clear HCb
          have hS2 : X2.cell? ⟨T, 0, none⟩ = some (.int .i64 (M)) ∧ X2.cell? ⟨T, 1, none⟩ = some (.slice AL L.length cL) ∧ X2.cell? ⟨Q, 0, none⟩ = some (.int .i64 2) ∧ X2.cell? ⟨Q, 1, none⟩ = some (.int .i64 7) ∧ X2.cell? ⟨Q, 2, none⟩ = some (.int .i64 u) ∧ W0.grownBy X2 (some (w.heap.size + 1)) := ⟨keep_cell hbx (hS.1), keep_cell hbx (hS.2.1), keep_cell hbx (hS.2.2.1), keep_cell hbx (hS.2.2.2.1), keep_cell hbx (hS.2.2.2.2.1), gb_below (hS.2.2.2.2.2) hbx⟩
          clear hS
          have hS := hS2
          clear hS2
          have hsz := (hS.2.2.2.2.2).size
          clear hbx
          have HO := hide (own_mono hown (show w.heap.size + 2 ≤ X1.heap.size by omega))
          have hOL := hide hown
          clear hown
          refine ⟨_, rfl, (fun W => W.cell? ⟨T, 0, none⟩ = some (.int .i64 (M)) ∧ W.cell? ⟨T, 1, none⟩ = some (.slice AL L.length cL) ∧ W.cell? ⟨Q, 0, none⟩ = some (.int .i64 2) ∧ W.cell? ⟨Q, 1, none⟩ = some (.int .i64 7) ∧ W.cell? ⟨Q, 2, none⟩ = some (.int .i64 u) ∧ W0.grownBy W (some (w.heap.size + 1))), hS, (fun W h => h), ?_⟩
          simp only [Act.put, zp1, zp2, zp3]
          repeat (first
            | ((refine seq_skip (by rfl) (by rfl) ?_); simp only [Act.put, zp1, zp2, zp3])
            | ((refine seq_val (v := ?_) (by rfl) (by rfl) (fun w hS => ?_) ?_); rotate_left; (focus ((try dsimp only at hS); go_simp; (try (with_reducible rfl)); done)); simp only [Act.put, zp1, zp2, zp3]))
          refine seq_deed (v := ?_) (w' := ?_) (by rfl) (by rfl) ?_ ?_
          rotate_left
          rotate_left
          focus (go_simp; (constructor <;> (with_reducible rfl)); done)
          obtain ⟨X3, hX3⟩ : ∃ X, World.alloc X2 (.cells #[.int .i64 0, .slice none 0 0] 26) = X := ⟨_, rfl⟩
          rw [hX3]
          have hbx : Below X2.heap.size X2 X3 := by rw [← hX3]; go_grown
          have hlHT := (hS.2.2.2.2.2).size
          have hmHT : X2.heap.size < X3.heap.size := by rw [← hX3]; simp
          have HT9 := hide (show TZ X3 X2.heap.size 26 from by rw [← hX3]; exact TZ.new _ _)
          have HRAb := hide (own_below HRA.out hbx)
          clear HRA
          have HRA := HRAb
          clear HRAb
          have HOb := hide (own_below HO.out hbx)
          clear HO
          have HO := HOb
          clear HOb
          have HCb := hide (HC.out.below hbx)
          clear HC
          have HC := HCb
          clear HCb
          have hS2 : X3.cell? ⟨T, 0, none⟩ = some (.int .i64 (M)) ∧ X3.cell? ⟨T, 1, none⟩ = some (.slice AL L.length cL) ∧ X3.cell? ⟨Q, 0, none⟩ = some (.int .i64 2) ∧ X3.cell? ⟨Q, 1, none⟩ = some (.int .i64 7) ∧ X3.cell? ⟨Q, 2, none⟩ = some (.int .i64 u) ∧ W0.grownBy X3 (some (w.heap.size + 1)) := ⟨keep_cell hbx (hS.1), keep_cell hbx (hS.2.1), keep_cell hbx (hS.2.2.1), keep_cell hbx (hS.2.2.2.1), keep_cell hbx (hS.2.2.2.2.1), gb_below (hS.2.2.2.2.2) hbx⟩
          clear hS
          have hS := hS2
          clear hS2
          have hsz := (hS.2.2.2.2.2).size
          clear hbx
          clear hX3
          have HT := HT9
          clear HT9
          refine ⟨(fun W => W.cell? ⟨T, 0, none⟩ = some (.int .i64 (M)) ∧ W.cell? ⟨T, 1, none⟩ = some (.slice AL L.length cL) ∧ W.cell? ⟨Q, 0, none⟩ = some (.int .i64 2) ∧ W.cell? ⟨Q, 1, none⟩ = some (.int .i64 7) ∧ W.cell? ⟨Q, 2, none⟩ = some (.int .i64 u) ∧ W0.grownBy W (some (w.heap.size + 1))), hS, (fun W h => h), ?_⟩
          simp only [Act.put, zp1, zp2, zp3]
          repeat (first
            | ((refine seq_skip (by rfl) (by rfl) ?_); simp only [Act.put, zp1, zp2, zp3])
            | ((refine seq_val (v := ?_) (by rfl) (by rfl) (fun w hS => ?_) ?_); rotate_left; (focus ((try dsimp only at hS); go_simp; (try (with_reducible rfl)); done)); simp only [Act.put, zp1, zp2, zp3]))
          have hBN : (Value.slice B (RvV M L z M).length d).ownBlock ≠ some (X2.heap.size) := fun e => by have h8 := (hOL.out.lt _ e).2; omega
          have hAN : (Value.slice AL L.length cL).ownBlock ≠ some (X2.heap.size) := ty_ne HRA.out HT.out.2.2.2 (by decide)
          have hGq := hS.2.2.2.2.2
          obtain ⟨X9, hX9⟩ : ∃ X, (X3.setCell ⟨X2.heap.size, 0, none⟩ (.int .i64 (RvM M L z M))).setCell ⟨X2.heap.size, 1, none⟩ (.slice B (RvV M L z M).length d) = X := ⟨_, rfl⟩
          obtain ⟨y0, y1, ⟨y2, y3⟩, _⟩ := HT.out
          refine seq_store (w' := X9) (by rfl) (by rfl) (by rw [← hX9]; go_simp; (try (with_reducible rfl)); done) ?_
          have hS2 : X9.cell? ⟨T, 0, none⟩ = some (.int .i64 (M)) ∧ X9.cell? ⟨T, 1, none⟩ = some (.slice AL L.length cL) ∧ X9.cell? ⟨Q, 0, none⟩ = some (.int .i64 2) ∧ X9.cell? ⟨Q, 1, none⟩ = some (.int .i64 7) ∧ X9.cell? ⟨Q, 2, none⟩ = some (.int .i64 u) ∧ W0.grownBy X9 (some (w.heap.size + 1)) := ⟨(by rw [← hX9]; exact sc _ (by omega) (sc _ (by omega) (hS.1))), (by rw [← hX9]; exact sc _ (by omega) (sc _ (by omega) (hS.2.1))), (by rw [← hX9]; exact sc _ (by omega) (sc _ (by omega) (hS.2.2.1))), (by rw [← hX9]; exact sc _ (by omega) (sc _ (by omega) (hS.2.2.2.1))), (by rw [← hX9]; exact sc _ (by omega) (sc _ (by omega) (hS.2.2.2.2.1))), (by rw [← hX9]; exact gb_seta (gb_seta hGq (show W0.heap.size ≤ X2.heap.size by omega) _) (show W0.heap.size ≤ X2.heap.size by omega) _)⟩
          clear hS
          have hS := hS2
          clear hS2
          have hsz := (hS.2.2.2.2.2).size
          refine ⟨(fun W => W.cell? ⟨T, 0, none⟩ = some (.int .i64 (M)) ∧ W.cell? ⟨T, 1, none⟩ = some (.slice AL L.length cL) ∧ W.cell? ⟨Q, 0, none⟩ = some (.int .i64 2) ∧ W.cell? ⟨Q, 1, none⟩ = some (.int .i64 7) ∧ W.cell? ⟨Q, 2, none⟩ = some (.int .i64 u) ∧ W0.grownBy W (some (w.heap.size + 1))), hS, (fun W h => h), ?_⟩
          simp only [Act.put, zp1, zp2, zp3]
          repeat (first
            | ((refine seq_skip (by rfl) (by rfl) ?_); simp only [Act.put, zp1, zp2, zp3])
            | ((refine seq_val (v := ?_) (by rfl) (by rfl) (fun w hS => ?_) ?_); rotate_left; (focus ((try dsimp only at hS); go_simp; (try (with_reducible rfl)); done)); simp only [Act.put, zp1, zp2, zp3]))
          refine seq_nil ?_
          go_wp2_with fail
          go_meet
          case rel => exact ⟨X2.heap.size, RvK M L z M, RvM M L z M, (RvV M L z M), B, d, rfl, rfl, by omega, hBT, (fun h => RvM_of h), RvV_len M L z M, hide (by rw [← hX9]; exact ((HC.out.setc (show w.heap.size + 1 < X2.heap.size by omega) _).setc (show w.heap.size + 1 < X2.heap.size by omega) _).more (by omega)), hide (by rw [← hX9]; exact ownsRow_setCell_other (ownsRow_setCell_other HRA.out (a := ⟨X2.heap.size, 0, none⟩) hAN _) (a := ⟨X2.heap.size, 1, none⟩) hAN _), hide (by rw [← hX9]; exact ownsRow_setCell_other (ownsRow_setCell_other HO.out (a := ⟨X2.heap.size, 0, none⟩) hBN _) (a := ⟨X2.heap.size, 1, none⟩) hBN _), (by rw [← hX9]; exact ⟨sf _ (sf _ (fre_gb (HS0.out.1) hGq (ne_some (show w.heap.size ≠ w.heap.size + 1 by omega)))), sc _ (by omega) (sc _ (by omega) (gc hGq (HS0.out.2.1) (show w.heap.size ≠ w.heap.size + 1 by omega))), sc _ (by omega) (sc _ (by omega) (gc hGq (HS0.out.2.2.1) (show w.heap.size ≠ w.heap.size + 1 by omega))), sf _ (sf _ (fre_gb (HS0.out.2.2.2.1) hGq (ne_some (show T ≠ w.heap.size + 1 by omega)))), sc _ (by omega) (sc _ (by omega) (gc hGq (HS0.out.2.2.2.2.1) (show T ≠ w.heap.size + 1 by omega))), sc _ (by omega) (sc _ (by omega) (gc hGq (HS0.out.2.2.2.2.2.1) (show T ≠ w.heap.size + 1 by omega))), sf _ (sf _ (fre_gb (HS0.out.2.2.2.2.2.2.1) hGq (ne_some (show P ≠ w.heap.size + 1 by omega)))), sc _ (by omega) (sc _ (by omega) (gc hGq (HS0.out.2.2.2.2.2.2.2.1) (show P ≠ w.heap.size + 1 by omega))), sc _ (by omega) (sc _ (by omega) (gc hGq (HS0.out.2.2.2.2.2.2.2.2.1) (show P ≠ w.heap.size + 1 by omega))), sc_off (by omega) (sc_at y0), sc_at (sc_off (by omega) y1), ((below_gb (HS0.out.2.2.2.2.2.2.2.2.2) hGq (show w.heap.size ≤ W0.heap.size by omega) (show w.heap.size ≤ w.heap.size + 1 by omega)).setCell (p := ⟨X2.heap.size, 0, none⟩) (show w.heap.size ≤ X2.heap.size by omega) _).setCell (p := ⟨X2.heap.size, 1, none⟩) (show w.heap.size ≤ X2.heap.size by omega) _⟩)⟩
    (try clear hS1)
    (try clear HR1)
    (try clear hcn)
    (try clear hzw)
    (try clear f0)
    (try clear f1)
    (try clear f2)
    obtain ⟨N, K, m2, l2, B, d, rfl, rfl, hTN, hBT, hKb, hl2, HCU, HRA, HRB, hS⟩ := hcut
    have hgr := hS.2.2.2.2.2.2.2.2.2.2.2
    have hzw : w.heap.size ≤ wc.heap.size := hgr.size
    rcases K with _ | _
    · go_wp2_with fail
      go_roundw
      case rel => exact ⟨i + 1, M, L, AL, cL, by omega, by go_num, ⟨M0, M1⟩, by omega, hLT, hide (HCU.out.more (by omega)), HRA, hS.1, hS.2.1, hS.2.2.1, hS.2.2.2.1, hS.2.2.2.2.1, hS.2.2.2.2.2.1, hS.2.2.2.2.2.2.1, hS.2.2.2.2.2.2.2.1, hS.2.2.2.2.2.2.2.2.1, hgr⟩
      case measure => simp [intOf]; omega
    have hm2 := hKb rfl
    subst hm2
    have fz : ∀ q, wc.frozen? ⟨T, q, none⟩ = false := (hS.2.2.2.1).2
    go_wp2_with fail
    go_roundw
    case rel => exact ⟨i + 1, m2, l2, B, d, by omega, by go_num, ⟨by omega, by omega⟩, by omega, hBT, hide (((HCU.out.setc hgT _).setc hgT _).more (by omega)), hide (ownsRow_setCell_other (ownsRow_setCell_other HRB.out (a := ⟨T, 0, none⟩) hBT _) (a := ⟨T, 1, none⟩) hBT _), sf _ (sf _ (hS.1)), sc _ (by omega) (sc _ (by omega) (hS.2.1)), sc _ (by omega) (sc _ (by omega) (hS.2.2.1)), sf _ (sf _ (hS.2.2.2.1)), sc_off (by omega) (sc_at (hS.2.2.2.2.1)), sc_at (sc_off (by omega) (hS.2.2.2.2.2.1)), sf _ (sf _ (hS.2.2.2.2.2.2.1)), sc _ (by omega) (sc _ (by omega) (hS.2.2.2.2.2.2.2.1)), sc _ (by omega) (sc _ (by omega) (hS.2.2.2.2.2.2.2.2.1)), (hgr.setCell (p := ⟨T, 0, none⟩) (show w.heap.size ≤ T by omega) _).setCell (p := ⟨T, 1, none⟩) (show w.heap.size ≤ T by omega) _⟩
    case measure => simp [intOf]; omega
end Go.Proofs.Ytbeojfhakmbacaa
