/- What is proved here is used by the law below: contracts of functions and plain lemmas (part 16 of 17). Their conditions stand in each. -/
import Derived.Test.YtbeojfhakmbacaaFinRjaa
import Derived.Test.YtbeojfhakmbacaaFinRjac
import Derived.Test.YtbeojfhakmbacaaFinRjah
import Derived.Test.YtbeojfhakmbacaaFinRjao
namespace Go.Proofs.Ytbeojfhakmbacaa
open Go.RowKit
def DrawsRI (w : World) (e : Ending) (w' : World) : Prop := ∃ (m : Int) (l : List Hd) (A : Option Addr) (c : Nat) (x : Int), e = .returned (.tuple #[.agg #[.int .i64 m, .slice A l.length c], .int .i64 x]) ∧ w'.ownsRow w.heap.size 42 10 (.slice A l.length c) l.length (hds l) ∧ l.length ≤ 20 ∧ (-1 ≤ m ∧ m ≤ 10000) ∧ (-1000000 ≤ x ∧ x ≤ 1000000) ∧ Below w.heap.size w w'
set_option maxHeartbeats 4000000 in
theorem drawHeard_c (A : Option Addr) (n c : Nat) (w : World) (h1 : Hid (CodeOk w A n)) (hn : n ≤ 65536)  : Calls Try.prog 48 #[.slice A n c] w (DrawsRI w) := by
  go_enter Try.func48, Try.ntmps48
  go_wp2_with fail
  refine (receiver_c (w.heap.size + 1) (0) _ (hide (cur_new (h1.out.below (by go_grown)) hn (by first | rfl | (simp; done)) 0)) (by omega)).mono ?_
  rintro e w1 ⟨_, rfl, ⟨m, l, AR, cR, rfl, hrow, hl9, hm0, hm1⟩, hcn, hgn⟩
  have hT : Cur w1 (w.heap.size + 1) (0 + 280) ∧ (w.heap.size < w1.heap.size ∧ ∀ i, w1.frozen? ⟨w.heap.size, i, none⟩ = false) ∧ w1.cell? ⟨w.heap.size, 0, none⟩ = some (.int .i64 (0)) ∧ w1.cell? ⟨w.heap.size, 1, none⟩ = some (.slice none 0 0) ∧ Below w.heap.size w w1 := (fun W h hgn => ⟨hcn, fre_gb (h.2.1) hgn (by intro e; injection e with e; (try dsimp only at e); omega), hgn.cell (h.2.2.1) (by intro e; injection e with e; (try dsimp only at e); omega), hgn.cell (h.2.2.2.1) (by intro e; injection e with e; (try dsimp only at e); omega), below_gb (h.2.2.2.2) hgn (h.2.2.2.2).size (by first | omega | (simp; done) | (simp; omega))⟩ : ∀ W : World, (Cur W (w.heap.size + 1) (0) ∧ (w.heap.size < W.heap.size ∧ ∀ i, W.frozen? ⟨w.heap.size, i, none⟩ = false) ∧ W.cell? ⟨w.heap.size, 0, none⟩ = some (.int .i64 (0)) ∧ W.cell? ⟨w.heap.size, 1, none⟩ = some (.slice none 0 0) ∧ Below w.heap.size w W) → W.grownBy w1 (some (w.heap.size + 1)) → (Cur w1 (w.heap.size + 1) (0 + 280) ∧ (w.heap.size < w1.heap.size ∧ ∀ i, w1.frozen? ⟨w.heap.size, i, none⟩ = false) ∧ w1.cell? ⟨w.heap.size, 0, none⟩ = some (.int .i64 (0)) ∧ w1.cell? ⟨w.heap.size, 1, none⟩ = some (.slice none 0 0) ∧ Below w.heap.size w w1)) _ ⟨(cur_new (h1.out.below (by go_grown)) hn (by first | rfl | (simp; done)) 0), (by first | (with_reducible assumption) | (simp [go_sem]; done) | (refine keep_fre ?_ ⟨by with_reducible assumption, by with_reducible assumption⟩; go_grown; done) | (simp [go_sem, *]; done)), (by first | (with_reducible assumption) | (simp [go_sem]; done) | ((simp only [go_sem]); (with_reducible assumption)) | ((refine keep_cell ?_ (by with_reducible assumption)); go_grown; done) | (simp [go_sem, *]; done) | (rw [World.cell?_setCell_other _ _ _ _ (by simp; omega)]; with_reducible assumption) | (rw [World.cell?_setCell_other _ _ _ _ (by simp; omega), World.cell?_setCell_other _ _ _ _ (by simp; omega)]; with_reducible assumption)), (by first | (with_reducible assumption) | (simp [go_sem]; done) | ((simp only [go_sem]); (with_reducible assumption)) | ((refine keep_cell ?_ (by with_reducible assumption)); go_grown; done) | (simp [go_sem, *]; done) | (rw [World.cell?_setCell_other _ _ _ _ (by simp; omega)]; with_reducible assumption) | (rw [World.cell?_setCell_other _ _ _ _ (by simp; omega), World.cell?_setCell_other _ _ _ _ (by simp; omega)]; with_reducible assumption)), (by go_grown)⟩ hgn
  (try clear hS)
  have hS := hT
  clear hT hcn hgn
  have hS2 := hS
  obtain ⟨hq0, ⟨f0, fr0⟩, q1, q2, hF⟩ := hS2
  have hgl : w.heap.size + 1 < w1.heap.size := hq0.lt
  have hzw : w.heap.size ≤ w1.heap.size := hF.size
  have hB := hF
  have hz1 : w.heap.size < w1.heap.size := World.block_lt_of_cell? w1 _ q1
  have hT : Cur w1 (w.heap.size + 1) (0 + 280) ∧ (w.heap.size < w1.heap.size ∧ ∀ i, w1.frozen? ⟨w.heap.size, i, none⟩ = false) ∧ w1.cell? ⟨w.heap.size, 0, none⟩ = some (.int .i64 (0)) ∧ w1.cell? ⟨w.heap.size, 1, none⟩ = some (.slice none 0 0) ∧ w1.ownsRow (w.heap.size + 2) 42 10 (.slice AR l.length cR) (l.length) (hds l) ∧ Below w.heap.size w w1 := ⟨hS.1, hS.2.1, hS.2.2.1, hS.2.2.2.1, own_mono hrow (by first | omega | (simp; done) | (simp; omega)), hS.2.2.2.2⟩
  clear hS
  have hS := hT
  clear hT
  have hS2 := hS
  obtain ⟨hq0, ⟨f0, fr0⟩, q1, q2, q3, hF⟩ := hS2
  have hgl : w.heap.size + 1 < w1.heap.size := hq0.lt
  have hzw : w.heap.size ≤ w1.heap.size := hF.size
  have hB := hF
  have hz1 : w.heap.size < w1.heap.size := World.block_lt_of_cell? w1 _ q1
  clear hrow
  go_wp2_with fail
  refine (among_c (0) (65536) [1, 2, 7, 300, 4, 0, 65536] _ _ (w.heap.size + 1) (0 + 280) _ (hide (by repeat' (first | (with_reducible exact hS.1) | (with_reducible refine Cur.drew ?_) | (with_reducible refine Cur.alloc ?_ _) | (with_reducible refine Cur.setc ?_ (by first | omega | (simp; done) | (simp; omega)) _)))) (by omega) (hide (lit_at (by rfl) (by simp))) (by intro e; (try dsimp only at e); omega) ⟨by decide, by decide⟩ (hide (by decide))).mono ?_
  rintro e w2 ⟨_, rfl, ⟨x, rfl, x0, x1⟩, hcn, hgn⟩
  have hT : Cur w2 (w.heap.size + 1) (0 + 282) ∧ (w.heap.size < w2.heap.size ∧ ∀ i, w2.frozen? ⟨w.heap.size, i, none⟩ = false) ∧ w2.cell? ⟨w.heap.size, 0, none⟩ = some (.int .i64 (0)) ∧ w2.cell? ⟨w.heap.size, 1, none⟩ = some (.slice none 0 0) ∧ w2.ownsRow (w.heap.size + 2) 42 10 (.slice AR l.length cR) (l.length) (hds l) ∧ Below w.heap.size w w2 := (fun W h hgn => ⟨hcn, fre_gb (h.2.1) hgn (by intro e; injection e with e; (try dsimp only at e); omega), hgn.cell (h.2.2.1) (by intro e; injection e with e; (try dsimp only at e); omega), hgn.cell (h.2.2.2.1) (by intro e; injection e with e; (try dsimp only at e); omega), World.ownsRow.kept (h.2.2.2.2.1) hgn (own_far (h.2.2.2.2.1) (by first | omega | (simp; done) | (simp; omega))), below_gb (h.2.2.2.2.2) hgn (h.2.2.2.2.2).size (by first | omega | (simp; done) | (simp; omega))⟩ : ∀ W : World, (Cur W (w.heap.size + 1) (0 + 280) ∧ (w.heap.size < W.heap.size ∧ ∀ i, W.frozen? ⟨w.heap.size, i, none⟩ = false) ∧ W.cell? ⟨w.heap.size, 0, none⟩ = some (.int .i64 (0)) ∧ W.cell? ⟨w.heap.size, 1, none⟩ = some (.slice none 0 0) ∧ W.ownsRow (w.heap.size + 2) 42 10 (.slice AR l.length cR) (l.length) (hds l) ∧ Below w.heap.size w W) → W.grownBy w2 (some (w.heap.size + 1)) → (Cur w2 (w.heap.size + 1) (0 + 282) ∧ (w.heap.size < w2.heap.size ∧ ∀ i, w2.frozen? ⟨w.heap.size, i, none⟩ = false) ∧ w2.cell? ⟨w.heap.size, 0, none⟩ = some (.int .i64 (0)) ∧ w2.cell? ⟨w.heap.size, 1, none⟩ = some (.slice none 0 0) ∧ w2.ownsRow (w.heap.size + 2) 42 10 (.slice AR l.length cR) (l.length) (hds l) ∧ Below w.heap.size w w2)) _ ⟨(by repeat' (first | (with_reducible exact hS.1) | (with_reducible refine Cur.drew ?_) | (with_reducible refine Cur.alloc ?_ _) | (with_reducible refine Cur.setc ?_ (by first | omega | (simp; done) | (simp; omega)) _))), (by first | (with_reducible assumption) | (simp [go_sem]; done) | (refine keep_fre ?_ ⟨by with_reducible assumption, by with_reducible assumption⟩; go_grown; done) | (simp [go_sem, *]; done)), (by first | (with_reducible assumption) | (simp [go_sem]; done) | ((simp only [go_sem]); (with_reducible assumption)) | ((refine keep_cell ?_ (by with_reducible assumption)); go_grown; done) | (simp [go_sem, *]; done) | (rw [World.cell?_setCell_other _ _ _ _ (by simp; omega)]; with_reducible assumption) | (rw [World.cell?_setCell_other _ _ _ _ (by simp; omega), World.cell?_setCell_other _ _ _ _ (by simp; omega)]; with_reducible assumption)), (by first | (with_reducible assumption) | (simp [go_sem]; done) | ((simp only [go_sem]); (with_reducible assumption)) | ((refine keep_cell ?_ (by with_reducible assumption)); go_grown; done) | (simp [go_sem, *]; done) | (rw [World.cell?_setCell_other _ _ _ _ (by simp; omega)]; with_reducible assumption) | (rw [World.cell?_setCell_other _ _ _ _ (by simp; omega), World.cell?_setCell_other _ _ _ _ (by simp; omega)]; with_reducible assumption)), (by first | (with_reducible assumption) | (exact hS.2.2.2.2.1) | ((refine own_below (by with_reducible assumption) ?_); go_grown)), (by go_grown)⟩ hgn
  (try clear hS)
  have hS := hT
  clear hT hcn hgn
  have hS2 := hS
  obtain ⟨hq0, ⟨f0, fr0⟩, q1, q2, q3, hF⟩ := hS2
  have hgl : w.heap.size + 1 < w2.heap.size := hq0.lt
  have hzw : w.heap.size ≤ w2.heap.size := hF.size
  have hB := hF
  have hz1 : w.heap.size < w2.heap.size := World.block_lt_of_cell? w2 _ q1
  have hrow := q3
  obtain ⟨_, _, d2, d3⟩ := box2_sets q1 q2 (.int .i64 m) (.slice AR l.length cR)
  go_wp2
  refine bodyPost_ret (by simp [results, Try.results48, go_sem, d2, d3]; try rfl) rfl ?_
  exact ⟨m, l, AR, cR, x, rfl, own_mono (own_set (own_set hrow (show w.heap.size < w.heap.size + 2 by omega) _) (show w.heap.size < w.heap.size + 2 by omega) _) (by omega), (by omega), ⟨hm0, hm1⟩, ⟨by omega, by omega⟩, by go_grown⟩
set_option maxHeartbeats 4000000 in
theorem drawPass_c (A : Option Addr) (n c : Nat) (w : World) (h1 : Hid (CodeOk w A n)) (hn : n ≤ 65536)  : Calls Try.prog 44 #[.slice A n c] w (DrawsRI w) := by
  go_enter Try.func44, Try.ntmps44
  go_wp2_with fail
  refine (receiver_c (w.heap.size + 1) (0) _ (hide (cur_new (h1.out.below (by go_grown)) hn (by first | rfl | (simp; done)) 0)) (by omega)).mono ?_
  rintro e w1 ⟨_, rfl, ⟨m, l, AR, cR, rfl, hrow, hl9, hm0, hm1⟩, hcn, hgn⟩
  have hT : Cur w1 (w.heap.size + 1) (0 + 280) ∧ (w.heap.size < w1.heap.size ∧ ∀ i, w1.frozen? ⟨w.heap.size, i, none⟩ = false) ∧ w1.cell? ⟨w.heap.size, 0, none⟩ = some (.int .i64 (0)) ∧ w1.cell? ⟨w.heap.size, 1, none⟩ = some (.slice none 0 0) ∧ Below w.heap.size w w1 := (fun W h hgn => ⟨hcn, fre_gb (h.2.1) hgn (by intro e; injection e with e; (try dsimp only at e); omega), hgn.cell (h.2.2.1) (by intro e; injection e with e; (try dsimp only at e); omega), hgn.cell (h.2.2.2.1) (by intro e; injection e with e; (try dsimp only at e); omega), below_gb (h.2.2.2.2) hgn (h.2.2.2.2).size (by first | omega | (simp; done) | (simp; omega))⟩ : ∀ W : World, (Cur W (w.heap.size + 1) (0) ∧ (w.heap.size < W.heap.size ∧ ∀ i, W.frozen? ⟨w.heap.size, i, none⟩ = false) ∧ W.cell? ⟨w.heap.size, 0, none⟩ = some (.int .i64 (0)) ∧ W.cell? ⟨w.heap.size, 1, none⟩ = some (.slice none 0 0) ∧ Below w.heap.size w W) → W.grownBy w1 (some (w.heap.size + 1)) → (Cur w1 (w.heap.size + 1) (0 + 280) ∧ (w.heap.size < w1.heap.size ∧ ∀ i, w1.frozen? ⟨w.heap.size, i, none⟩ = false) ∧ w1.cell? ⟨w.heap.size, 0, none⟩ = some (.int .i64 (0)) ∧ w1.cell? ⟨w.heap.size, 1, none⟩ = some (.slice none 0 0) ∧ Below w.heap.size w w1)) _ ⟨(cur_new (h1.out.below (by go_grown)) hn (by first | rfl | (simp; done)) 0), (by first | (with_reducible assumption) | (simp [go_sem]; done) | (refine keep_fre ?_ ⟨by with_reducible assumption, by with_reducible assumption⟩; go_grown; done) | (simp [go_sem, *]; done)), (by first | (with_reducible assumption) | (simp [go_sem]; done) | ((simp only [go_sem]); (with_reducible assumption)) | ((refine keep_cell ?_ (by with_reducible assumption)); go_grown; done) | (simp [go_sem, *]; done) | (rw [World.cell?_setCell_other _ _ _ _ (by simp; omega)]; with_reducible assumption) | (rw [World.cell?_setCell_other _ _ _ _ (by simp; omega), World.cell?_setCell_other _ _ _ _ (by simp; omega)]; with_reducible assumption)), (by first | (with_reducible assumption) | (simp [go_sem]; done) | ((simp only [go_sem]); (with_reducible assumption)) | ((refine keep_cell ?_ (by with_reducible assumption)); go_grown; done) | (simp [go_sem, *]; done) | (rw [World.cell?_setCell_other _ _ _ _ (by simp; omega)]; with_reducible assumption) | (rw [World.cell?_setCell_other _ _ _ _ (by simp; omega), World.cell?_setCell_other _ _ _ _ (by simp; omega)]; with_reducible assumption)), (by go_grown)⟩ hgn
  (try clear hS)
  have hS := hT
  clear hT hcn hgn
  have hS2 := hS
  obtain ⟨hq0, ⟨f0, fr0⟩, q1, q2, hF⟩ := hS2
  have hgl : w.heap.size + 1 < w1.heap.size := hq0.lt
  have hzw : w.heap.size ≤ w1.heap.size := hF.size
  have hB := hF
  have hz1 : w.heap.size < w1.heap.size := World.block_lt_of_cell? w1 _ q1
  have hT : Cur w1 (w.heap.size + 1) (0 + 280) ∧ (w.heap.size < w1.heap.size ∧ ∀ i, w1.frozen? ⟨w.heap.size, i, none⟩ = false) ∧ w1.cell? ⟨w.heap.size, 0, none⟩ = some (.int .i64 (0)) ∧ w1.cell? ⟨w.heap.size, 1, none⟩ = some (.slice none 0 0) ∧ w1.ownsRow (w.heap.size + 2) 42 10 (.slice AR l.length cR) (l.length) (hds l) ∧ Below w.heap.size w w1 := ⟨hS.1, hS.2.1, hS.2.2.1, hS.2.2.2.1, own_mono hrow (by first | omega | (simp; done) | (simp; omega)), hS.2.2.2.2⟩
  clear hS
  have hS := hT
  clear hT
  have hS2 := hS
  obtain ⟨hq0, ⟨f0, fr0⟩, q1, q2, q3, hF⟩ := hS2
  have hgl : w.heap.size + 1 < w1.heap.size := hq0.lt
  have hzw : w.heap.size ≤ w1.heap.size := hF.size
  have hB := hF
  have hz1 : w.heap.size < w1.heap.size := World.block_lt_of_cell? w1 _ q1
  clear hrow
  go_upto_region 3 with fail
  obtain ⟨T, hN9⟩ : ∃ q, w1.heap.size = q := ⟨_, rfl⟩
  obtain ⟨w2, hw9⟩ : ∃ W, World.alloc w1 (.cells #[.int .i64 m, .slice AR l.length cR] 26) = W := ⟨_, rfl⟩
  rw [hw9, hN9]
  have hb : Below w1.heap.size w1 w2 := by rw [← hw9]; go_grown
  have hgT : w.heap.size + 1 < T := by rw [← hN9]; exact hS.1.lt
  have hT : Cur w2 (w.heap.size + 1) (0 + 280) ∧ (w.heap.size < w2.heap.size ∧ ∀ i, w2.frozen? ⟨w.heap.size, i, none⟩ = false) ∧ w2.cell? ⟨w.heap.size, 0, none⟩ = some (.int .i64 (0)) ∧ w2.cell? ⟨w.heap.size, 1, none⟩ = some (.slice none 0 0) ∧ w2.ownsRow (w.heap.size + 2) 42 10 (.slice AR l.length cR) (l.length) (hds l) ∧ (T < w2.heap.size ∧ ∀ i, w2.frozen? ⟨T, i, none⟩ = false) ∧ w2.cell? ⟨T, 0, none⟩ = some (.int .i64 m) ∧ w2.cell? ⟨T, 1, none⟩ = some (.slice AR l.length cR) ∧ Below w.heap.size w w2 := ⟨hS.1.below hb, keep_fre hb (hS.2.1), keep_cell hb (hS.2.2.1), keep_cell hb (hS.2.2.2.1), own_below (hS.2.2.2.2.1) hb, ⟨by rw [← hw9, ← hN9]; simp, by rw [← hw9, ← hN9]; simp [go_sem]⟩, by rw [← hw9, ← hN9]; simp [go_sem], by rw [← hw9, ← hN9]; simp [go_sem], below_via (hS.2.2.2.2.2) hb⟩
  clear hS hb hw9 hN9
  have hS := hT
  clear hT
  have hS2 := hS
  obtain ⟨hq0, ⟨f0, fr0⟩, q1, q2, q3, ⟨f4, fr4⟩, q5, q6, hF⟩ := hS2
  have hgl : w.heap.size + 1 < w2.heap.size := hq0.lt
  have hzw : w.heap.size ≤ w2.heap.size := hF.size
  have hB := hF
  have hz1 : w.heap.size < w2.heap.size := World.block_lt_of_cell? w2 _ q1
  have hz2 : T < w2.heap.size := World.block_lt_of_cell? w2 _ q5
  refine wp_region_seq deed [0, 1, 2, 3, 4, 5, 6, 7, 8] (fun W => W.cell? ⟨T, 0, none⟩ = some (.int .i64 m) ∧ W.cell? ⟨T, 1, none⟩ = some (.slice AR l.length cR) ∧ Below w.heap.size w W) (by kernel_rfl) (by kernel_rfl) ⟨(by first | (with_reducible assumption) | (simp [go_sem]; done) | ((simp only [go_sem]); (with_reducible assumption)) | ((refine keep_cell ?_ (by with_reducible assumption)); go_grown; done) | (simp [go_sem, *]; done) | (rw [World.cell?_setCell_other _ _ _ _ (by simp; omega)]; with_reducible assumption) | (rw [World.cell?_setCell_other _ _ _ _ (by simp; omega), World.cell?_setCell_other _ _ _ _ (by simp; omega)]; with_reducible assumption)), (by first | (with_reducible assumption) | (simp [go_sem]; done) | ((simp only [go_sem]); (with_reducible assumption)) | ((refine keep_cell ?_ (by with_reducible assumption)); go_grown; done) | (simp [go_sem, *]; done) | (rw [World.cell?_setCell_other _ _ _ _ (by simp; omega)]; with_reducible assumption) | (rw [World.cell?_setCell_other _ _ _ _ (by simp; omega), World.cell?_setCell_other _ _ _ _ (by simp; omega)]; with_reducible assumption)), (by go_grown)⟩ ?_
  simp only [byNum, List.getElem?_cons_zero, List.getElem?_cons_succ]
  repeat (first
    | ((refine seq_skip (by rfl) (by rfl) ?_); simp only [Act.put, zp1, zp2, zp3])
    | ((refine seq_val (v := ?_) (by rfl) (by rfl) (fun w hS => ?_) ?_); rotate_left; (focus ((try dsimp only at hS); go_simp; (try (with_reducible rfl)); done)); simp only [Act.put, zp1, zp2, zp3]))
  refine seq_deed (v := ?_) (w' := ?_) (by rfl) (by rfl) ?_ ?_
  rotate_left
  rotate_left
  focus (go_simp; (constructor <;> (with_reducible rfl)); done)
  obtain ⟨w3, hw9⟩ : ∃ W, World.drew (World.alloc w2 (.cells #[.int .i64 0, .int .i64 2, .int .i64 8, .int .i64 10, .int .i64 11, .int .i64 30, .int .i64 (-1)] 3)) = W := ⟨_, rfl⟩
  rw [hw9]
  have hb : Below w2.heap.size w2 w3 := by rw [← hw9]; go_grown
  have hT : Cur w3 (w.heap.size + 1) (0 + 280) ∧ (w.heap.size < w3.heap.size ∧ ∀ i, w3.frozen? ⟨w.heap.size, i, none⟩ = false) ∧ w3.cell? ⟨w.heap.size, 0, none⟩ = some (.int .i64 (0)) ∧ w3.cell? ⟨w.heap.size, 1, none⟩ = some (.slice none 0 0) ∧ w3.ownsRow (w.heap.size + 2) 42 10 (.slice AR l.length cR) (l.length) (hds l) ∧ (T < w3.heap.size ∧ ∀ i, w3.frozen? ⟨T, i, none⟩ = false) ∧ w3.cell? ⟨T, 0, none⟩ = some (.int .i64 m) ∧ w3.cell? ⟨T, 1, none⟩ = some (.slice AR l.length cR) ∧ (∀ j, j < ([0, 2, 8, 10, 11, 30, -1] : List Int).length → w3.cell? ((⟨w2.heap.size, 0, none⟩ : Addr).add j) = some (.int .i64 (nth [0, 2, 8, 10, 11, 30, -1] j))) ∧ Below w.heap.size w w3 := ⟨hS.1.below hb, keep_fre hb (hS.2.1), keep_cell hb (hS.2.2.1), keep_cell hb (hS.2.2.2.1), own_below (hS.2.2.2.2.1) hb, keep_fre hb (hS.2.2.2.2.2.1), keep_cell hb (hS.2.2.2.2.2.2.1), keep_cell hb (hS.2.2.2.2.2.2.2.1), (by rw [← hw9]; exact lit_at (by rfl) rfl), below_via (hS.2.2.2.2.2.2.2.2) hb⟩
  clear hS hb hw9
  have hS := hT
  clear hT
  have hS2 := hS
  obtain ⟨hq0, ⟨f0, fr0⟩, q1, q2, q3, ⟨f4, fr4⟩, q5, q6, q7, hF⟩ := hS2
  have hgl : w.heap.size + 1 < w3.heap.size := hq0.lt
  have hzw : w.heap.size ≤ w3.heap.size := hF.size
  have hB := hF
  have hz1 : w.heap.size < w3.heap.size := World.block_lt_of_cell? w3 _ q1
  have hz2 : T < w3.heap.size := World.block_lt_of_cell? w3 _ q5
  refine ⟨(fun W => W.cell? ⟨T, 0, none⟩ = some (.int .i64 m) ∧ W.cell? ⟨T, 1, none⟩ = some (.slice AR l.length cR) ∧ Below w.heap.size w W), ⟨hS.2.2.2.2.2.2.1, hS.2.2.2.2.2.2.2.1, hS.2.2.2.2.2.2.2.2.2⟩, (fun W h => h), ?_⟩
  simp only [Act.put, zp1, zp2, zp3]
  repeat (first
    | ((refine seq_skip (by rfl) (by rfl) ?_); simp only [Act.put, zp1, zp2, zp3])
    | ((refine seq_val (v := ?_) (by rfl) (by rfl) (fun w hS => ?_) ?_); rotate_left; (focus ((try dsimp only at hS); go_simp; (try (with_reducible rfl)); done)); simp only [Act.put, zp1, zp2, zp3]))
  refine seq_call (f := ?_) (args := ?_) (by rfl) (by rfl) ?_ ?_
  rotate_left
  rotate_left
  focus (go_simp; (constructor <;> (with_reducible rfl)); done)
  refine (among_c (-1) (30) [0, 2, 8, 10, 11, 30, -1] _ _ (w.heap.size + 1) (0 + 280) _ (hide (by repeat' (first | (with_reducible exact hS.1) | (with_reducible refine Cur.drew ?_) | (with_reducible refine Cur.alloc ?_ _) | (with_reducible refine Cur.setc ?_ (by first | omega | (simp; done) | (simp; omega)) _)))) (by omega) (hide (by with_reducible assumption)) (by intro e; (try dsimp only at e); omega) ⟨by decide, by decide⟩ (hide (by decide))).mono ?_
  rintro e w4 ⟨_, rfl, ⟨x, rfl, x0, x1⟩, hcn, hgn⟩
  have hT : Cur w4 (w.heap.size + 1) (0 + 282) ∧ (w.heap.size < w4.heap.size ∧ ∀ i, w4.frozen? ⟨w.heap.size, i, none⟩ = false) ∧ w4.cell? ⟨w.heap.size, 0, none⟩ = some (.int .i64 (0)) ∧ w4.cell? ⟨w.heap.size, 1, none⟩ = some (.slice none 0 0) ∧ w4.ownsRow (w.heap.size + 2) 42 10 (.slice AR l.length cR) (l.length) (hds l) ∧ (T < w4.heap.size ∧ ∀ i, w4.frozen? ⟨T, i, none⟩ = false) ∧ w4.cell? ⟨T, 0, none⟩ = some (.int .i64 m) ∧ w4.cell? ⟨T, 1, none⟩ = some (.slice AR l.length cR) ∧ (∀ j, j < ([0, 2, 8, 10, 11, 30, -1] : List Int).length → w4.cell? ((⟨w2.heap.size, 0, none⟩ : Addr).add j) = some (.int .i64 (nth [0, 2, 8, 10, 11, 30, -1] j))) ∧ Below w.heap.size w w4 := (fun W h hgn => ⟨hcn, fre_gb (h.2.1) hgn (by intro e; injection e with e; (try dsimp only at e); omega), hgn.cell (h.2.2.1) (by intro e; injection e with e; (try dsimp only at e); omega), hgn.cell (h.2.2.2.1) (by intro e; injection e with e; (try dsimp only at e); omega), World.ownsRow.kept (h.2.2.2.2.1) hgn (own_far (h.2.2.2.2.1) (by first | omega | (simp; done) | (simp; omega))), fre_gb (h.2.2.2.2.2.1) hgn (by intro e; injection e with e; (try dsimp only at e); omega), hgn.cell (h.2.2.2.2.2.2.1) (by intro e; injection e with e; (try dsimp only at e); omega), hgn.cell (h.2.2.2.2.2.2.2.1) (by intro e; injection e with e; (try dsimp only at e); omega), (fun j hj => hgn.cell ((h.2.2.2.2.2.2.2.2.1) j hj) (by rw [block_of_add]; intro e; injection e with e; (try dsimp only at e); omega)), below_gb (h.2.2.2.2.2.2.2.2.2) hgn (h.2.2.2.2.2.2.2.2.2).size (by first | omega | (simp; done) | (simp; omega))⟩ : ∀ W : World, (Cur W (w.heap.size + 1) (0 + 280) ∧ (w.heap.size < W.heap.size ∧ ∀ i, W.frozen? ⟨w.heap.size, i, none⟩ = false) ∧ W.cell? ⟨w.heap.size, 0, none⟩ = some (.int .i64 (0)) ∧ W.cell? ⟨w.heap.size, 1, none⟩ = some (.slice none 0 0) ∧ W.ownsRow (w.heap.size + 2) 42 10 (.slice AR l.length cR) (l.length) (hds l) ∧ (T < W.heap.size ∧ ∀ i, W.frozen? ⟨T, i, none⟩ = false) ∧ W.cell? ⟨T, 0, none⟩ = some (.int .i64 m) ∧ W.cell? ⟨T, 1, none⟩ = some (.slice AR l.length cR) ∧ (∀ j, j < ([0, 2, 8, 10, 11, 30, -1] : List Int).length → W.cell? ((⟨w2.heap.size, 0, none⟩ : Addr).add j) = some (.int .i64 (nth [0, 2, 8, 10, 11, 30, -1] j))) ∧ Below w.heap.size w W) → W.grownBy w4 (some (w.heap.size + 1)) → (Cur w4 (w.heap.size + 1) (0 + 282) ∧ (w.heap.size < w4.heap.size ∧ ∀ i, w4.frozen? ⟨w.heap.size, i, none⟩ = false) ∧ w4.cell? ⟨w.heap.size, 0, none⟩ = some (.int .i64 (0)) ∧ w4.cell? ⟨w.heap.size, 1, none⟩ = some (.slice none 0 0) ∧ w4.ownsRow (w.heap.size + 2) 42 10 (.slice AR l.length cR) (l.length) (hds l) ∧ (T < w4.heap.size ∧ ∀ i, w4.frozen? ⟨T, i, none⟩ = false) ∧ w4.cell? ⟨T, 0, none⟩ = some (.int .i64 m) ∧ w4.cell? ⟨T, 1, none⟩ = some (.slice AR l.length cR) ∧ (∀ j, j < ([0, 2, 8, 10, 11, 30, -1] : List Int).length → w4.cell? ((⟨w2.heap.size, 0, none⟩ : Addr).add j) = some (.int .i64 (nth [0, 2, 8, 10, 11, 30, -1] j))) ∧ Below w.heap.size w w4)) _ ⟨(by repeat' (first | (with_reducible exact hS.1) | (with_reducible refine Cur.drew ?_) | (with_reducible refine Cur.alloc ?_ _) | (with_reducible refine Cur.setc ?_ (by first | omega | (simp; done) | (simp; omega)) _))), (by first | (with_reducible assumption) | (simp [go_sem]; done) | (refine keep_fre ?_ ⟨by with_reducible assumption, by with_reducible assumption⟩; go_grown; done) | (simp [go_sem, *]; done)), (by first | (with_reducible assumption) | (simp [go_sem]; done) | ((simp only [go_sem]); (with_reducible assumption)) | ((refine keep_cell ?_ (by with_reducible assumption)); go_grown; done) | (simp [go_sem, *]; done) | (rw [World.cell?_setCell_other _ _ _ _ (by simp; omega)]; with_reducible assumption) | (rw [World.cell?_setCell_other _ _ _ _ (by simp; omega), World.cell?_setCell_other _ _ _ _ (by simp; omega)]; with_reducible assumption)), (by first | (with_reducible assumption) | (simp [go_sem]; done) | ((simp only [go_sem]); (with_reducible assumption)) | ((refine keep_cell ?_ (by with_reducible assumption)); go_grown; done) | (simp [go_sem, *]; done) | (rw [World.cell?_setCell_other _ _ _ _ (by simp; omega)]; with_reducible assumption) | (rw [World.cell?_setCell_other _ _ _ _ (by simp; omega), World.cell?_setCell_other _ _ _ _ (by simp; omega)]; with_reducible assumption)), (by first | (with_reducible assumption) | (exact hS.2.2.2.2.1) | ((refine own_below (by with_reducible assumption) ?_); go_grown)), (by first | (with_reducible assumption) | (simp [go_sem]; done) | (refine keep_fre ?_ ⟨by with_reducible assumption, by with_reducible assumption⟩; go_grown; done) | (simp [go_sem, *]; done)), (by first | (with_reducible assumption) | (simp [go_sem]; done) | ((simp only [go_sem]); (with_reducible assumption)) | ((refine keep_cell ?_ (by with_reducible assumption)); go_grown; done) | (simp [go_sem, *]; done) | (rw [World.cell?_setCell_other _ _ _ _ (by simp; omega)]; with_reducible assumption) | (rw [World.cell?_setCell_other _ _ _ _ (by simp; omega), World.cell?_setCell_other _ _ _ _ (by simp; omega)]; with_reducible assumption)), (by first | (with_reducible assumption) | (simp [go_sem]; done) | ((simp only [go_sem]); (with_reducible assumption)) | ((refine keep_cell ?_ (by with_reducible assumption)); go_grown; done) | (simp [go_sem, *]; done) | (rw [World.cell?_setCell_other _ _ _ _ (by simp; omega)]; with_reducible assumption) | (rw [World.cell?_setCell_other _ _ _ _ (by simp; omega), World.cell?_setCell_other _ _ _ _ (by simp; omega)]; with_reducible assumption)), (by first | (with_reducible assumption) | (exact lit_at (by rfl) (by first | rfl | (with_reducible assumption) | simp))), (by go_grown)⟩ hgn
  (try clear hS)
  have hS := hT
  clear hT hcn hgn
  have hS2 := hS
  obtain ⟨hq0, ⟨f0, fr0⟩, q1, q2, q3, ⟨f4, fr4⟩, q5, q6, q7, hF⟩ := hS2
  have hgl : w.heap.size + 1 < w4.heap.size := hq0.lt
  have hzw : w.heap.size ≤ w4.heap.size := hF.size
  have hB := hF
  have hz1 : w.heap.size < w4.heap.size := World.block_lt_of_cell? w4 _ q1
  have hz2 : T < w4.heap.size := World.block_lt_of_cell? w4 _ q5
  have ewx : IntKind.i64.wrap (m + x) = m + x := IntWalk.i64_in _ (by omega)
  refine ⟨_, rfl, (fun W => W.cell? ⟨T, 0, none⟩ = some (.int .i64 m) ∧ W.cell? ⟨T, 1, none⟩ = some (.slice AR l.length cR) ∧ Below w.heap.size w W), ⟨hS.2.2.2.2.2.2.1, hS.2.2.2.2.2.2.2.1, hS.2.2.2.2.2.2.2.2.2⟩, (fun W h => h), ?_⟩
  simp only [Act.put, zp1, zp2, zp3]
  repeat (first
    | ((refine seq_skip (by rfl) (by rfl) ?_); simp only [Act.put, zp1, zp2, zp3])
    | ((refine seq_val (v := ?_) (by rfl) (by rfl) (fun w hS => ?_) ?_); rotate_left; (focus ((try dsimp only at hS); go_simp; (try (with_reducible rfl)); done)); simp only [Act.put, zp1, zp2, zp3]))
  have hrow := q3
  have hTR : T ≠ w.heap.size := by omega
  obtain ⟨X9, hX9⟩ : ∃ X, (w4.setCell ⟨w.heap.size, 0, none⟩ (.int .i64 m)).setCell ⟨w.heap.size, 1, none⟩ (.slice AR l.length cR) = X := ⟨_, rfl⟩
  obtain ⟨_, _, d2, d3⟩ := box2_sets q1 q2 (.int .i64 m) (.slice AR l.length cR)
  rw [hX9] at d2 d3
  have hS9 : X9.cell? ⟨T, 0, none⟩ = some (.int .i64 m) ∧ X9.cell? ⟨T, 1, none⟩ = some (.slice AR l.length cR) ∧ Below w.heap.size w X9 := by rw [← hX9]; exact ⟨sc _ hTR (sc _ hTR q5), sc _ hTR (sc _ hTR q6), (hF.setCell (p := ⟨w.heap.size, 0, none⟩) (Nat.le_refl _) _).setCell (p := ⟨w.heap.size, 1, none⟩) (Nat.le_refl _) _⟩
  have hr9 := hide (own_set (own_set hrow (p := ⟨w.heap.size, 0, none⟩) (show w.heap.size < w.heap.size + 2 by omega) (.int .i64 m)) (show w.heap.size < w.heap.size + 2 by omega) (.slice AR l.length cR) (p := ⟨w.heap.size, 1, none⟩))
  rw [hX9] at hr9
  refine seq_store (w' := X9) (by rfl) (by rfl) (by rw [← hX9]; go_simp; (try (with_reducible rfl)); done) ?_
  refine ⟨(fun W => W.cell? ⟨T, 0, none⟩ = some (.int .i64 m) ∧ W.cell? ⟨T, 1, none⟩ = some (.slice AR l.length cR) ∧ Below w.heap.size w W), hS9, (fun W h => h), ?_⟩
  simp only [Act.put, zp1, zp2, zp3]
  repeat (first
    | ((refine seq_skip (by rfl) (by rfl) ?_); simp only [Act.put, zp1, zp2, zp3])
    | ((refine seq_val (v := ?_) (by rfl) (by rfl) (fun w hS => ?_) ?_); rotate_left; (focus ((try dsimp only at hS); go_simp; (try (with_reducible rfl)); done)); simp only [Act.put, zp1, zp2, zp3]))
  refine seq_nil ?_
  clear hS hX9
  go_wp2
  refine bodyPost_ret (by simp [results, Try.results44, go_sem, d2, d3]; try rfl) rfl ?_
  exact ⟨m, l, AR, cR, m + x, rfl, own_mono hr9.out (by omega), (by omega), ⟨hm0, hm1⟩, ⟨by omega, by omega⟩, hS9.2.2⟩
end Go.Proofs.Ytbeojfhakmbacaa
namespace Go.Proofs.Ytbeojfhakmbacaa
open Go.RowKit
def DrawsRLI (w : World) (e : Ending) (w' : World) : Prop := ∃ (m : Int) (l : List Hd) (A : Option Addr) (c : Nat) (ls : List ByteArray) (SA : Option Addr) (SC : Nat) (x : Int), e = .returned (.tuple #[.agg #[.int .i64 m, .slice A l.length c], .slice SA ls.length SC, .int .i64 x]) ∧ w'.ownsRow w.heap.size 42 10 (.slice A l.length c) l.length (hds l) ∧ w'.ownsRow w.heap.size 9 1 (.slice SA ls.length SC) ls.length (strs ls) ∧ l.length ≤ 20 ∧ ls.length ≤ 60 ∧ (-1 ≤ m ∧ m ≤ 10000) ∧ (∀ s ∈ ls, s.size ≤ 16) ∧ (-1000000 ≤ x ∧ x ≤ 1000000) ∧ Below w.heap.size w w'
theorem strs_snoc (l : List ByteArray) (s : ByteArray) : strs (l ++ [s]) = strs l ++ [.string s] := by simp [strs]
theorem row_apart {w : World} {vA vL : Value} {T base : Nat} {e : TypeId} {sz n : Nat} {xs : List Value} (hA : ∀ g, vA.ownBlock = some g → g < T) (hL : w.ownsRow base e sz vL n xs) (hb : T ≤ base) : vA.ownBlock = none ∨ vA.ownBlock ≠ vL.ownBlock := by
  cases h : vA.ownBlock with
  | none => exact .inl rfl
  | some g =>
    refine .inr fun e2 => ?_
    have h1 := hA g h
    have h2 := (hL.lt g e2.symm).1
    omega
theorem row_kept {w w' : World} {vA vL : Value} {T bA eA sA nA e sz n : Nat} {xA xs : List Value} (hg : w.grownBy w' vL.ownBlock) (hR : w.ownsRow bA eA sA vA nA xA) (hA : ∀ g, vA.ownBlock = some g → g < T) (hL : w.ownsRow (T + 1) e sz vL n xs) : w'.ownsRow bA eA sA vA nA xA :=
  hR.kept hg (row_apart hA hL (by omega))
set_option maxRecDepth 100000 in
set_option maxHeartbeats 8000000 in
theorem drawReceiveAll_c (A : Option Addr) (n c : Nat) (w : World) (h1 : Hid (CodeOk w A n)) (hn : n ≤ 65536)  : Calls Try.prog 45 #[.slice A n c] w (DrawsRLI w) := by
  obtain ⟨i0, hi0, iz0, iy0, ix0⟩ := info_parts infoStr
  go_enter Try.func45, Try.ntmps45
  go_wp2_with fail
  refine (receiver_c (w.heap.size + 1) (0) _ (hide (cur_new (h1.out.below (by go_grown)) hn (by first | rfl | (simp; done)) 0)) (by omega)).mono ?_
  rintro e w1 ⟨_, rfl, ⟨m, l, AR, cR, rfl, hrow, hl9, hm0, hm1⟩, hcn, hgn⟩
  have hT : Cur w1 (w.heap.size + 1) (0 + 280) ∧ (w.heap.size < w1.heap.size ∧ ∀ i, w1.frozen? ⟨w.heap.size, i, none⟩ = false) ∧ w1.cell? ⟨w.heap.size, 0, none⟩ = some (.int .i64 (0)) ∧ w1.cell? ⟨w.heap.size, 1, none⟩ = some (.slice none 0 0) ∧ Below w.heap.size w w1 := (fun W h hgn => ⟨hcn, fre_gb (h.2.1) hgn (by intro e; injection e with e; (try dsimp only at e); omega), hgn.cell (h.2.2.1) (by intro e; injection e with e; (try dsimp only at e); omega), hgn.cell (h.2.2.2.1) (by intro e; injection e with e; (try dsimp only at e); omega), below_gb (h.2.2.2.2) hgn (h.2.2.2.2).size (by first | omega | (simp; done) | (simp; omega))⟩ : ∀ W : World, (Cur W (w.heap.size + 1) (0) ∧ (w.heap.size < W.heap.size ∧ ∀ i, W.frozen? ⟨w.heap.size, i, none⟩ = false) ∧ W.cell? ⟨w.heap.size, 0, none⟩ = some (.int .i64 (0)) ∧ W.cell? ⟨w.heap.size, 1, none⟩ = some (.slice none 0 0) ∧ Below w.heap.size w W) → W.grownBy w1 (some (w.heap.size + 1)) → (Cur w1 (w.heap.size + 1) (0 + 280) ∧ (w.heap.size < w1.heap.size ∧ ∀ i, w1.frozen? ⟨w.heap.size, i, none⟩ = false) ∧ w1.cell? ⟨w.heap.size, 0, none⟩ = some (.int .i64 (0)) ∧ w1.cell? ⟨w.heap.size, 1, none⟩ = some (.slice none 0 0) ∧ Below w.heap.size w w1)) _ ⟨(cur_new (h1.out.below (by go_grown)) hn (by first | rfl | (simp; done)) 0), (by first | (with_reducible assumption) | (simp [go_sem]; done) | (refine keep_fre ?_ ⟨by with_reducible assumption, by with_reducible assumption⟩; go_grown; done) | (simp [go_sem, *]; done)), (by first | (with_reducible assumption) | (simp [go_sem]; done) | ((simp only [go_sem]); (with_reducible assumption)) | ((refine keep_cell ?_ (by with_reducible assumption)); go_grown; done) | (simp [go_sem, *]; done) | (rw [World.cell?_setCell_other _ _ _ _ (by simp; omega)]; with_reducible assumption) | (rw [World.cell?_setCell_other _ _ _ _ (by simp; omega), World.cell?_setCell_other _ _ _ _ (by simp; omega)]; with_reducible assumption)), (by first | (with_reducible assumption) | (simp [go_sem]; done) | ((simp only [go_sem]); (with_reducible assumption)) | ((refine keep_cell ?_ (by with_reducible assumption)); go_grown; done) | (simp [go_sem, *]; done) | (rw [World.cell?_setCell_other _ _ _ _ (by simp; omega)]; with_reducible assumption) | (rw [World.cell?_setCell_other _ _ _ _ (by simp; omega), World.cell?_setCell_other _ _ _ _ (by simp; omega)]; with_reducible assumption)), (by go_grown)⟩ hgn
  (try clear hS)
  have hS := hT
  clear hT hcn hgn
  have hS2 := hS
  obtain ⟨hq0, ⟨f0, fr0⟩, q1, q2, hF⟩ := hS2
  have hgl : w.heap.size + 1 < w1.heap.size := hq0.lt
  have hzw : w.heap.size ≤ w1.heap.size := hF.size
  have hB := hF
  have hz1 : w.heap.size < w1.heap.size := World.block_lt_of_cell? w1 _ q1
  have hT : Cur w1 (w.heap.size + 1) (0 + 280) ∧ (w.heap.size < w1.heap.size ∧ ∀ i, w1.frozen? ⟨w.heap.size, i, none⟩ = false) ∧ w1.cell? ⟨w.heap.size, 0, none⟩ = some (.int .i64 (0)) ∧ w1.cell? ⟨w.heap.size, 1, none⟩ = some (.slice none 0 0) ∧ w1.ownsRow (w.heap.size + 2) 42 10 (.slice AR l.length cR) (l.length) (hds l) ∧ Below w.heap.size w w1 := ⟨hS.1, hS.2.1, hS.2.2.1, hS.2.2.2.1, own_mono hrow (by first | omega | (simp; done) | (simp; omega)), hS.2.2.2.2⟩
  clear hS
  have hS := hT
  clear hT
  have hS2 := hS
  obtain ⟨hq0, ⟨f0, fr0⟩, q1, q2, q3, hF⟩ := hS2
  have hgl : w.heap.size + 1 < w1.heap.size := hq0.lt
  have hzw : w.heap.size ≤ w1.heap.size := hF.size
  have hB := hF
  have hz1 : w.heap.size < w1.heap.size := World.block_lt_of_cell? w1 _ q1
  clear hrow
  have hrw9 := q3
  go_upto_region 3 with fail
  obtain ⟨T, hN9⟩ : ∃ q, w1.heap.size = q := ⟨_, rfl⟩
  obtain ⟨w2, hw9⟩ : ∃ W, World.alloc w1 (.cells #[.int .i64 m, .slice AR l.length cR] 26) = W := ⟨_, rfl⟩
  rw [hw9, hN9]
  have HAT := hide (show ∀ g, (Value.slice AR l.length cR).ownBlock = some g → g < T from fun g e => by have h8 := (hrw9.lt _ e).2; omega)
  clear hrw9
  have hb : Below w1.heap.size w1 w2 := by rw [← hw9]; go_grown
  have hgT : w.heap.size + 1 < T := by rw [← hN9]; exact hS.1.lt
  have hT : Cur w2 (w.heap.size + 1) (0 + 280) ∧ (w.heap.size < w2.heap.size ∧ ∀ i, w2.frozen? ⟨w.heap.size, i, none⟩ = false) ∧ w2.cell? ⟨w.heap.size, 0, none⟩ = some (.int .i64 (0)) ∧ w2.cell? ⟨w.heap.size, 1, none⟩ = some (.slice none 0 0) ∧ w2.ownsRow (w.heap.size + 2) 42 10 (.slice AR l.length cR) (l.length) (hds l) ∧ (T < w2.heap.size ∧ ∀ i, w2.frozen? ⟨T, i, none⟩ = false) ∧ w2.cell? ⟨T, 0, none⟩ = some (.int .i64 m) ∧ w2.cell? ⟨T, 1, none⟩ = some (.slice AR l.length cR) ∧ Below w.heap.size w w2 := ⟨hS.1.below hb, keep_fre hb (hS.2.1), keep_cell hb (hS.2.2.1), keep_cell hb (hS.2.2.2.1), own_below (hS.2.2.2.2.1) hb, ⟨by rw [← hw9, ← hN9]; simp, by rw [← hw9, ← hN9]; simp [go_sem]⟩, by rw [← hw9, ← hN9]; simp [go_sem], by rw [← hw9, ← hN9]; simp [go_sem], below_via (hS.2.2.2.2.2) hb⟩
  clear hS hb hw9 hN9
  have hS := hT
  clear hT
  have hS2 := hS
  obtain ⟨hq0, ⟨f0, fr0⟩, q1, q2, q3, ⟨f4, fr4⟩, q5, q6, hF⟩ := hS2
  have hgl : w.heap.size + 1 < w2.heap.size := hq0.lt
  have hzw : w.heap.size ≤ w2.heap.size := hF.size
  have hB := hF
  have hz1 : w.heap.size < w2.heap.size := World.block_lt_of_cell? w2 _ q1
  have hz2 : T < w2.heap.size := World.block_lt_of_cell? w2 _ q5
  go_upto_region 4 with fail
  obtain ⟨Z, hZ⟩ : ∃ q, w2.heap.size = q := ⟨_, rfl⟩
  obtain ⟨wL, hwL⟩ : ∃ W, World.alloc w2 (.cells #[] 9) = W := ⟨_, rfl⟩
  rw [hwL, hZ]
  have hb : Below w2.heap.size w2 wL := by rw [← hwL]; go_grown
  have hrL : wL.ownsRow (T + 1) 9 1 (.slice (some ⟨Z, 0, none⟩) 0 0) 0 [] := by rw [← hwL]; exact own_empty _ hZ (by omega)
  have hT : Cur wL (w.heap.size + 1) (0 + 280) ∧ (w.heap.size < wL.heap.size ∧ ∀ i, wL.frozen? ⟨w.heap.size, i, none⟩ = false) ∧ wL.cell? ⟨w.heap.size, 0, none⟩ = some (.int .i64 (0)) ∧ wL.cell? ⟨w.heap.size, 1, none⟩ = some (.slice none 0 0) ∧ wL.ownsRow (w.heap.size + 2) 42 10 (.slice AR l.length cR) (l.length) (hds l) ∧ (T < wL.heap.size ∧ ∀ i, wL.frozen? ⟨T, i, none⟩ = false) ∧ wL.cell? ⟨T, 0, none⟩ = some (.int .i64 m) ∧ wL.cell? ⟨T, 1, none⟩ = some (.slice AR l.length cR) ∧ wL.ownsRow (T + 1) 9 1 (.slice (some ⟨Z, 0, none⟩) 0 0) (0) ([]) ∧ Below w.heap.size w wL := ⟨hS.1.below hb, keep_fre hb (hS.2.1), keep_cell hb (hS.2.2.1), keep_cell hb (hS.2.2.2.1), own_below (hS.2.2.2.2.1) hb, keep_fre hb (hS.2.2.2.2.2.1), keep_cell hb (hS.2.2.2.2.2.2.1), keep_cell hb (hS.2.2.2.2.2.2.2.1), hrL, below_via (hS.2.2.2.2.2.2.2.2) hb⟩
  clear hS hb hwL hrL
  have hS := hT
  clear hT
  have hS2 := hS
  obtain ⟨hq0, ⟨f0, fr0⟩, q1, q2, q3, ⟨f4, fr4⟩, q5, q6, q7, hF⟩ := hS2
  have hgl : w.heap.size + 1 < wL.heap.size := hq0.lt
  have hzw : w.heap.size ≤ wL.heap.size := hF.size
  have hB := hF
  have hz1 : w.heap.size < wL.heap.size := World.block_lt_of_cell? wL _ q1
  have hz2 : T < wL.heap.size := World.block_lt_of_cell? wL _ q5
  go_wp2_with fail
  refine (pick_c (5) (by omega) (w.heap.size + 1) (0 + 280) _ (hide (by repeat' (first | (with_reducible exact hS.1) | (with_reducible refine Cur.drew ?_) | (with_reducible refine Cur.alloc ?_ _) | (with_reducible refine Cur.setc ?_ (by first | omega | (simp; done) | (simp; omega)) _)))) (by omega)).mono ?_
  rintro e w3 ⟨_, rfl, ⟨p, rfl, p0, p1⟩, hcn, hgn⟩
  have hT : Cur w3 (w.heap.size + 1) (0 + 282) ∧ (w.heap.size < w3.heap.size ∧ ∀ i, w3.frozen? ⟨w.heap.size, i, none⟩ = false) ∧ w3.cell? ⟨w.heap.size, 0, none⟩ = some (.int .i64 (0)) ∧ w3.cell? ⟨w.heap.size, 1, none⟩ = some (.slice none 0 0) ∧ w3.ownsRow (w.heap.size + 2) 42 10 (.slice AR l.length cR) (l.length) (hds l) ∧ (T < w3.heap.size ∧ ∀ i, w3.frozen? ⟨T, i, none⟩ = false) ∧ w3.cell? ⟨T, 0, none⟩ = some (.int .i64 m) ∧ w3.cell? ⟨T, 1, none⟩ = some (.slice AR l.length cR) ∧ w3.ownsRow (T + 1) 9 1 (.slice (some ⟨Z, 0, none⟩) 0 0) (0) ([]) ∧ Below w.heap.size w w3 := (fun W h hgn => ⟨hcn, fre_gb (h.2.1) hgn (by intro e; injection e with e; (try dsimp only at e); omega), hgn.cell (h.2.2.1) (by intro e; injection e with e; (try dsimp only at e); omega), hgn.cell (h.2.2.2.1) (by intro e; injection e with e; (try dsimp only at e); omega), World.ownsRow.kept (h.2.2.2.2.1) hgn (own_far (h.2.2.2.2.1) (by first | omega | (simp; done) | (simp; omega))), fre_gb (h.2.2.2.2.2.1) hgn (by intro e; injection e with e; (try dsimp only at e); omega), hgn.cell (h.2.2.2.2.2.2.1) (by intro e; injection e with e; (try dsimp only at e); omega), hgn.cell (h.2.2.2.2.2.2.2.1) (by intro e; injection e with e; (try dsimp only at e); omega), World.ownsRow.kept (h.2.2.2.2.2.2.2.2.1) hgn (own_far (h.2.2.2.2.2.2.2.2.1) (by first | omega | (simp; done) | (simp; omega))), below_gb (h.2.2.2.2.2.2.2.2.2) hgn (h.2.2.2.2.2.2.2.2.2).size (by first | omega | (simp; done) | (simp; omega))⟩ : ∀ W : World, (Cur W (w.heap.size + 1) (0 + 280) ∧ (w.heap.size < W.heap.size ∧ ∀ i, W.frozen? ⟨w.heap.size, i, none⟩ = false) ∧ W.cell? ⟨w.heap.size, 0, none⟩ = some (.int .i64 (0)) ∧ W.cell? ⟨w.heap.size, 1, none⟩ = some (.slice none 0 0) ∧ W.ownsRow (w.heap.size + 2) 42 10 (.slice AR l.length cR) (l.length) (hds l) ∧ (T < W.heap.size ∧ ∀ i, W.frozen? ⟨T, i, none⟩ = false) ∧ W.cell? ⟨T, 0, none⟩ = some (.int .i64 m) ∧ W.cell? ⟨T, 1, none⟩ = some (.slice AR l.length cR) ∧ W.ownsRow (T + 1) 9 1 (.slice (some ⟨Z, 0, none⟩) 0 0) (0) ([]) ∧ Below w.heap.size w W) → W.grownBy w3 (some (w.heap.size + 1)) → (Cur w3 (w.heap.size + 1) (0 + 282) ∧ (w.heap.size < w3.heap.size ∧ ∀ i, w3.frozen? ⟨w.heap.size, i, none⟩ = false) ∧ w3.cell? ⟨w.heap.size, 0, none⟩ = some (.int .i64 (0)) ∧ w3.cell? ⟨w.heap.size, 1, none⟩ = some (.slice none 0 0) ∧ w3.ownsRow (w.heap.size + 2) 42 10 (.slice AR l.length cR) (l.length) (hds l) ∧ (T < w3.heap.size ∧ ∀ i, w3.frozen? ⟨T, i, none⟩ = false) ∧ w3.cell? ⟨T, 0, none⟩ = some (.int .i64 m) ∧ w3.cell? ⟨T, 1, none⟩ = some (.slice AR l.length cR) ∧ w3.ownsRow (T + 1) 9 1 (.slice (some ⟨Z, 0, none⟩) 0 0) (0) ([]) ∧ Below w.heap.size w w3)) _ ⟨(by repeat' (first | (with_reducible exact hS.1) | (with_reducible refine Cur.drew ?_) | (with_reducible refine Cur.alloc ?_ _) | (with_reducible refine Cur.setc ?_ (by first | omega | (simp; done) | (simp; omega)) _))), (by first | (with_reducible assumption) | (simp [go_sem]; done) | (refine keep_fre ?_ ⟨by with_reducible assumption, by with_reducible assumption⟩; go_grown; done) | (simp [go_sem, *]; done)), (by first | (with_reducible assumption) | (simp [go_sem]; done) | ((simp only [go_sem]); (with_reducible assumption)) | ((refine keep_cell ?_ (by with_reducible assumption)); go_grown; done) | (simp [go_sem, *]; done) | (rw [World.cell?_setCell_other _ _ _ _ (by simp; omega)]; with_reducible assumption) | (rw [World.cell?_setCell_other _ _ _ _ (by simp; omega), World.cell?_setCell_other _ _ _ _ (by simp; omega)]; with_reducible assumption)), (by first | (with_reducible assumption) | (simp [go_sem]; done) | ((simp only [go_sem]); (with_reducible assumption)) | ((refine keep_cell ?_ (by with_reducible assumption)); go_grown; done) | (simp [go_sem, *]; done) | (rw [World.cell?_setCell_other _ _ _ _ (by simp; omega)]; with_reducible assumption) | (rw [World.cell?_setCell_other _ _ _ _ (by simp; omega), World.cell?_setCell_other _ _ _ _ (by simp; omega)]; with_reducible assumption)), (by first | (with_reducible assumption) | (exact hS.2.2.2.2.1) | ((refine own_below (by with_reducible assumption) ?_); go_grown)), (by first | (with_reducible assumption) | (simp [go_sem]; done) | (refine keep_fre ?_ ⟨by with_reducible assumption, by with_reducible assumption⟩; go_grown; done) | (simp [go_sem, *]; done)), (by first | (with_reducible assumption) | (simp [go_sem]; done) | ((simp only [go_sem]); (with_reducible assumption)) | ((refine keep_cell ?_ (by with_reducible assumption)); go_grown; done) | (simp [go_sem, *]; done) | (rw [World.cell?_setCell_other _ _ _ _ (by simp; omega)]; with_reducible assumption) | (rw [World.cell?_setCell_other _ _ _ _ (by simp; omega), World.cell?_setCell_other _ _ _ _ (by simp; omega)]; with_reducible assumption)), (by first | (with_reducible assumption) | (simp [go_sem]; done) | ((simp only [go_sem]); (with_reducible assumption)) | ((refine keep_cell ?_ (by with_reducible assumption)); go_grown; done) | (simp [go_sem, *]; done) | (rw [World.cell?_setCell_other _ _ _ _ (by simp; omega)]; with_reducible assumption) | (rw [World.cell?_setCell_other _ _ _ _ (by simp; omega), World.cell?_setCell_other _ _ _ _ (by simp; omega)]; with_reducible assumption)), (by first | (with_reducible assumption) | (exact hS.2.2.2.2.2.2.2.2.1) | ((refine own_below (by with_reducible assumption) ?_); go_grown)), (by go_grown)⟩ hgn
  (try clear hS)
  have hS := hT
  clear hT hcn hgn
  have hS2 := hS
  obtain ⟨hq0, ⟨f0, fr0⟩, q1, q2, q3, ⟨f4, fr4⟩, q5, q6, q7, hF⟩ := hS2
  have hgl : w.heap.size + 1 < w3.heap.size := hq0.lt
  have hzw : w.heap.size ≤ w3.heap.size := hF.size
  have hB := hF
  have hz1 : w.heap.size < w3.heap.size := World.block_lt_of_cell? w3 _ q1
  have hz2 : T < w3.heap.size := World.block_lt_of_cell? w3 _ q5
  obtain ⟨p, rfl⟩ : ∃ z : Nat, p = (z : Int) := ⟨p.toNat, by omega⟩
  have hp4 : p ≤ 4 := by omega
  go_wp2_with fail
  go_loopw [7, 8] (fun lv nv wr => ∃ (j : Nat) (ls : List ByteArray) (SA : Option Addr) (SC : Nat), j ≤ p ∧ nv = .int .i64 j ∧ lv = .slice SA ls.length SC ∧ ls.length + j ≤ 4 ∧ Hid (∀ s ∈ ls, s.size ≤ 16) ∧ Hid (Cur wr (w.heap.size + 1) (0 + 282 + 30 * (p - j))) ∧ Hid (wr.ownsRow (w.heap.size + 2) 42 10 (.slice AR l.length cR) l.length (hds l)) ∧ Hid (wr.ownsRow (T + 1) 9 1 (.slice SA ls.length SC) ls.length (strs ls)) ∧ ((w.heap.size < wr.heap.size ∧ ∀ i, wr.frozen? ⟨w.heap.size, i, none⟩ = false) ∧ wr.cell? ⟨w.heap.size, 0, none⟩ = some (.int .i64 (0)) ∧ wr.cell? ⟨w.heap.size, 1, none⟩ = some (.slice none 0 0) ∧ (T < wr.heap.size ∧ ∀ i, wr.frozen? ⟨T, i, none⟩ = false) ∧ wr.cell? ⟨T, 0, none⟩ = some (.int .i64 m) ∧ wr.cell? ⟨T, 1, none⟩ = some (.slice AR l.length cR) ∧ Below w.heap.size w wr)) (fun _ nv _ => (intOf nv).toNat)
  case atStart => exact ⟨p, [], _, _, Nat.le_refl _, rfl, rfl, by simp; omega, hide (by simp), hide (hq0.more (by omega)), hide q3, hide q7, ⟨f0, fr0⟩, q1, q2, ⟨f4, fr4⟩, q5, q6, hF⟩
  case round =>
    (try clear hS)
    (try clear hB)
    clear hq0 hF q1 q2 q3 q5 q6 q7
    obtain ⟨j, ls, SA, SC, hj, rfl, rfl, hlj, HLS, HCU, HRA, HRL, hS⟩ := hrel
    have hzw : w.heap.size ≤ wr.heap.size := (hS.2.2.2.2.2.2).size
    have hTr : T < wr.heap.size := (hS.2.2.2.1).1
    by_cases hz : 0 < j
    · obtain ⟨j, rfl⟩ : ∃ q, j = q + 1 := ⟨j - 1, by omega⟩
      go_wp2_with fail
      refine (message_c (w.heap.size + 1) (0 + 282 + 30 * (p - (j + 1))) _ (hide HCU.out) (by omega)).mono ?_
      rintro e w1 ⟨_, rfl, ⟨y, rfl, hy⟩, hcn, hgn⟩
      have hS1 : (w.heap.size < w1.heap.size ∧ ∀ i, w1.frozen? ⟨w.heap.size, i, none⟩ = false) ∧ w1.cell? ⟨w.heap.size, 0, none⟩ = some (.int .i64 (0)) ∧ w1.cell? ⟨w.heap.size, 1, none⟩ = some (.slice none 0 0) ∧ (T < w1.heap.size ∧ ∀ i, w1.frozen? ⟨T, i, none⟩ = false) ∧ w1.cell? ⟨T, 0, none⟩ = some (.int .i64 m) ∧ w1.cell? ⟨T, 1, none⟩ = some (.slice AR l.length cR) ∧ Below w.heap.size w w1 := ⟨fre_gb (hS.1) hgn (ne_some (show w.heap.size ≠ w.heap.size + 1 by omega)), gc hgn (hS.2.1) (show w.heap.size ≠ w.heap.size + 1 by omega), gc hgn (hS.2.2.1) (show w.heap.size ≠ w.heap.size + 1 by omega), fre_gb (hS.2.2.2.1) hgn (ne_some (show T ≠ w.heap.size + 1 by omega)), gc hgn (hS.2.2.2.2.1) (show T ≠ w.heap.size + 1 by omega), gc hgn (hS.2.2.2.2.2.1) (show T ≠ w.heap.size + 1 by omega), below_gb (hS.2.2.2.2.2.2) hgn hzw (by omega)⟩
      have hR1 := World.ownsRow.kept HRA.out hgn (own_far HRA.out (by omega))
      have hL1 := World.ownsRow.kept HRL.out hgn (own_far HRL.out (by omega))
      have hz1 : T < w1.heap.size := (hS1.2.2.2.1).1
      have hB1 := hS1.2.2.2.2.2.2
      clear hS HRA HRL HCU hgn hzw hTr
      go_wp2_with (first | (at_builtin; refine wpList_append_lies _ rfl _ _ 71 rfl (T + 1) 9 i0 (.string ByteArray.empty) 1 16 Try.underlying71 hi0 iz0 iy0 ix0 rfl (by decide) _ (ls.length) (strs ls) rfl (hL1.alloc _) ⟨w1.heap.size, 0, none⟩ 1 1 [.string y] rfl rfl (news_one (by simp [go_sem])) (by intro u hu; simp at hu; subst hu; rfl) (by decide) (by unfold maxLen; omega) (by omega) (by first | (simp [go_sem]; done) | (simp [go_sem]; omega)) _ rfl ?_; intro g9 cap9 w2 hown hgrow _ _; have hSn : (w.heap.size < w2.heap.size ∧ ∀ i, w2.frozen? ⟨w.heap.size, i, none⟩ = false) ∧ w2.cell? ⟨w.heap.size, 0, none⟩ = some (.int .i64 (0)) ∧ w2.cell? ⟨w.heap.size, 1, none⟩ = some (.slice none 0 0) ∧ (T < w2.heap.size ∧ ∀ i, w2.frozen? ⟨T, i, none⟩ = false) ∧ w2.cell? ⟨T, 0, none⟩ = some (.int .i64 m) ∧ w2.cell? ⟨T, 1, none⟩ = some (.slice AR l.length cR) ∧ Below w.heap.size w w2 := ⟨own_fre (hL1.alloc _) hgrow (keep_fre (by go_grown) (hS1.1)) (show w.heap.size < T + 1 by omega), own_cell (hL1.alloc _) hgrow (keep_cell (by go_grown) (hS1.2.1)) (show w.heap.size < T + 1 by omega), own_cell (hL1.alloc _) hgrow (keep_cell (by go_grown) (hS1.2.2.1)) (show w.heap.size < T + 1 by omega), own_fre (hL1.alloc _) hgrow (keep_fre (by go_grown) (hS1.2.2.2.1)) (show T < T + 1 by omega), own_cell (hL1.alloc _) hgrow (keep_cell (by go_grown) (hS1.2.2.2.2.1)) (show T < T + 1 by omega), own_cell (hL1.alloc _) hgrow (keep_cell (by go_grown) (hS1.2.2.2.2.2.1)) (show T < T + 1 by omega), own_grown (a := w) (B := w.heap.size) (hL1.alloc _) hgrow (by go_grown) (by first | (simp [go_sem]; done) | (simp [go_sem]; omega)) (show w.heap.size ≤ T + 1 by omega)⟩; have hRAn := row_kept hgrow (hR1.alloc _) HAT.out (hL1.alloc _); have hCn := cur_row (Cur.alloc (hcn) _) (hL1.alloc _) hgrow (show w.heap.size + 1 < T + 1 by omega); clear hgrow))
      go_wp2
      go_roundw
      case rel => exact ⟨j, ls ++ [y], some ⟨g9, 0, none⟩, cap9, by omega, by go_num, by simp, by simp; omega, hide (fun s hs => by rcases List.mem_append.1 hs with hs | hs; exact HLS.out s hs; simp at hs; subst hs; exact hy), hide (hCn.more (by omega)), hide hRAn, hide (by rw [strs_snoc]; simpa using hown), hSn⟩
      case measure => simp [intOf]
    obtain rfl : j = 0 := by omega
    go_wp2_with fail
    refine (one_c 24 (by omega) (w.heap.size + 1) (0 + 402) _ (hide (HCU.out.more (by omega))) (by omega)).mono ?_
    rintro e w1 ⟨_, rfl, ⟨b, rfl⟩, hcn, hgn⟩
    have hS1 : (w.heap.size < w1.heap.size ∧ ∀ i, w1.frozen? ⟨w.heap.size, i, none⟩ = false) ∧ w1.cell? ⟨w.heap.size, 0, none⟩ = some (.int .i64 (0)) ∧ w1.cell? ⟨w.heap.size, 1, none⟩ = some (.slice none 0 0) ∧ (T < w1.heap.size ∧ ∀ i, w1.frozen? ⟨T, i, none⟩ = false) ∧ w1.cell? ⟨T, 0, none⟩ = some (.int .i64 m) ∧ w1.cell? ⟨T, 1, none⟩ = some (.slice AR l.length cR) ∧ Below w.heap.size w w1 := ⟨fre_gb (hS.1) hgn (ne_some (show w.heap.size ≠ w.heap.size + 1 by omega)), gc hgn (hS.2.1) (show w.heap.size ≠ w.heap.size + 1 by omega), gc hgn (hS.2.2.1) (show w.heap.size ≠ w.heap.size + 1 by omega), fre_gb (hS.2.2.2.1) hgn (ne_some (show T ≠ w.heap.size + 1 by omega)), gc hgn (hS.2.2.2.2.1) (show T ≠ w.heap.size + 1 by omega), gc hgn (hS.2.2.2.2.2.1) (show T ≠ w.heap.size + 1 by omega), below_gb (hS.2.2.2.2.2.2) hgn hzw (by omega)⟩
    have hR1 := World.ownsRow.kept HRA.out hgn (own_far HRA.out (by omega))
    have hL1 := World.ownsRow.kept HRL.out hgn (own_far HRL.out (by omega))
    have hz1 : T < w1.heap.size := (hS1.2.2.2.1).1
    have hB1 := hS1.2.2.2.2.2.2
    clear hS HRA HRL HCU hgn hzw hTr
    rcases b with _ | _
    · have hS8 : Cur w1 (w.heap.size + 1) (0 + 404) ∧ (w.heap.size < w1.heap.size ∧ ∀ i, w1.frozen? ⟨w.heap.size, i, none⟩ = false) ∧ w1.cell? ⟨w.heap.size, 0, none⟩ = some (.int .i64 (0)) ∧ w1.cell? ⟨w.heap.size, 1, none⟩ = some (.slice none 0 0) ∧ (T < w1.heap.size ∧ ∀ i, w1.frozen? ⟨T, i, none⟩ = false) ∧ w1.cell? ⟨T, 0, none⟩ = some (.int .i64 m) ∧ w1.cell? ⟨T, 1, none⟩ = some (.slice AR l.length cR) ∧ w1.ownsRow (w.heap.size + 2) 42 10 (.slice AR l.length cR) (l.length) (hds l) ∧ w1.ownsRow (T + 1) 9 1 (.slice SA ls.length SC) (ls.length) (strs ls) ∧ Below w.heap.size w w1 := ⟨(hcn).more (by omega), hS1.1, hS1.2.1, hS1.2.2.1, hS1.2.2.2.1, hS1.2.2.2.2.1, hS1.2.2.2.2.2.1, hR1, hL1, hS1.2.2.2.2.2.2⟩
      clear hS1
      have hS := hS8
      clear hS8
      have hS2 := hS
      obtain ⟨hq0, ⟨f0, fr0⟩, q1, q2, ⟨f3, fr3⟩, q4, q5, q6, q7, hF⟩ := hS2
      have hgl : w.heap.size + 1 < w1.heap.size := hq0.lt
      have hzw : w.heap.size ≤ w1.heap.size := hF.size
      have hB := hF
      have hz1 : w.heap.size < w1.heap.size := World.block_lt_of_cell? w1 _ q1
      have hz2 : T < w1.heap.size := World.block_lt_of_cell? w1 _ q4
      go_upto_region 13 with fail
      refine wp_region_seq deed [0, 1, 2, 3, 4, 5, 6, 7, 8, 9, 10] (fun W => W.cell? ⟨T, 0, none⟩ = some (.int .i64 m) ∧ W.cell? ⟨T, 1, none⟩ = some (.slice AR l.length cR) ∧ Below w.heap.size w W) (by kernel_rfl) (by kernel_rfl) ⟨(by first | (with_reducible assumption) | (simp [go_sem]; done) | ((simp only [go_sem]); (with_reducible assumption)) | ((refine keep_cell ?_ (by with_reducible assumption)); go_grown; done) | (simp [go_sem, *]; done) | (rw [World.cell?_setCell_other _ _ _ _ (by simp; omega)]; with_reducible assumption) | (rw [World.cell?_setCell_other _ _ _ _ (by simp; omega), World.cell?_setCell_other _ _ _ _ (by simp; omega)]; with_reducible assumption)), (by first | (with_reducible assumption) | (simp [go_sem]; done) | ((simp only [go_sem]); (with_reducible assumption)) | ((refine keep_cell ?_ (by with_reducible assumption)); go_grown; done) | (simp [go_sem, *]; done) | (rw [World.cell?_setCell_other _ _ _ _ (by simp; omega)]; with_reducible assumption) | (rw [World.cell?_setCell_other _ _ _ _ (by simp; omega), World.cell?_setCell_other _ _ _ _ (by simp; omega)]; with_reducible assumption)), (by go_grown)⟩ ?_
      simp only [byNum, List.getElem?_cons_zero, List.getElem?_cons_succ]
      repeat (first
        | ((refine seq_skip (by rfl) (by rfl) ?_); simp only [Act.put, zp1, zp2, zp3])
        | ((refine seq_val (v := ?_) (by rfl) (by rfl) (fun w hS => ?_) ?_); rotate_left; (focus ((try dsimp only at hS); go_simp; (try (with_reducible rfl)); done)); simp only [Act.put, zp1, zp2, zp3]))
      refine seq_deed (v := ?_) (w' := ?_) (by rfl) (by rfl) ?_ ?_
      rotate_left
      rotate_left
      focus (go_simp; (constructor <;> (with_reducible rfl)); done)
      obtain ⟨w71, hw9⟩ : ∃ W, World.drew (World.alloc w1 (.cells #[.int .i64 0, .int .i64 1, .int .i64 5, .int .i64 (-1)] 3)) = W := ⟨_, rfl⟩
      rw [hw9]
      have hb : Below w1.heap.size w1 w71 := by rw [← hw9]; go_grown
      have hT : Cur w71 (w.heap.size + 1) (0 + 404) ∧ (w.heap.size < w71.heap.size ∧ ∀ i, w71.frozen? ⟨w.heap.size, i, none⟩ = false) ∧ w71.cell? ⟨w.heap.size, 0, none⟩ = some (.int .i64 (0)) ∧ w71.cell? ⟨w.heap.size, 1, none⟩ = some (.slice none 0 0) ∧ (T < w71.heap.size ∧ ∀ i, w71.frozen? ⟨T, i, none⟩ = false) ∧ w71.cell? ⟨T, 0, none⟩ = some (.int .i64 m) ∧ w71.cell? ⟨T, 1, none⟩ = some (.slice AR l.length cR) ∧ w71.ownsRow (w.heap.size + 2) 42 10 (.slice AR l.length cR) (l.length) (hds l) ∧ w71.ownsRow (T + 1) 9 1 (.slice SA ls.length SC) (ls.length) (strs ls) ∧ (∀ j, j < ([0, 1, 5, -1] : List Int).length → w71.cell? ((⟨w1.heap.size, 0, none⟩ : Addr).add j) = some (.int .i64 (nth [0, 1, 5, -1] j))) ∧ Below w.heap.size w w71 := ⟨hS.1.below hb, keep_fre hb (hS.2.1), keep_cell hb (hS.2.2.1), keep_cell hb (hS.2.2.2.1), keep_fre hb (hS.2.2.2.2.1), keep_cell hb (hS.2.2.2.2.2.1), keep_cell hb (hS.2.2.2.2.2.2.1), own_below (hS.2.2.2.2.2.2.2.1) hb, own_below (hS.2.2.2.2.2.2.2.2.1) hb, (by rw [← hw9]; exact lit_at (by rfl) rfl), below_via (hS.2.2.2.2.2.2.2.2.2) hb⟩
      clear hS hb hw9
      have hS := hT
      clear hT
      have hS2 := hS
      obtain ⟨hq0, ⟨f0, fr0⟩, q1, q2, ⟨f3, fr3⟩, q4, q5, q6, q7, q8, hF⟩ := hS2
      have hgl : w.heap.size + 1 < w71.heap.size := hq0.lt
      have hzw : w.heap.size ≤ w71.heap.size := hF.size
      have hB := hF
      have hz1 : w.heap.size < w71.heap.size := World.block_lt_of_cell? w71 _ q1
      have hz2 : T < w71.heap.size := World.block_lt_of_cell? w71 _ q4
      refine ⟨(fun W => W.cell? ⟨T, 0, none⟩ = some (.int .i64 m) ∧ W.cell? ⟨T, 1, none⟩ = some (.slice AR l.length cR) ∧ Below w.heap.size w W), ⟨hS.2.2.2.2.2.1, hS.2.2.2.2.2.2.1, hS.2.2.2.2.2.2.2.2.2.2⟩, (fun W h => h), ?_⟩
      simp only [Act.put, zp1, zp2, zp3]
      repeat (first
        | ((refine seq_skip (by rfl) (by rfl) ?_); simp only [Act.put, zp1, zp2, zp3])
        | ((refine seq_val (v := ?_) (by rfl) (by rfl) (fun w hS => ?_) ?_); rotate_left; (focus ((try dsimp only at hS); go_simp; (try (with_reducible rfl)); done)); simp only [Act.put, zp1, zp2, zp3]))
      refine seq_call (f := ?_) (args := ?_) (by rfl) (by rfl) ?_ ?_
      rotate_left
      rotate_left
      focus (go_simp; (constructor <;> (with_reducible rfl)); done)
      refine (among_c (-1) (5) [0, 1, 5, -1] _ _ (w.heap.size + 1) (0 + 404) _ (hide (by repeat' (first | (with_reducible exact hS.1) | (with_reducible refine Cur.drew ?_) | (with_reducible refine Cur.alloc ?_ _) | (with_reducible refine Cur.setc ?_ (by first | omega | (simp; done) | (simp; omega)) _)))) (by omega) (hide (by with_reducible assumption)) (by intro e; (try dsimp only at e); omega) ⟨by decide, by decide⟩ (hide (by decide))).mono ?_
      rintro e w72 ⟨_, rfl, ⟨x9, rfl, x90, x91⟩, hcn, hgn⟩
      have hT : Cur w72 (w.heap.size + 1) (0 + 406) ∧ (w.heap.size < w72.heap.size ∧ ∀ i, w72.frozen? ⟨w.heap.size, i, none⟩ = false) ∧ w72.cell? ⟨w.heap.size, 0, none⟩ = some (.int .i64 (0)) ∧ w72.cell? ⟨w.heap.size, 1, none⟩ = some (.slice none 0 0) ∧ (T < w72.heap.size ∧ ∀ i, w72.frozen? ⟨T, i, none⟩ = false) ∧ w72.cell? ⟨T, 0, none⟩ = some (.int .i64 m) ∧ w72.cell? ⟨T, 1, none⟩ = some (.slice AR l.length cR) ∧ w72.ownsRow (w.heap.size + 2) 42 10 (.slice AR l.length cR) (l.length) (hds l) ∧ w72.ownsRow (T + 1) 9 1 (.slice SA ls.length SC) (ls.length) (strs ls) ∧ (∀ j, j < ([0, 1, 5, -1] : List Int).length → w72.cell? ((⟨w1.heap.size, 0, none⟩ : Addr).add j) = some (.int .i64 (nth [0, 1, 5, -1] j))) ∧ Below w.heap.size w w72 := (fun W h hgn => ⟨hcn, fre_gb (h.2.1) hgn (by intro e; injection e with e; (try dsimp only at e); omega), hgn.cell (h.2.2.1) (by intro e; injection e with e; (try dsimp only at e); omega), hgn.cell (h.2.2.2.1) (by intro e; injection e with e; (try dsimp only at e); omega), fre_gb (h.2.2.2.2.1) hgn (by intro e; injection e with e; (try dsimp only at e); omega), hgn.cell (h.2.2.2.2.2.1) (by intro e; injection e with e; (try dsimp only at e); omega), hgn.cell (h.2.2.2.2.2.2.1) (by intro e; injection e with e; (try dsimp only at e); omega), World.ownsRow.kept (h.2.2.2.2.2.2.2.1) hgn (own_far (h.2.2.2.2.2.2.2.1) (by first | omega | (simp; done) | (simp; omega))), World.ownsRow.kept (h.2.2.2.2.2.2.2.2.1) hgn (own_far (h.2.2.2.2.2.2.2.2.1) (by first | omega | (simp; done) | (simp; omega))), (fun j hj => hgn.cell ((h.2.2.2.2.2.2.2.2.2.1) j hj) (by rw [block_of_add]; intro e; injection e with e; (try dsimp only at e); omega)), below_gb (h.2.2.2.2.2.2.2.2.2.2) hgn (h.2.2.2.2.2.2.2.2.2.2).size (by first | omega | (simp; done) | (simp; omega))⟩ : ∀ W : World, (Cur W (w.heap.size + 1) (0 + 404) ∧ (w.heap.size < W.heap.size ∧ ∀ i, W.frozen? ⟨w.heap.size, i, none⟩ = false) ∧ W.cell? ⟨w.heap.size, 0, none⟩ = some (.int .i64 (0)) ∧ W.cell? ⟨w.heap.size, 1, none⟩ = some (.slice none 0 0) ∧ (T < W.heap.size ∧ ∀ i, W.frozen? ⟨T, i, none⟩ = false) ∧ W.cell? ⟨T, 0, none⟩ = some (.int .i64 m) ∧ W.cell? ⟨T, 1, none⟩ = some (.slice AR l.length cR) ∧ W.ownsRow (w.heap.size + 2) 42 10 (.slice AR l.length cR) (l.length) (hds l) ∧ W.ownsRow (T + 1) 9 1 (.slice SA ls.length SC) (ls.length) (strs ls) ∧ (∀ j, j < ([0, 1, 5, -1] : List Int).length → W.cell? ((⟨w1.heap.size, 0, none⟩ : Addr).add j) = some (.int .i64 (nth [0, 1, 5, -1] j))) ∧ Below w.heap.size w W) → W.grownBy w72 (some (w.heap.size + 1)) → (Cur w72 (w.heap.size + 1) (0 + 406) ∧ (w.heap.size < w72.heap.size ∧ ∀ i, w72.frozen? ⟨w.heap.size, i, none⟩ = false) ∧ w72.cell? ⟨w.heap.size, 0, none⟩ = some (.int .i64 (0)) ∧ w72.cell? ⟨w.heap.size, 1, none⟩ = some (.slice none 0 0) ∧ (T < w72.heap.size ∧ ∀ i, w72.frozen? ⟨T, i, none⟩ = false) ∧ w72.cell? ⟨T, 0, none⟩ = some (.int .i64 m) ∧ w72.cell? ⟨T, 1, none⟩ = some (.slice AR l.length cR) ∧ w72.ownsRow (w.heap.size + 2) 42 10 (.slice AR l.length cR) (l.length) (hds l) ∧ w72.ownsRow (T + 1) 9 1 (.slice SA ls.length SC) (ls.length) (strs ls) ∧ (∀ j, j < ([0, 1, 5, -1] : List Int).length → w72.cell? ((⟨w1.heap.size, 0, none⟩ : Addr).add j) = some (.int .i64 (nth [0, 1, 5, -1] j))) ∧ Below w.heap.size w w72)) _ ⟨(by repeat' (first | (with_reducible exact hS.1) | (with_reducible refine Cur.drew ?_) | (with_reducible refine Cur.alloc ?_ _) | (with_reducible refine Cur.setc ?_ (by first | omega | (simp; done) | (simp; omega)) _))), (by first | (with_reducible assumption) | (simp [go_sem]; done) | (refine keep_fre ?_ ⟨by with_reducible assumption, by with_reducible assumption⟩; go_grown; done) | (simp [go_sem, *]; done)), (by first | (with_reducible assumption) | (simp [go_sem]; done) | ((simp only [go_sem]); (with_reducible assumption)) | ((refine keep_cell ?_ (by with_reducible assumption)); go_grown; done) | (simp [go_sem, *]; done) | (rw [World.cell?_setCell_other _ _ _ _ (by simp; omega)]; with_reducible assumption) | (rw [World.cell?_setCell_other _ _ _ _ (by simp; omega), World.cell?_setCell_other _ _ _ _ (by simp; omega)]; with_reducible assumption)), (by first | (with_reducible assumption) | (simp [go_sem]; done) | ((simp only [go_sem]); (with_reducible assumption)) | ((refine keep_cell ?_ (by with_reducible assumption)); go_grown; done) | (simp [go_sem, *]; done) | (rw [World.cell?_setCell_other _ _ _ _ (by simp; omega)]; with_reducible assumption) | (rw [World.cell?_setCell_other _ _ _ _ (by simp; omega), World.cell?_setCell_other _ _ _ _ (by simp; omega)]; with_reducible assumption)), (by first | (with_reducible assumption) | (simp [go_sem]; done) | (refine keep_fre ?_ ⟨by with_reducible assumption, by with_reducible assumption⟩; go_grown; done) | (simp [go_sem, *]; done)), (by first | (with_reducible assumption) | (simp [go_sem]; done) | ((simp only [go_sem]); (with_reducible assumption)) | ((refine keep_cell ?_ (by with_reducible assumption)); go_grown; done) | (simp [go_sem, *]; done) | (rw [World.cell?_setCell_other _ _ _ _ (by simp; omega)]; with_reducible assumption) | (rw [World.cell?_setCell_other _ _ _ _ (by simp; omega), World.cell?_setCell_other _ _ _ _ (by simp; omega)]; with_reducible assumption)), (by first | (with_reducible assumption) | (simp [go_sem]; done) | ((simp only [go_sem]); (with_reducible assumption)) | ((refine keep_cell ?_ (by with_reducible assumption)); go_grown; done) | (simp [go_sem, *]; done) | (rw [World.cell?_setCell_other _ _ _ _ (by simp; omega)]; with_reducible assumption) | (rw [World.cell?_setCell_other _ _ _ _ (by simp; omega), World.cell?_setCell_other _ _ _ _ (by simp; omega)]; with_reducible assumption)), (by first | (with_reducible assumption) | (exact hS.2.2.2.2.2.2.2.1) | ((refine own_below (by with_reducible assumption) ?_); go_grown)), (by first | (with_reducible assumption) | (exact hS.2.2.2.2.2.2.2.2.1) | ((refine own_below (by with_reducible assumption) ?_); go_grown)), (by first | (with_reducible assumption) | (exact lit_at (by rfl) (by first | rfl | (with_reducible assumption) | simp))), (by go_grown)⟩ hgn
      (try clear hS)
      have hS := hT
      clear hT hcn hgn
      have hS2 := hS
      obtain ⟨hq0, ⟨f0, fr0⟩, q1, q2, ⟨f3, fr3⟩, q4, q5, q6, q7, q8, hF⟩ := hS2
      have hgl : w.heap.size + 1 < w72.heap.size := hq0.lt
      have hzw : w.heap.size ≤ w72.heap.size := hF.size
      have hB := hF
      have hz1 : w.heap.size < w72.heap.size := World.block_lt_of_cell? w72 _ q1
      have hz2 : T < w72.heap.size := World.block_lt_of_cell? w72 _ q4
      have ewx : IntKind.i64.wrap (m + x9) = m + x9 := IntWalk.i64_in _ (by omega)
      refine ⟨_, rfl, (fun W => W.cell? ⟨T, 0, none⟩ = some (.int .i64 m) ∧ W.cell? ⟨T, 1, none⟩ = some (.slice AR l.length cR) ∧ Below w.heap.size w W), ⟨hS.2.2.2.2.2.1, hS.2.2.2.2.2.2.1, hS.2.2.2.2.2.2.2.2.2.2⟩, (fun W h => h), ?_⟩
      simp only [Act.put, zp1, zp2, zp3]
      repeat (first
        | ((refine seq_skip (by rfl) (by rfl) ?_); simp only [Act.put, zp1, zp2, zp3])
        | ((refine seq_val (v := ?_) (by rfl) (by rfl) (fun w hS => ?_) ?_); rotate_left; (focus ((try dsimp only at hS); go_simp; (try (with_reducible rfl)); done)); simp only [Act.put, zp1, zp2, zp3]))
      have hrow := q6
      have hTR : T ≠ w.heap.size := by omega
      obtain ⟨X9, hX9⟩ : ∃ X, (w72.setCell ⟨w.heap.size, 0, none⟩ (.int .i64 m)).setCell ⟨w.heap.size, 1, none⟩ (.slice AR l.length cR) = X := ⟨_, rfl⟩
      obtain ⟨_, _, d2, d3⟩ := box2_sets q1 q2 (.int .i64 m) (.slice AR l.length cR)
      rw [hX9] at d2 d3
      have hS9 : X9.cell? ⟨T, 0, none⟩ = some (.int .i64 m) ∧ X9.cell? ⟨T, 1, none⟩ = some (.slice AR l.length cR) ∧ Below w.heap.size w X9 := by rw [← hX9]; exact ⟨sc _ hTR (sc _ hTR q4), sc _ hTR (sc _ hTR q5), (hF.setCell (p := ⟨w.heap.size, 0, none⟩) (Nat.le_refl _) _).setCell (p := ⟨w.heap.size, 1, none⟩) (Nat.le_refl _) _⟩
      have hr8 := hide (own_set (own_set q7 (p := ⟨w.heap.size, 0, none⟩) (show w.heap.size < T + 1 by omega) (.int .i64 m)) (p := ⟨w.heap.size, 1, none⟩) (show w.heap.size < T + 1 by omega) (.slice AR l.length cR))
      have hr9 := hide (own_set (own_set hrow (p := ⟨w.heap.size, 0, none⟩) (show w.heap.size < w.heap.size + 2 by omega) (.int .i64 m)) (show w.heap.size < w.heap.size + 2 by omega) (.slice AR l.length cR) (p := ⟨w.heap.size, 1, none⟩))
      rw [hX9] at hr9 hr8
      refine seq_store (w' := X9) (by rfl) (by rfl) (by rw [← hX9]; go_simp; (try (with_reducible rfl)); done) ?_
      refine ⟨(fun W => W.cell? ⟨T, 0, none⟩ = some (.int .i64 m) ∧ W.cell? ⟨T, 1, none⟩ = some (.slice AR l.length cR) ∧ Below w.heap.size w W), hS9, (fun W h => h), ?_⟩
      simp only [Act.put, zp1, zp2, zp3]
      repeat (first
        | ((refine seq_skip (by rfl) (by rfl) ?_); simp only [Act.put, zp1, zp2, zp3])
        | ((refine seq_val (v := ?_) (by rfl) (by rfl) (fun w hS => ?_) ?_); rotate_left; (focus ((try dsimp only at hS); go_simp; (try (with_reducible rfl)); done)); simp only [Act.put, zp1, zp2, zp3]))
      refine seq_nil ?_
      clear hS hX9
      go_wp2
      refine bodyPost_ret (by simp [results, Try.results45, go_sem, d2, d3]; try rfl) rfl ?_
      exact ⟨m, l, AR, cR, ls, SA, SC, m + x9, rfl, own_mono hr9.out (by omega), own_mono hr8.out (by omega), by omega, by omega, ⟨hm0, hm1⟩, HLS.out, ⟨by omega, by omega⟩, hS9.2.2⟩
    go_wp2_with fail
    go_loopw [7, 9] (fun lv nv wr => ∃ (n9 : Nat) (ls : List ByteArray) (SA : Option Addr) (SC : Nat), n9 ≤ 22 ∧ nv = .int .i64 n9 ∧ lv = .slice SA ls.length SC ∧ ls.length ≤ 4 + n9 ∧ Hid (∀ s ∈ ls, s.size ≤ 16) ∧ Hid (Cur wr (w.heap.size + 1) (0 + 404 + 2 * n9)) ∧ Hid (wr.ownsRow (w.heap.size + 2) 42 10 (.slice AR l.length cR) l.length (hds l)) ∧ Hid (wr.ownsRow (T + 1) 9 1 (.slice SA ls.length SC) ls.length (strs ls)) ∧ ((w.heap.size < wr.heap.size ∧ ∀ i, wr.frozen? ⟨w.heap.size, i, none⟩ = false) ∧ wr.cell? ⟨w.heap.size, 0, none⟩ = some (.int .i64 (0)) ∧ wr.cell? ⟨w.heap.size, 1, none⟩ = some (.slice none 0 0) ∧ (T < wr.heap.size ∧ ∀ i, wr.frozen? ⟨T, i, none⟩ = false) ∧ wr.cell? ⟨T, 0, none⟩ = some (.int .i64 m) ∧ wr.cell? ⟨T, 1, none⟩ = some (.slice AR l.length cR) ∧ Below w.heap.size w wr)) (fun _ nv _ => 22 - (intOf nv).toNat)
    case atStart => exact ⟨0, ls, SA, SC, by omega, rfl, rfl, by omega, HLS, hide (hcn.more (by omega)), hide hR1, hide hL1, hS1⟩
    case round =>
      clear hS1 hR1 hL1 hcn HLS hB1
      obtain ⟨n9, ls, SA, SC, hn9, rfl, rfl, hls, HLS, HCU, HRA, HRL, hS⟩ := hrel
      have hzw : w.heap.size ≤ wr.heap.size := (hS.2.2.2.2.2.2).size
      have hTr : T < wr.heap.size := (hS.2.2.2.1).1
      go_wp2_with fail
      refine (pick_c 2 (by omega) (w.heap.size + 1) (0 + 404 + 2 * n9) _ (hide HCU.out) (by omega)).mono ?_
      rintro e w3 ⟨_, rfl, ⟨v, rfl, v0, v1⟩, hcn, hgn⟩
      have hS1 : (w.heap.size < w3.heap.size ∧ ∀ i, w3.frozen? ⟨w.heap.size, i, none⟩ = false) ∧ w3.cell? ⟨w.heap.size, 0, none⟩ = some (.int .i64 (0)) ∧ w3.cell? ⟨w.heap.size, 1, none⟩ = some (.slice none 0 0) ∧ (T < w3.heap.size ∧ ∀ i, w3.frozen? ⟨T, i, none⟩ = false) ∧ w3.cell? ⟨T, 0, none⟩ = some (.int .i64 m) ∧ w3.cell? ⟨T, 1, none⟩ = some (.slice AR l.length cR) ∧ Below w.heap.size w w3 := ⟨fre_gb (hS.1) hgn (ne_some (show w.heap.size ≠ w.heap.size + 1 by omega)), gc hgn (hS.2.1) (show w.heap.size ≠ w.heap.size + 1 by omega), gc hgn (hS.2.2.1) (show w.heap.size ≠ w.heap.size + 1 by omega), fre_gb (hS.2.2.2.1) hgn (ne_some (show T ≠ w.heap.size + 1 by omega)), gc hgn (hS.2.2.2.2.1) (show T ≠ w.heap.size + 1 by omega), gc hgn (hS.2.2.2.2.2.1) (show T ≠ w.heap.size + 1 by omega), below_gb (hS.2.2.2.2.2.2) hgn hzw (by omega)⟩
      have hR1 := World.ownsRow.kept HRA.out hgn (own_far HRA.out (by omega))
      have hL1 := World.ownsRow.kept HRL.out hgn (own_far HRL.out (by omega))
      have hz1 : T < w3.heap.size := (hS1.2.2.2.1).1
      have hB1 := hS1.2.2.2.2.2.2
      clear hS HRA HRL HCU hgn hzw hTr
      have ewv : IntKind.i64.wrap (20 + v) = 20 + v := IntWalk.i64_in _ (by omega)
      by_cases hlt : (ls.length : Int) < 20 + v
      rotate_left
      · have hlb : decide ((ls.length : Int) < 20 + v) = false := decide_eq_false hlt
        clear hlt
        have hS8 : Cur w3 (w.heap.size + 1) (0 + 450) ∧ (w.heap.size < w3.heap.size ∧ ∀ i, w3.frozen? ⟨w.heap.size, i, none⟩ = false) ∧ w3.cell? ⟨w.heap.size, 0, none⟩ = some (.int .i64 (0)) ∧ w3.cell? ⟨w.heap.size, 1, none⟩ = some (.slice none 0 0) ∧ (T < w3.heap.size ∧ ∀ i, w3.frozen? ⟨T, i, none⟩ = false) ∧ w3.cell? ⟨T, 0, none⟩ = some (.int .i64 m) ∧ w3.cell? ⟨T, 1, none⟩ = some (.slice AR l.length cR) ∧ w3.ownsRow (w.heap.size + 2) 42 10 (.slice AR l.length cR) (l.length) (hds l) ∧ w3.ownsRow (T + 1) 9 1 (.slice SA ls.length SC) (ls.length) (strs ls) ∧ Below w.heap.size w w3 := ⟨(hcn).more (by omega), hS1.1, hS1.2.1, hS1.2.2.1, hS1.2.2.2.1, hS1.2.2.2.2.1, hS1.2.2.2.2.2.1, hR1, hL1, hS1.2.2.2.2.2.2⟩
        clear hS1
        have hS := hS8
        clear hS8
        have hS2 := hS
        obtain ⟨hq0, ⟨f0, fr0⟩, q1, q2, ⟨f3, fr3⟩, q4, q5, q6, q7, hF⟩ := hS2
        have hgl : w.heap.size + 1 < w3.heap.size := hq0.lt
        have hzw : w.heap.size ≤ w3.heap.size := hF.size
        have hB := hF
        have hz1 : w.heap.size < w3.heap.size := World.block_lt_of_cell? w3 _ q1
        have hz2 : T < w3.heap.size := World.block_lt_of_cell? w3 _ q4
        go_upto_region 13 with fail
        refine wp_region_seq deed [0, 1, 2, 3, 4, 5, 6, 7, 8, 9, 10] (fun W => W.cell? ⟨T, 0, none⟩ = some (.int .i64 m) ∧ W.cell? ⟨T, 1, none⟩ = some (.slice AR l.length cR) ∧ Below w.heap.size w W) (by kernel_rfl) (by kernel_rfl) ⟨(by first | (with_reducible assumption) | (simp [go_sem]; done) | ((simp only [go_sem]); (with_reducible assumption)) | ((refine keep_cell ?_ (by with_reducible assumption)); go_grown; done) | (simp [go_sem, *]; done) | (rw [World.cell?_setCell_other _ _ _ _ (by simp; omega)]; with_reducible assumption) | (rw [World.cell?_setCell_other _ _ _ _ (by simp; omega), World.cell?_setCell_other _ _ _ _ (by simp; omega)]; with_reducible assumption)), (by first | (with_reducible assumption) | (simp [go_sem]; done) | ((simp only [go_sem]); (with_reducible assumption)) | ((refine keep_cell ?_ (by with_reducible assumption)); go_grown; done) | (simp [go_sem, *]; done) | (rw [World.cell?_setCell_other _ _ _ _ (by simp; omega)]; with_reducible assumption) | (rw [World.cell?_setCell_other _ _ _ _ (by simp; omega), World.cell?_setCell_other _ _ _ _ (by simp; omega)]; with_reducible assumption)), (by go_grown)⟩ ?_
        simp only [byNum, List.getElem?_cons_zero, List.getElem?_cons_succ]
        repeat (first
          | ((refine seq_skip (by rfl) (by rfl) ?_); simp only [Act.put, zp1, zp2, zp3])
          | ((refine seq_val (v := ?_) (by rfl) (by rfl) (fun w hS => ?_) ?_); rotate_left; (focus ((try dsimp only at hS); go_simp; (try (with_reducible rfl)); done)); simp only [Act.put, zp1, zp2, zp3]))
        refine seq_deed (v := ?_) (w' := ?_) (by rfl) (by rfl) ?_ ?_
        rotate_left
        rotate_left
        focus (go_simp; (constructor <;> (with_reducible rfl)); done)
        obtain ⟨w71, hw9⟩ : ∃ W, World.drew (World.alloc w3 (.cells #[.int .i64 0, .int .i64 1, .int .i64 5, .int .i64 (-1)] 3)) = W := ⟨_, rfl⟩
        rw [hw9]
        have hb : Below w3.heap.size w3 w71 := by rw [← hw9]; go_grown
        have hT : Cur w71 (w.heap.size + 1) (0 + 450) ∧ (w.heap.size < w71.heap.size ∧ ∀ i, w71.frozen? ⟨w.heap.size, i, none⟩ = false) ∧ w71.cell? ⟨w.heap.size, 0, none⟩ = some (.int .i64 (0)) ∧ w71.cell? ⟨w.heap.size, 1, none⟩ = some (.slice none 0 0) ∧ (T < w71.heap.size ∧ ∀ i, w71.frozen? ⟨T, i, none⟩ = false) ∧ w71.cell? ⟨T, 0, none⟩ = some (.int .i64 m) ∧ w71.cell? ⟨T, 1, none⟩ = some (.slice AR l.length cR) ∧ w71.ownsRow (w.heap.size + 2) 42 10 (.slice AR l.length cR) (l.length) (hds l) ∧ w71.ownsRow (T + 1) 9 1 (.slice SA ls.length SC) (ls.length) (strs ls) ∧ (∀ j, j < ([0, 1, 5, -1] : List Int).length → w71.cell? ((⟨w3.heap.size, 0, none⟩ : Addr).add j) = some (.int .i64 (nth [0, 1, 5, -1] j))) ∧ Below w.heap.size w w71 := ⟨hS.1.below hb, keep_fre hb (hS.2.1), keep_cell hb (hS.2.2.1), keep_cell hb (hS.2.2.2.1), keep_fre hb (hS.2.2.2.2.1), keep_cell hb (hS.2.2.2.2.2.1), keep_cell hb (hS.2.2.2.2.2.2.1), own_below (hS.2.2.2.2.2.2.2.1) hb, own_below (hS.2.2.2.2.2.2.2.2.1) hb, (by rw [← hw9]; exact lit_at (by rfl) rfl), below_via (hS.2.2.2.2.2.2.2.2.2) hb⟩
        clear hS hb hw9
        have hS := hT
        clear hT
        have hS2 := hS
        obtain ⟨hq0, ⟨f0, fr0⟩, q1, q2, ⟨f3, fr3⟩, q4, q5, q6, q7, q8, hF⟩ := hS2
        have hgl : w.heap.size + 1 < w71.heap.size := hq0.lt
        have hzw : w.heap.size ≤ w71.heap.size := hF.size
        have hB := hF
        have hz1 : w.heap.size < w71.heap.size := World.block_lt_of_cell? w71 _ q1
        have hz2 : T < w71.heap.size := World.block_lt_of_cell? w71 _ q4
        refine ⟨(fun W => W.cell? ⟨T, 0, none⟩ = some (.int .i64 m) ∧ W.cell? ⟨T, 1, none⟩ = some (.slice AR l.length cR) ∧ Below w.heap.size w W), ⟨hS.2.2.2.2.2.1, hS.2.2.2.2.2.2.1, hS.2.2.2.2.2.2.2.2.2.2⟩, (fun W h => h), ?_⟩
        simp only [Act.put, zp1, zp2, zp3]
        repeat (first
          | ((refine seq_skip (by rfl) (by rfl) ?_); simp only [Act.put, zp1, zp2, zp3])
          | ((refine seq_val (v := ?_) (by rfl) (by rfl) (fun w hS => ?_) ?_); rotate_left; (focus ((try dsimp only at hS); go_simp; (try (with_reducible rfl)); done)); simp only [Act.put, zp1, zp2, zp3]))
        refine seq_call (f := ?_) (args := ?_) (by rfl) (by rfl) ?_ ?_
        rotate_left
        rotate_left
        focus (go_simp; (constructor <;> (with_reducible rfl)); done)
        refine (among_c (-1) (5) [0, 1, 5, -1] _ _ (w.heap.size + 1) (0 + 450) _ (hide (by repeat' (first | (with_reducible exact hS.1) | (with_reducible refine Cur.drew ?_) | (with_reducible refine Cur.alloc ?_ _) | (with_reducible refine Cur.setc ?_ (by first | omega | (simp; done) | (simp; omega)) _)))) (by omega) (hide (by with_reducible assumption)) (by intro e; (try dsimp only at e); omega) ⟨by decide, by decide⟩ (hide (by decide))).mono ?_
        rintro e w72 ⟨_, rfl, ⟨x9, rfl, x90, x91⟩, hcn, hgn⟩
        have hT : Cur w72 (w.heap.size + 1) (0 + 452) ∧ (w.heap.size < w72.heap.size ∧ ∀ i, w72.frozen? ⟨w.heap.size, i, none⟩ = false) ∧ w72.cell? ⟨w.heap.size, 0, none⟩ = some (.int .i64 (0)) ∧ w72.cell? ⟨w.heap.size, 1, none⟩ = some (.slice none 0 0) ∧ (T < w72.heap.size ∧ ∀ i, w72.frozen? ⟨T, i, none⟩ = false) ∧ w72.cell? ⟨T, 0, none⟩ = some (.int .i64 m) ∧ w72.cell? ⟨T, 1, none⟩ = some (.slice AR l.length cR) ∧ w72.ownsRow (w.heap.size + 2) 42 10 (.slice AR l.length cR) (l.length) (hds l) ∧ w72.ownsRow (T + 1) 9 1 (.slice SA ls.length SC) (ls.length) (strs ls) ∧ (∀ j, j < ([0, 1, 5, -1] : List Int).length → w72.cell? ((⟨w3.heap.size, 0, none⟩ : Addr).add j) = some (.int .i64 (nth [0, 1, 5, -1] j))) ∧ Below w.heap.size w w72 := (fun W h hgn => ⟨hcn, fre_gb (h.2.1) hgn (by intro e; injection e with e; (try dsimp only at e); omega), hgn.cell (h.2.2.1) (by intro e; injection e with e; (try dsimp only at e); omega), hgn.cell (h.2.2.2.1) (by intro e; injection e with e; (try dsimp only at e); omega), fre_gb (h.2.2.2.2.1) hgn (by intro e; injection e with e; (try dsimp only at e); omega), hgn.cell (h.2.2.2.2.2.1) (by intro e; injection e with e; (try dsimp only at e); omega), hgn.cell (h.2.2.2.2.2.2.1) (by intro e; injection e with e; (try dsimp only at e); omega), World.ownsRow.kept (h.2.2.2.2.2.2.2.1) hgn (own_far (h.2.2.2.2.2.2.2.1) (by first | omega | (simp; done) | (simp; omega))), World.ownsRow.kept (h.2.2.2.2.2.2.2.2.1) hgn (own_far (h.2.2.2.2.2.2.2.2.1) (by first | omega | (simp; done) | (simp; omega))), (fun j hj => hgn.cell ((h.2.2.2.2.2.2.2.2.2.1) j hj) (by rw [block_of_add]; intro e; injection e with e; (try dsimp only at e); omega)), below_gb (h.2.2.2.2.2.2.2.2.2.2) hgn (h.2.2.2.2.2.2.2.2.2.2).size (by first | omega | (simp; done) | (simp; omega))⟩ : ∀ W : World, (Cur W (w.heap.size + 1) (0 + 450) ∧ (w.heap.size < W.heap.size ∧ ∀ i, W.frozen? ⟨w.heap.size, i, none⟩ = false) ∧ W.cell? ⟨w.heap.size, 0, none⟩ = some (.int .i64 (0)) ∧ W.cell? ⟨w.heap.size, 1, none⟩ = some (.slice none 0 0) ∧ (T < W.heap.size ∧ ∀ i, W.frozen? ⟨T, i, none⟩ = false) ∧ W.cell? ⟨T, 0, none⟩ = some (.int .i64 m) ∧ W.cell? ⟨T, 1, none⟩ = some (.slice AR l.length cR) ∧ W.ownsRow (w.heap.size + 2) 42 10 (.slice AR l.length cR) (l.length) (hds l) ∧ W.ownsRow (T + 1) 9 1 (.slice SA ls.length SC) (ls.length) (strs ls) ∧ (∀ j, j < ([0, 1, 5, -1] : List Int).length → W.cell? ((⟨w3.heap.size, 0, none⟩ : Addr).add j) = some (.int .i64 (nth [0, 1, 5, -1] j))) ∧ Below w.heap.size w W) → W.grownBy w72 (some (w.heap.size + 1)) → (Cur w72 (w.heap.size + 1) (0 + 452) ∧ (w.heap.size < w72.heap.size ∧ ∀ i, w72.frozen? ⟨w.heap.size, i, none⟩ = false) ∧ w72.cell? ⟨w.heap.size, 0, none⟩ = some (.int .i64 (0)) ∧ w72.cell? ⟨w.heap.size, 1, none⟩ = some (.slice none 0 0) ∧ (T < w72.heap.size ∧ ∀ i, w72.frozen? ⟨T, i, none⟩ = false) ∧ w72.cell? ⟨T, 0, none⟩ = some (.int .i64 m) ∧ w72.cell? ⟨T, 1, none⟩ = some (.slice AR l.length cR) ∧ w72.ownsRow (w.heap.size + 2) 42 10 (.slice AR l.length cR) (l.length) (hds l) ∧ w72.ownsRow (T + 1) 9 1 (.slice SA ls.length SC) (ls.length) (strs ls) ∧ (∀ j, j < ([0, 1, 5, -1] : List Int).length → w72.cell? ((⟨w3.heap.size, 0, none⟩ : Addr).add j) = some (.int .i64 (nth [0, 1, 5, -1] j))) ∧ Below w.heap.size w w72)) _ ⟨(by repeat' (first | (with_reducible exact hS.1) | (with_reducible refine Cur.drew ?_) | (with_reducible refine Cur.alloc ?_ _) | (with_reducible refine Cur.setc ?_ (by first | omega | (simp; done) | (simp; omega)) _))), (by first | (with_reducible assumption) | (simp [go_sem]; done) | (refine keep_fre ?_ ⟨by with_reducible assumption, by with_reducible assumption⟩; go_grown; done) | (simp [go_sem, *]; done)), (by first | (with_reducible assumption) | (simp [go_sem]; done) | ((simp only [go_sem]); (with_reducible assumption)) | ((refine keep_cell ?_ (by with_reducible assumption)); go_grown; done) | (simp [go_sem, *]; done) | (rw [World.cell?_setCell_other _ _ _ _ (by simp; omega)]; with_reducible assumption) | (rw [World.cell?_setCell_other _ _ _ _ (by simp; omega), World.cell?_setCell_other _ _ _ _ (by simp; omega)]; with_reducible assumption)), (by first | (with_reducible assumption) | (simp [go_sem]; done) | ((simp only [go_sem]); (with_reducible assumption)) | ((refine keep_cell ?_ (by with_reducible assumption)); go_grown; done) | (simp [go_sem, *]; done) | (rw [World.cell?_setCell_other _ _ _ _ (by simp; omega)]; with_reducible assumption) | (rw [World.cell?_setCell_other _ _ _ _ (by simp; omega), World.cell?_setCell_other _ _ _ _ (by simp; omega)]; with_reducible assumption)), (by first | (with_reducible assumption) | (simp [go_sem]; done) | (refine keep_fre ?_ ⟨by with_reducible assumption, by with_reducible assumption⟩; go_grown; done) | (simp [go_sem, *]; done)), (by first | (with_reducible assumption) | (simp [go_sem]; done) | ((simp only [go_sem]); (with_reducible assumption)) | ((refine keep_cell ?_ (by with_reducible assumption)); go_grown; done) | (simp [go_sem, *]; done) | (rw [World.cell?_setCell_other _ _ _ _ (by simp; omega)]; with_reducible assumption) | (rw [World.cell?_setCell_other _ _ _ _ (by simp; omega), World.cell?_setCell_other _ _ _ _ (by simp; omega)]; with_reducible assumption)), (by first | (with_reducible assumption) | (simp [go_sem]; done) | ((simp only [go_sem]); (with_reducible assumption)) | ((refine keep_cell ?_ (by with_reducible assumption)); go_grown; done) | (simp [go_sem, *]; done) | (rw [World.cell?_setCell_other _ _ _ _ (by simp; omega)]; with_reducible assumption) | (rw [World.cell?_setCell_other _ _ _ _ (by simp; omega), World.cell?_setCell_other _ _ _ _ (by simp; omega)]; with_reducible assumption)), (by first | (with_reducible assumption) | (exact hS.2.2.2.2.2.2.2.1) | ((refine own_below (by with_reducible assumption) ?_); go_grown)), (by first | (with_reducible assumption) | (exact hS.2.2.2.2.2.2.2.2.1) | ((refine own_below (by with_reducible assumption) ?_); go_grown)), (by first | (with_reducible assumption) | (exact lit_at (by rfl) (by first | rfl | (with_reducible assumption) | simp))), (by go_grown)⟩ hgn
        (try clear hS)
        have hS := hT
        clear hT hcn hgn
        have hS2 := hS
        obtain ⟨hq0, ⟨f0, fr0⟩, q1, q2, ⟨f3, fr3⟩, q4, q5, q6, q7, q8, hF⟩ := hS2
        have hgl : w.heap.size + 1 < w72.heap.size := hq0.lt
        have hzw : w.heap.size ≤ w72.heap.size := hF.size
        have hB := hF
        have hz1 : w.heap.size < w72.heap.size := World.block_lt_of_cell? w72 _ q1
        have hz2 : T < w72.heap.size := World.block_lt_of_cell? w72 _ q4
        have ewx : IntKind.i64.wrap (m + x9) = m + x9 := IntWalk.i64_in _ (by omega)
        refine ⟨_, rfl, (fun W => W.cell? ⟨T, 0, none⟩ = some (.int .i64 m) ∧ W.cell? ⟨T, 1, none⟩ = some (.slice AR l.length cR) ∧ Below w.heap.size w W), ⟨hS.2.2.2.2.2.1, hS.2.2.2.2.2.2.1, hS.2.2.2.2.2.2.2.2.2.2⟩, (fun W h => h), ?_⟩
        simp only [Act.put, zp1, zp2, zp3]
        repeat (first
          | ((refine seq_skip (by rfl) (by rfl) ?_); simp only [Act.put, zp1, zp2, zp3])
          | ((refine seq_val (v := ?_) (by rfl) (by rfl) (fun w hS => ?_) ?_); rotate_left; (focus ((try dsimp only at hS); go_simp; (try (with_reducible rfl)); done)); simp only [Act.put, zp1, zp2, zp3]))
        have hrow := q6
        have hTR : T ≠ w.heap.size := by omega
        obtain ⟨X9, hX9⟩ : ∃ X, (w72.setCell ⟨w.heap.size, 0, none⟩ (.int .i64 m)).setCell ⟨w.heap.size, 1, none⟩ (.slice AR l.length cR) = X := ⟨_, rfl⟩
        obtain ⟨_, _, d2, d3⟩ := box2_sets q1 q2 (.int .i64 m) (.slice AR l.length cR)
        rw [hX9] at d2 d3
        have hS9 : X9.cell? ⟨T, 0, none⟩ = some (.int .i64 m) ∧ X9.cell? ⟨T, 1, none⟩ = some (.slice AR l.length cR) ∧ Below w.heap.size w X9 := by rw [← hX9]; exact ⟨sc _ hTR (sc _ hTR q4), sc _ hTR (sc _ hTR q5), (hF.setCell (p := ⟨w.heap.size, 0, none⟩) (Nat.le_refl _) _).setCell (p := ⟨w.heap.size, 1, none⟩) (Nat.le_refl _) _⟩
        have hr8 := hide (own_set (own_set q7 (p := ⟨w.heap.size, 0, none⟩) (show w.heap.size < T + 1 by omega) (.int .i64 m)) (p := ⟨w.heap.size, 1, none⟩) (show w.heap.size < T + 1 by omega) (.slice AR l.length cR))
        have hr9 := hide (own_set (own_set hrow (p := ⟨w.heap.size, 0, none⟩) (show w.heap.size < w.heap.size + 2 by omega) (.int .i64 m)) (show w.heap.size < w.heap.size + 2 by omega) (.slice AR l.length cR) (p := ⟨w.heap.size, 1, none⟩))
        rw [hX9] at hr9 hr8
        refine seq_store (w' := X9) (by rfl) (by rfl) (by rw [← hX9]; go_simp; (try (with_reducible rfl)); done) ?_
        refine ⟨(fun W => W.cell? ⟨T, 0, none⟩ = some (.int .i64 m) ∧ W.cell? ⟨T, 1, none⟩ = some (.slice AR l.length cR) ∧ Below w.heap.size w W), hS9, (fun W h => h), ?_⟩
        simp only [Act.put, zp1, zp2, zp3]
        repeat (first
          | ((refine seq_skip (by rfl) (by rfl) ?_); simp only [Act.put, zp1, zp2, zp3])
          | ((refine seq_val (v := ?_) (by rfl) (by rfl) (fun w hS => ?_) ?_); rotate_left; (focus ((try dsimp only at hS); go_simp; (try (with_reducible rfl)); done)); simp only [Act.put, zp1, zp2, zp3]))
        refine seq_nil ?_
        clear hS hX9
        go_wp2
        refine bodyPost_ret (by simp [results, Try.results45, go_sem, d2, d3]; try rfl) rfl ?_
        exact ⟨m, l, AR, cR, ls, SA, SC, m + x9, rfl, own_mono hr9.out (by omega), own_mono hr8.out (by omega), by omega, by omega, ⟨hm0, hm1⟩, HLS.out, ⟨by omega, by omega⟩, hS9.2.2⟩
      have hlb : decide ((ls.length : Int) < 20 + v) = true := decide_eq_true hlt
      clear hlt
      by_cases hn : n9 < 22
      rotate_left
      · obtain rfl : n9 = 22 := by omega
        have hS8 : Cur w3 (w.heap.size + 1) (0 + 450) ∧ (w.heap.size < w3.heap.size ∧ ∀ i, w3.frozen? ⟨w.heap.size, i, none⟩ = false) ∧ w3.cell? ⟨w.heap.size, 0, none⟩ = some (.int .i64 (0)) ∧ w3.cell? ⟨w.heap.size, 1, none⟩ = some (.slice none 0 0) ∧ (T < w3.heap.size ∧ ∀ i, w3.frozen? ⟨T, i, none⟩ = false) ∧ w3.cell? ⟨T, 0, none⟩ = some (.int .i64 m) ∧ w3.cell? ⟨T, 1, none⟩ = some (.slice AR l.length cR) ∧ w3.ownsRow (w.heap.size + 2) 42 10 (.slice AR l.length cR) (l.length) (hds l) ∧ w3.ownsRow (T + 1) 9 1 (.slice SA ls.length SC) (ls.length) (strs ls) ∧ Below w.heap.size w w3 := ⟨(hcn).more (by omega), hS1.1, hS1.2.1, hS1.2.2.1, hS1.2.2.2.1, hS1.2.2.2.2.1, hS1.2.2.2.2.2.1, hR1, hL1, hS1.2.2.2.2.2.2⟩
        clear hS1
        have hS := hS8
        clear hS8
        have hS2 := hS
        obtain ⟨hq0, ⟨f0, fr0⟩, q1, q2, ⟨f3, fr3⟩, q4, q5, q6, q7, hF⟩ := hS2
        have hgl : w.heap.size + 1 < w3.heap.size := hq0.lt
        have hzw : w.heap.size ≤ w3.heap.size := hF.size
        have hB := hF
        have hz1 : w.heap.size < w3.heap.size := World.block_lt_of_cell? w3 _ q1
        have hz2 : T < w3.heap.size := World.block_lt_of_cell? w3 _ q4
        go_upto_region 13 with fail
        refine wp_region_seq deed [0, 1, 2, 3, 4, 5, 6, 7, 8, 9, 10] (fun W => W.cell? ⟨T, 0, none⟩ = some (.int .i64 m) ∧ W.cell? ⟨T, 1, none⟩ = some (.slice AR l.length cR) ∧ Below w.heap.size w W) (by kernel_rfl) (by kernel_rfl) ⟨(by first | (with_reducible assumption) | (simp [go_sem]; done) | ((simp only [go_sem]); (with_reducible assumption)) | ((refine keep_cell ?_ (by with_reducible assumption)); go_grown; done) | (simp [go_sem, *]; done) | (rw [World.cell?_setCell_other _ _ _ _ (by simp; omega)]; with_reducible assumption) | (rw [World.cell?_setCell_other _ _ _ _ (by simp; omega), World.cell?_setCell_other _ _ _ _ (by simp; omega)]; with_reducible assumption)), (by first | (with_reducible assumption) | (simp [go_sem]; done) | ((simp only [go_sem]); (with_reducible assumption)) | ((refine keep_cell ?_ (by with_reducible assumption)); go_grown; done) | (simp [go_sem, *]; done) | (rw [World.cell?_setCell_other _ _ _ _ (by simp; omega)]; with_reducible assumption) | (rw [World.cell?_setCell_other _ _ _ _ (by simp; omega), World.cell?_setCell_other _ _ _ _ (by simp; omega)]; with_reducible assumption)), (by go_grown)⟩ ?_
        simp only [byNum, List.getElem?_cons_zero, List.getElem?_cons_succ]
        repeat (first
          | ((refine seq_skip (by rfl) (by rfl) ?_); simp only [Act.put, zp1, zp2, zp3])
          | ((refine seq_val (v := ?_) (by rfl) (by rfl) (fun w hS => ?_) ?_); rotate_left; (focus ((try dsimp only at hS); go_simp; (try (with_reducible rfl)); done)); simp only [Act.put, zp1, zp2, zp3]))
        refine seq_deed (v := ?_) (w' := ?_) (by rfl) (by rfl) ?_ ?_
        rotate_left
        rotate_left
        focus (go_simp; (constructor <;> (with_reducible rfl)); done)
        obtain ⟨w71, hw9⟩ : ∃ W, World.drew (World.alloc w3 (.cells #[.int .i64 0, .int .i64 1, .int .i64 5, .int .i64 (-1)] 3)) = W := ⟨_, rfl⟩
        rw [hw9]
        have hb : Below w3.heap.size w3 w71 := by rw [← hw9]; go_grown
        have hT : Cur w71 (w.heap.size + 1) (0 + 450) ∧ (w.heap.size < w71.heap.size ∧ ∀ i, w71.frozen? ⟨w.heap.size, i, none⟩ = false) ∧ w71.cell? ⟨w.heap.size, 0, none⟩ = some (.int .i64 (0)) ∧ w71.cell? ⟨w.heap.size, 1, none⟩ = some (.slice none 0 0) ∧ (T < w71.heap.size ∧ ∀ i, w71.frozen? ⟨T, i, none⟩ = false) ∧ w71.cell? ⟨T, 0, none⟩ = some (.int .i64 m) ∧ w71.cell? ⟨T, 1, none⟩ = some (.slice AR l.length cR) ∧ w71.ownsRow (w.heap.size + 2) 42 10 (.slice AR l.length cR) (l.length) (hds l) ∧ w71.ownsRow (T + 1) 9 1 (.slice SA ls.length SC) (ls.length) (strs ls) ∧ (∀ j, j < ([0, 1, 5, -1] : List Int).length → w71.cell? ((⟨w3.heap.size, 0, none⟩ : Addr).add j) = some (.int .i64 (nth [0, 1, 5, -1] j))) ∧ Below w.heap.size w w71 := ⟨hS.1.below hb, keep_fre hb (hS.2.1), keep_cell hb (hS.2.2.1), keep_cell hb (hS.2.2.2.1), keep_fre hb (hS.2.2.2.2.1), keep_cell hb (hS.2.2.2.2.2.1), keep_cell hb (hS.2.2.2.2.2.2.1), own_below (hS.2.2.2.2.2.2.2.1) hb, own_below (hS.2.2.2.2.2.2.2.2.1) hb, (by rw [← hw9]; exact lit_at (by rfl) rfl), below_via (hS.2.2.2.2.2.2.2.2.2) hb⟩
        clear hS hb hw9
        have hS := hT
        clear hT
        have hS2 := hS
        obtain ⟨hq0, ⟨f0, fr0⟩, q1, q2, ⟨f3, fr3⟩, q4, q5, q6, q7, q8, hF⟩ := hS2
        have hgl : w.heap.size + 1 < w71.heap.size := hq0.lt
        have hzw : w.heap.size ≤ w71.heap.size := hF.size
        have hB := hF
        have hz1 : w.heap.size < w71.heap.size := World.block_lt_of_cell? w71 _ q1
        have hz2 : T < w71.heap.size := World.block_lt_of_cell? w71 _ q4
        refine ⟨(fun W => W.cell? ⟨T, 0, none⟩ = some (.int .i64 m) ∧ W.cell? ⟨T, 1, none⟩ = some (.slice AR l.length cR) ∧ Below w.heap.size w W), ⟨hS.2.2.2.2.2.1, hS.2.2.2.2.2.2.1, hS.2.2.2.2.2.2.2.2.2.2⟩, (fun W h => h), ?_⟩
        simp only [Act.put, zp1, zp2, zp3]
        repeat (first
          | ((refine seq_skip (by rfl) (by rfl) ?_); simp only [Act.put, zp1, zp2, zp3])
          | ((refine seq_val (v := ?_) (by rfl) (by rfl) (fun w hS => ?_) ?_); rotate_left; (focus ((try dsimp only at hS); go_simp; (try (with_reducible rfl)); done)); simp only [Act.put, zp1, zp2, zp3]))
        refine seq_call (f := ?_) (args := ?_) (by rfl) (by rfl) ?_ ?_
        rotate_left
        rotate_left
        focus (go_simp; (constructor <;> (with_reducible rfl)); done)
        refine (among_c (-1) (5) [0, 1, 5, -1] _ _ (w.heap.size + 1) (0 + 450) _ (hide (by repeat' (first | (with_reducible exact hS.1) | (with_reducible refine Cur.drew ?_) | (with_reducible refine Cur.alloc ?_ _) | (with_reducible refine Cur.setc ?_ (by first | omega | (simp; done) | (simp; omega)) _)))) (by omega) (hide (by with_reducible assumption)) (by intro e; (try dsimp only at e); omega) ⟨by decide, by decide⟩ (hide (by decide))).mono ?_
        rintro e w72 ⟨_, rfl, ⟨x9, rfl, x90, x91⟩, hcn, hgn⟩
        have hT : Cur w72 (w.heap.size + 1) (0 + 452) ∧ (w.heap.size < w72.heap.size ∧ ∀ i, w72.frozen? ⟨w.heap.size, i, none⟩ = false) ∧ w72.cell? ⟨w.heap.size, 0, none⟩ = some (.int .i64 (0)) ∧ w72.cell? ⟨w.heap.size, 1, none⟩ = some (.slice none 0 0) ∧ (T < w72.heap.size ∧ ∀ i, w72.frozen? ⟨T, i, none⟩ = false) ∧ w72.cell? ⟨T, 0, none⟩ = some (.int .i64 m) ∧ w72.cell? ⟨T, 1, none⟩ = some (.slice AR l.length cR) ∧ w72.ownsRow (w.heap.size + 2) 42 10 (.slice AR l.length cR) (l.length) (hds l) ∧ w72.ownsRow (T + 1) 9 1 (.slice SA ls.length SC) (ls.length) (strs ls) ∧ (∀ j, j < ([0, 1, 5, -1] : List Int).length → w72.cell? ((⟨w3.heap.size, 0, none⟩ : Addr).add j) = some (.int .i64 (nth [0, 1, 5, -1] j))) ∧ Below w.heap.size w w72 := (fun W h hgn => ⟨hcn, fre_gb (h.2.1) hgn (by intro e; injection e with e; (try dsimp only at e); omega), hgn.cell (h.2.2.1) (by intro e; injection e with e; (try dsimp only at e); omega), hgn.cell (h.2.2.2.1) (by intro e; injection e with e; (try dsimp only at e); omega), fre_gb (h.2.2.2.2.1) hgn (by intro e; injection e with e; (try dsimp only at e); omega), hgn.cell (h.2.2.2.2.2.1) (by intro e; injection e with e; (try dsimp only at e); omega), hgn.cell (h.2.2.2.2.2.2.1) (by intro e; injection e with e; (try dsimp only at e); omega), World.ownsRow.kept (h.2.2.2.2.2.2.2.1) hgn (own_far (h.2.2.2.2.2.2.2.1) (by first | omega | (simp; done) | (simp; omega))), World.ownsRow.kept (h.2.2.2.2.2.2.2.2.1) hgn (own_far (h.2.2.2.2.2.2.2.2.1) (by first | omega | (simp; done) | (simp; omega))), (fun j hj => hgn.cell ((h.2.2.2.2.2.2.2.2.2.1) j hj) (by rw [block_of_add]; intro e; injection e with e; (try dsimp only at e); omega)), below_gb (h.2.2.2.2.2.2.2.2.2.2) hgn (h.2.2.2.2.2.2.2.2.2.2).size (by first | omega | (simp; done) | (simp; omega))⟩ : ∀ W : World, (Cur W (w.heap.size + 1) (0 + 450) ∧ (w.heap.size < W.heap.size ∧ ∀ i, W.frozen? ⟨w.heap.size, i, none⟩ = false) ∧ W.cell? ⟨w.heap.size, 0, none⟩ = some (.int .i64 (0)) ∧ W.cell? ⟨w.heap.size, 1, none⟩ = some (.slice none 0 0) ∧ (T < W.heap.size ∧ ∀ i, W.frozen? ⟨T, i, none⟩ = false) ∧ W.cell? ⟨T, 0, none⟩ = some (.int .i64 m) ∧ W.cell? ⟨T, 1, none⟩ = some (.slice AR l.length cR) ∧ W.ownsRow (w.heap.size + 2) 42 10 (.slice AR l.length cR) (l.length) (hds l) ∧ W.ownsRow (T + 1) 9 1 (.slice SA ls.length SC) (ls.length) (strs ls) ∧ (∀ j, j < ([0, 1, 5, -1] : List Int).length → W.cell? ((⟨w3.heap.size, 0, none⟩ : Addr).add j) = some (.int .i64 (nth [0, 1, 5, -1] j))) ∧ Below w.heap.size w W) → W.grownBy w72 (some (w.heap.size + 1)) → (Cur w72 (w.heap.size + 1) (0 + 452) ∧ (w.heap.size < w72.heap.size ∧ ∀ i, w72.frozen? ⟨w.heap.size, i, none⟩ = false) ∧ w72.cell? ⟨w.heap.size, 0, none⟩ = some (.int .i64 (0)) ∧ w72.cell? ⟨w.heap.size, 1, none⟩ = some (.slice none 0 0) ∧ (T < w72.heap.size ∧ ∀ i, w72.frozen? ⟨T, i, none⟩ = false) ∧ w72.cell? ⟨T, 0, none⟩ = some (.int .i64 m) ∧ w72.cell? ⟨T, 1, none⟩ = some (.slice AR l.length cR) ∧ w72.ownsRow (w.heap.size + 2) 42 10 (.slice AR l.length cR) (l.length) (hds l) ∧ w72.ownsRow (T + 1) 9 1 (.slice SA ls.length SC) (ls.length) (strs ls) ∧ (∀ j, j < ([0, 1, 5, -1] : List Int).length → w72.cell? ((⟨w3.heap.size, 0, none⟩ : Addr).add j) = some (.int .i64 (nth [0, 1, 5, -1] j))) ∧ Below w.heap.size w w72)) _ ⟨(by repeat' (first | (with_reducible exact hS.1) | (with_reducible refine Cur.drew ?_) | (with_reducible refine Cur.alloc ?_ _) | (with_reducible refine Cur.setc ?_ (by first | omega | (simp; done) | (simp; omega)) _))), (by first | (with_reducible assumption) | (simp [go_sem]; done) | (refine keep_fre ?_ ⟨by with_reducible assumption, by with_reducible assumption⟩; go_grown; done) | (simp [go_sem, *]; done)), (by first | (with_reducible assumption) | (simp [go_sem]; done) | ((simp only [go_sem]); (with_reducible assumption)) | ((refine keep_cell ?_ (by with_reducible assumption)); go_grown; done) | (simp [go_sem, *]; done) | (rw [World.cell?_setCell_other _ _ _ _ (by simp; omega)]; with_reducible assumption) | (rw [World.cell?_setCell_other _ _ _ _ (by simp; omega), World.cell?_setCell_other _ _ _ _ (by simp; omega)]; with_reducible assumption)), (by first | (with_reducible assumption) | (simp [go_sem]; done) | ((simp only [go_sem]); (with_reducible assumption)) | ((refine keep_cell ?_ (by with_reducible assumption)); go_grown; done) | (simp [go_sem, *]; done) | (rw [World.cell?_setCell_other _ _ _ _ (by simp; omega)]; with_reducible assumption) | (rw [World.cell?_setCell_other _ _ _ _ (by simp; omega), World.cell?_setCell_other _ _ _ _ (by simp; omega)]; with_reducible assumption)), (by first | (with_reducible assumption) | (simp [go_sem]; done) | (refine keep_fre ?_ ⟨by with_reducible assumption, by with_reducible assumption⟩; go_grown; done) | (simp [go_sem, *]; done)), (by first | (with_reducible assumption) | (simp [go_sem]; done) | ((simp only [go_sem]); (with_reducible assumption)) | ((refine keep_cell ?_ (by with_reducible assumption)); go_grown; done) | (simp [go_sem, *]; done) | (rw [World.cell?_setCell_other _ _ _ _ (by simp; omega)]; with_reducible assumption) | (rw [World.cell?_setCell_other _ _ _ _ (by simp; omega), World.cell?_setCell_other _ _ _ _ (by simp; omega)]; with_reducible assumption)), (by first | (with_reducible assumption) | (simp [go_sem]; done) | ((simp only [go_sem]); (with_reducible assumption)) | ((refine keep_cell ?_ (by with_reducible assumption)); go_grown; done) | (simp [go_sem, *]; done) | (rw [World.cell?_setCell_other _ _ _ _ (by simp; omega)]; with_reducible assumption) | (rw [World.cell?_setCell_other _ _ _ _ (by simp; omega), World.cell?_setCell_other _ _ _ _ (by simp; omega)]; with_reducible assumption)), (by first | (with_reducible assumption) | (exact hS.2.2.2.2.2.2.2.1) | ((refine own_below (by with_reducible assumption) ?_); go_grown)), (by first | (with_reducible assumption) | (exact hS.2.2.2.2.2.2.2.2.1) | ((refine own_below (by with_reducible assumption) ?_); go_grown)), (by first | (with_reducible assumption) | (exact lit_at (by rfl) (by first | rfl | (with_reducible assumption) | simp))), (by go_grown)⟩ hgn
        (try clear hS)
        have hS := hT
        clear hT hcn hgn
        have hS2 := hS
        obtain ⟨hq0, ⟨f0, fr0⟩, q1, q2, ⟨f3, fr3⟩, q4, q5, q6, q7, q8, hF⟩ := hS2
        have hgl : w.heap.size + 1 < w72.heap.size := hq0.lt
        have hzw : w.heap.size ≤ w72.heap.size := hF.size
        have hB := hF
        have hz1 : w.heap.size < w72.heap.size := World.block_lt_of_cell? w72 _ q1
        have hz2 : T < w72.heap.size := World.block_lt_of_cell? w72 _ q4
        have ewx : IntKind.i64.wrap (m + x9) = m + x9 := IntWalk.i64_in _ (by omega)
        refine ⟨_, rfl, (fun W => W.cell? ⟨T, 0, none⟩ = some (.int .i64 m) ∧ W.cell? ⟨T, 1, none⟩ = some (.slice AR l.length cR) ∧ Below w.heap.size w W), ⟨hS.2.2.2.2.2.1, hS.2.2.2.2.2.2.1, hS.2.2.2.2.2.2.2.2.2.2⟩, (fun W h => h), ?_⟩
        simp only [Act.put, zp1, zp2, zp3]
        repeat (first
          | ((refine seq_skip (by rfl) (by rfl) ?_); simp only [Act.put, zp1, zp2, zp3])
          | ((refine seq_val (v := ?_) (by rfl) (by rfl) (fun w hS => ?_) ?_); rotate_left; (focus ((try dsimp only at hS); go_simp; (try (with_reducible rfl)); done)); simp only [Act.put, zp1, zp2, zp3]))
        have hrow := q6
        have hTR : T ≠ w.heap.size := by omega
        obtain ⟨X9, hX9⟩ : ∃ X, (w72.setCell ⟨w.heap.size, 0, none⟩ (.int .i64 m)).setCell ⟨w.heap.size, 1, none⟩ (.slice AR l.length cR) = X := ⟨_, rfl⟩
        obtain ⟨_, _, d2, d3⟩ := box2_sets q1 q2 (.int .i64 m) (.slice AR l.length cR)
        rw [hX9] at d2 d3
        have hS9 : X9.cell? ⟨T, 0, none⟩ = some (.int .i64 m) ∧ X9.cell? ⟨T, 1, none⟩ = some (.slice AR l.length cR) ∧ Below w.heap.size w X9 := by rw [← hX9]; exact ⟨sc _ hTR (sc _ hTR q4), sc _ hTR (sc _ hTR q5), (hF.setCell (p := ⟨w.heap.size, 0, none⟩) (Nat.le_refl _) _).setCell (p := ⟨w.heap.size, 1, none⟩) (Nat.le_refl _) _⟩
        have hr8 := hide (own_set (own_set q7 (p := ⟨w.heap.size, 0, none⟩) (show w.heap.size < T + 1 by omega) (.int .i64 m)) (p := ⟨w.heap.size, 1, none⟩) (show w.heap.size < T + 1 by omega) (.slice AR l.length cR))
        have hr9 := hide (own_set (own_set hrow (p := ⟨w.heap.size, 0, none⟩) (show w.heap.size < w.heap.size + 2 by omega) (.int .i64 m)) (show w.heap.size < w.heap.size + 2 by omega) (.slice AR l.length cR) (p := ⟨w.heap.size, 1, none⟩))
        rw [hX9] at hr9 hr8
        refine seq_store (w' := X9) (by rfl) (by rfl) (by rw [← hX9]; go_simp; (try (with_reducible rfl)); done) ?_
        refine ⟨(fun W => W.cell? ⟨T, 0, none⟩ = some (.int .i64 m) ∧ W.cell? ⟨T, 1, none⟩ = some (.slice AR l.length cR) ∧ Below w.heap.size w W), hS9, (fun W h => h), ?_⟩
        simp only [Act.put, zp1, zp2, zp3]
        repeat (first
          | ((refine seq_skip (by rfl) (by rfl) ?_); simp only [Act.put, zp1, zp2, zp3])
          | ((refine seq_val (v := ?_) (by rfl) (by rfl) (fun w hS => ?_) ?_); rotate_left; (focus ((try dsimp only at hS); go_simp; (try (with_reducible rfl)); done)); simp only [Act.put, zp1, zp2, zp3]))
        refine seq_nil ?_
        clear hS hX9
        go_wp2
        refine bodyPost_ret (by simp [results, Try.results45, go_sem, d2, d3]; try rfl) rfl ?_
        exact ⟨m, l, AR, cR, ls, SA, SC, m + x9, rfl, own_mono hr9.out (by omega), own_mono hr8.out (by omega), by omega, by omega, ⟨hm0, hm1⟩, HLS.out, ⟨by omega, by omega⟩, hS9.2.2⟩
      go_wp2_with (first | (at_builtin; refine wpList_append_lies _ rfl _ _ 71 rfl (T + 1) 9 i0 (.string ByteArray.empty) 1 16 Try.underlying71 hi0 iz0 iy0 ix0 rfl (by decide) _ (ls.length) (strs ls) rfl (hL1.alloc _) ⟨w3.heap.size, 0, none⟩ 1 1 [.string ⟨#[]⟩] rfl rfl (news_one (by simp [go_sem])) (by intro u hu; simp at hu; subst hu; rfl) (by decide) (by unfold maxLen; omega) (by omega) (by first | (simp [go_sem]; done) | (simp [go_sem]; omega)) _ rfl ?_; intro g9 cap9 w4 hown hgrow _ _; have hSn : (w.heap.size < w4.heap.size ∧ ∀ i, w4.frozen? ⟨w.heap.size, i, none⟩ = false) ∧ w4.cell? ⟨w.heap.size, 0, none⟩ = some (.int .i64 (0)) ∧ w4.cell? ⟨w.heap.size, 1, none⟩ = some (.slice none 0 0) ∧ (T < w4.heap.size ∧ ∀ i, w4.frozen? ⟨T, i, none⟩ = false) ∧ w4.cell? ⟨T, 0, none⟩ = some (.int .i64 m) ∧ w4.cell? ⟨T, 1, none⟩ = some (.slice AR l.length cR) ∧ Below w.heap.size w w4 := ⟨own_fre (hL1.alloc _) hgrow (keep_fre (by go_grown) (hS1.1)) (show w.heap.size < T + 1 by omega), own_cell (hL1.alloc _) hgrow (keep_cell (by go_grown) (hS1.2.1)) (show w.heap.size < T + 1 by omega), own_cell (hL1.alloc _) hgrow (keep_cell (by go_grown) (hS1.2.2.1)) (show w.heap.size < T + 1 by omega), own_fre (hL1.alloc _) hgrow (keep_fre (by go_grown) (hS1.2.2.2.1)) (show T < T + 1 by omega), own_cell (hL1.alloc _) hgrow (keep_cell (by go_grown) (hS1.2.2.2.2.1)) (show T < T + 1 by omega), own_cell (hL1.alloc _) hgrow (keep_cell (by go_grown) (hS1.2.2.2.2.2.1)) (show T < T + 1 by omega), own_grown (a := w) (B := w.heap.size) (hL1.alloc _) hgrow (by go_grown) (by first | (simp [go_sem]; done) | (simp [go_sem]; omega)) (show w.heap.size ≤ T + 1 by omega)⟩; have hRAn := row_kept hgrow (hR1.alloc _) HAT.out (hL1.alloc _); have hCn := cur_row (Cur.alloc (hcn) _) (hL1.alloc _) hgrow (show w.heap.size + 1 < T + 1 by omega); clear hgrow))
      go_wp2
      go_roundw
      case rel => exact ⟨n9 + 1, ls ++ [⟨#[]⟩], some ⟨g9, 0, none⟩, cap9, by omega, by go_num, by simp, by simp; omega, hide (fun s hs => by rcases List.mem_append.1 hs with hs | hs; exact HLS.out s hs; simp at hs; subst hs; decide), hide (hCn.more (by omega)), hide hRAn, hide (by rw [strs_snoc]; simpa using hown), hSn⟩
      case measure => simp [intOf]; omega
end Go.Proofs.Ytbeojfhakmbacaa
