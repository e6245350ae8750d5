/- What is proved here is used by the law below: contracts of functions and plain lemmas (part 15 of 17). Their conditions stand in each. -/
import Derived.Test.YtbeojfhakmbacaaFinRiaa
import Derived.Test.YtbeojfhakmbacaaFinRian
namespace Go.Proofs.Ytbeojfhakmbacaa
open Go.RowKit
def DrawsRI (w : World) (e : Ending) (w' : World) : Prop := ∃ (m : Int) (l : List Hd) (A : Option Addr) (c : Nat) (x : Int), e = .returned (.tuple #[.agg #[.int .i64 m, .slice A l.length c], .int .i64 x]) ∧ w'.ownsRow w.heap.size 42 10 (.slice A l.length c) l.length (hds l) ∧ l.length ≤ 20 ∧ (-1 ≤ m ∧ m ≤ 10000) ∧ (-1000000 ≤ x ∧ x ≤ 1000000) ∧ Below w.heap.size w w'
def DrawsRSI (w : World) (e : Ending) (w' : World) : Prop := ∃ (m : Int) (l : List Hd) (A : Option Addr) (c : Nat) (s : ByteArray) (x : Int), e = .returned (.tuple #[.agg #[.int .i64 m, .slice A l.length c], .string s, .int .i64 x]) ∧ w'.ownsRow w.heap.size 42 10 (.slice A l.length c) l.length (hds l) ∧ l.length ≤ 20 ∧ (-1 ≤ m ∧ m ≤ 10000) ∧ s.size ≤ 16 ∧ (-1000000 ≤ x ∧ x ≤ 1000000) ∧ Below w.heap.size w w'
set_option maxHeartbeats 4000000 in
theorem drawReceive_c (A : Option Addr) (n c : Nat) (w : World) (h1 : Hid (CodeOk w A n)) (hn : n ≤ 65536)  : Calls Try.prog 14 #[.slice A n c] w (DrawsRSI w) := by
  go_enter Try.func14, Try.ntmps14
  go_wp2_with fail
  refine (receiver_c (w.heap.size + 1) (0) _ (hide (cur_new (h1.out.below (by go_grown)) hn (by first | rfl | (simp; done)) 0)) (by omega)).mono ?_
  rintro e w1 ⟨_, rfl, ⟨m, l, AR, cR, rfl, hrow, hl9, hm0, hm1⟩, hcn, hgn⟩
  have hT : Cur w1 (w.heap.size + 1) (0 + 280) ∧ (w.heap.size < w1.heap.size ∧ ∀ i, w1.frozen? ⟨w.heap.size, i, none⟩ = false) ∧ w1.cell? ⟨w.heap.size, 0, none⟩ = some (.int .i64 (0)) ∧ w1.cell? ⟨w.heap.size, 1, none⟩ = some (.slice none 0 0) ∧ Below w.heap.size w w1 := (fun W h hgn => ⟨hcn, fre_gb (h.2.1) hgn (by intro e; injection e with e; (try dsimp only at e); omega), hgn.cell (h.2.2.1) (by intro e; injection e with e; (try dsimp only at e); omega), hgn.cell (h.2.2.2.1) (by intro e; injection e with e; (try dsimp only at e); omega), below_gb (h.2.2.2.2) hgn (h.2.2.2.2).size (by first | omega | (simp; done) | (simp; omega))⟩ : ∀ W : World, (Cur W (w.heap.size + 1) (0) ∧ (w.heap.size < W.heap.size ∧ ∀ i, W.frozen? ⟨w.heap.size, i, none⟩ = false) ∧ W.cell? ⟨w.heap.size, 0, none⟩ = some (.int .i64 (0)) ∧ W.cell? ⟨w.heap.size, 1, none⟩ = some (.slice none 0 0) ∧ Below w.heap.size w W) → W.grownBy w1 (some (w.heap.size + 1)) → (Cur w1 (w.heap.size + 1) (0 + 280) ∧ (w.heap.size < w1.heap.size ∧ ∀ i, w1.frozen? ⟨w.heap.size, i, none⟩ = false) ∧ w1.cell? ⟨w.heap.size, 0, none⟩ = some (.int .i64 (0)) ∧ w1.cell? ⟨w.heap.size, 1, none⟩ = some (.slice none 0 0) ∧ Below w.heap.size w w1)) _ ⟨(cur_new (h1.out.below (by go_grown)) hn (by first | rfl | (simp; done)) 0), (by first | (with_reducible assumption) | (simp [go_sem]; done) | (refine keep_fre ?_ ⟨by with_reducible assumption, by with_reducible assumption⟩; go_grown; done) | (simp [go_sem, *]; done)), (by first | (with_reducible assumption) | (simp [go_sem]; done) | ((simp only [go_sem]); (with_reducible assumption)) | ((refine keep_cell ?_ (by with_reducible assumption)); go_grown; done) | (simp [go_sem, *]; done) | (rw [World.cell?_setCell_other _ _ _ _ (by simp; omega)]; with_reducible assumption) | (rw [World.cell?_setCell_other _ _ _ _ (by simp; omega), World.cell?_setCell_other _ _ _ _ (by simp; omega)]; with_reducible assumption)), (by first | (with_reducible assumption) | (simp [go_sem]; done) | ((simp only [go_sem]); (with_reducible assumption)) | ((refine keep_cell ?_ (by with_reducible assumption)); go_grown; done) | (simp [go_sem, *]; done) | (rw [World.cell?_setCell_other _ _ _ _ (by simp; omega)]; with_reducible assumption) | (rw [World.cell?_setCell_other _ _ _ _ (by simp; omega), World.cell?_setCell_other _ _ _ _ (by simp; omega)]; with_reducible assumption)), (by go_grown)⟩ hgn
  (try clear hS)
  have hS := hT
  clear hT hcn hgn
  have hS2 := hS
  obtain ⟨hq0, ⟨f0, fr0⟩, q1, q2, hF⟩ := hS2
  have hgl : w.heap.size + 1 < w1.heap.size := hq0.lt
  have hzw : w.heap.size ≤ w1.heap.size := hF.size
  have hB := hF
  have hz1 : w.heap.size < w1.heap.size := World.block_lt_of_cell? w1 _ q1
  have hT : Cur w1 (w.heap.size + 1) (0 + 280) ∧ (w.heap.size < w1.heap.size ∧ ∀ i, w1.frozen? ⟨w.heap.size, i, none⟩ = false) ∧ w1.cell? ⟨w.heap.size, 0, none⟩ = some (.int .i64 (0)) ∧ w1.cell? ⟨w.heap.size, 1, none⟩ = some (.slice none 0 0) ∧ w1.ownsRow (w.heap.size + 2) 42 10 (.slice AR l.length cR) (l.length) (hds l) ∧ Below w.heap.size w w1 := ⟨hS.1, hS.2.1, hS.2.2.1, hS.2.2.2.1, own_mono hrow (by first | omega | (simp; done) | (simp; omega)), hS.2.2.2.2⟩
  clear hS
  have hS := hT
  clear hT
  have hS2 := hS
  obtain ⟨hq0, ⟨f0, fr0⟩, q1, q2, q3, hF⟩ := hS2
  have hgl : w.heap.size + 1 < w1.heap.size := hq0.lt
  have hzw : w.heap.size ≤ w1.heap.size := hF.size
  have hB := hF
  have hz1 : w.heap.size < w1.heap.size := World.block_lt_of_cell? w1 _ q1
  clear hrow
  go_upto_region 3 with fail
  obtain ⟨T, hN9⟩ : ∃ q, w1.heap.size = q := ⟨_, rfl⟩
  obtain ⟨w2, hw9⟩ : ∃ W, World.alloc w1 (.cells #[.int .i64 m, .slice AR l.length cR] 26) = W := ⟨_, rfl⟩
  rw [hw9, hN9]
  have hb : Below w1.heap.size w1 w2 := by rw [← hw9]; go_grown
  have hgT : w.heap.size + 1 < T := by rw [← hN9]; exact hS.1.lt
  have hT : Cur w2 (w.heap.size + 1) (0 + 280) ∧ (w.heap.size < w2.heap.size ∧ ∀ i, w2.frozen? ⟨w.heap.size, i, none⟩ = false) ∧ w2.cell? ⟨w.heap.size, 0, none⟩ = some (.int .i64 (0)) ∧ w2.cell? ⟨w.heap.size, 1, none⟩ = some (.slice none 0 0) ∧ w2.ownsRow (w.heap.size + 2) 42 10 (.slice AR l.length cR) (l.length) (hds l) ∧ (T < w2.heap.size ∧ ∀ i, w2.frozen? ⟨T, i, none⟩ = false) ∧ w2.cell? ⟨T, 0, none⟩ = some (.int .i64 m) ∧ w2.cell? ⟨T, 1, none⟩ = some (.slice AR l.length cR) ∧ Below w.heap.size w w2 := ⟨hS.1.below hb, keep_fre hb (hS.2.1), keep_cell hb (hS.2.2.1), keep_cell hb (hS.2.2.2.1), own_below (hS.2.2.2.2.1) hb, ⟨by rw [← hw9, ← hN9]; simp, by rw [← hw9, ← hN9]; simp [go_sem]⟩, by rw [← hw9, ← hN9]; simp [go_sem], by rw [← hw9, ← hN9]; simp [go_sem], below_via (hS.2.2.2.2.2) hb⟩
  clear hS hb hw9 hN9
  have hS := hT
  clear hT
  have hS2 := hS
  obtain ⟨hq0, ⟨f0, fr0⟩, q1, q2, q3, ⟨f4, fr4⟩, q5, q6, hF⟩ := hS2
  have hgl : w.heap.size + 1 < w2.heap.size := hq0.lt
  have hzw : w.heap.size ≤ w2.heap.size := hF.size
  have hB := hF
  have hz1 : w.heap.size < w2.heap.size := World.block_lt_of_cell? w2 _ q1
  have hz2 : T < w2.heap.size := World.block_lt_of_cell? w2 _ q5
  refine wp_region_all (by kernel_rfl) ?_
  obtain ⟨w3, hwq⟩ : ∃ W, World.drew w2 = W := ⟨_, rfl⟩
  have hb : Below w2.heap.size w2 w3 := by rw [← hwq]; go_grown
  rw [hwq]
  have hT : Cur w3 (w.heap.size + 1) (0 + 280) ∧ (w.heap.size < w3.heap.size ∧ ∀ i, w3.frozen? ⟨w.heap.size, i, none⟩ = false) ∧ w3.cell? ⟨w.heap.size, 0, none⟩ = some (.int .i64 (0)) ∧ w3.cell? ⟨w.heap.size, 1, none⟩ = some (.slice none 0 0) ∧ w3.ownsRow (w.heap.size + 2) 42 10 (.slice AR l.length cR) (l.length) (hds l) ∧ (T < w3.heap.size ∧ ∀ i, w3.frozen? ⟨T, i, none⟩ = false) ∧ w3.cell? ⟨T, 0, none⟩ = some (.int .i64 m) ∧ w3.cell? ⟨T, 1, none⟩ = some (.slice AR l.length cR) ∧ Below w.heap.size w w3 := ⟨hS.1.below hb, keep_fre hb (hS.2.1), keep_cell hb (hS.2.2.1), keep_cell hb (hS.2.2.2.1), own_below (hS.2.2.2.2.1) hb, keep_fre hb (hS.2.2.2.2.2.1), keep_cell hb (hS.2.2.2.2.2.2.1), keep_cell hb (hS.2.2.2.2.2.2.2.1), below_via (hS.2.2.2.2.2.2.2.2) hb⟩
  clear hS hb hwq
  have hS := hT
  clear hT
  have hS2 := hS
  obtain ⟨hq0, ⟨f0, fr0⟩, q1, q2, q3, ⟨f4, fr4⟩, q5, q6, hF⟩ := hS2
  have hgl : w.heap.size + 1 < w3.heap.size := hq0.lt
  have hzw : w.heap.size ≤ w3.heap.size := hF.size
  have hB := hF
  have hz1 : w.heap.size < w3.heap.size := World.block_lt_of_cell? w3 _ q1
  have hz2 : T < w3.heap.size := World.block_lt_of_cell? w3 _ q5
  refine all_split 6 2 (by decide) ?_ ?_
  · refine all_seq_core [0, 1, 3, 4, 5, 6, 2, 7, 8, 9, 10, 11] (fun W => W.cell? ⟨T, 0, none⟩ = some (.int .i64 m) ∧ W.cell? ⟨T, 1, none⟩ = some (.slice AR l.length cR) ∧ Below w.heap.size w W) (addE_core 6 2 _) (by kernel_rfl) ⟨hS.2.2.2.2.2.2.1, hS.2.2.2.2.2.2.2.1, hS.2.2.2.2.2.2.2.2⟩ ?_
    simp only [byNum, List.getElem?_cons_zero, List.getElem?_cons_succ]
    repeat (first
      | ((refine seq_skip (by rfl) (by rfl) ?_); simp only [Act.put, zp1, zp2, zp3])
      | ((refine seq_val (v := ?_) (by rfl) (by rfl) (fun w hS => ?_) ?_); rotate_left; (focus ((try dsimp only at hS); go_simp; (try (with_reducible rfl)); done)); simp only [Act.put, zp1, zp2, zp3]))
    refine seq_deed (v := ?_) (w' := ?_) (by rfl) (by rfl) ?_ ?_
    rotate_left
    rotate_left
    focus (go_simp; (constructor <;> (with_reducible rfl)); done)
    obtain ⟨w4, hw9⟩ : ∃ W, World.alloc w3 (.cells #[.int .i64 0, .int .i64 1, .int .i64 3, .int .i64 12, .int .i64 (-1)] 3) = W := ⟨_, rfl⟩
    rw [hw9]
    have hb : Below w3.heap.size w3 w4 := by rw [← hw9]; go_grown
    have hT : Cur w4 (w.heap.size + 1) (0 + 280) ∧ (w.heap.size < w4.heap.size ∧ ∀ i, w4.frozen? ⟨w.heap.size, i, none⟩ = false) ∧ w4.cell? ⟨w.heap.size, 0, none⟩ = some (.int .i64 (0)) ∧ w4.cell? ⟨w.heap.size, 1, none⟩ = some (.slice none 0 0) ∧ w4.ownsRow (w.heap.size + 2) 42 10 (.slice AR l.length cR) (l.length) (hds l) ∧ (T < w4.heap.size ∧ ∀ i, w4.frozen? ⟨T, i, none⟩ = false) ∧ w4.cell? ⟨T, 0, none⟩ = some (.int .i64 m) ∧ w4.cell? ⟨T, 1, none⟩ = some (.slice AR l.length cR) ∧ (∀ j, j < ([0, 1, 3, 12, -1] : List Int).length → w4.cell? ((⟨w3.heap.size, 0, none⟩ : Addr).add j) = some (.int .i64 (nth [0, 1, 3, 12, -1] j))) ∧ Below w.heap.size w w4 := ⟨hS.1.below hb, keep_fre hb (hS.2.1), keep_cell hb (hS.2.2.1), keep_cell hb (hS.2.2.2.1), own_below (hS.2.2.2.2.1) hb, keep_fre hb (hS.2.2.2.2.2.1), keep_cell hb (hS.2.2.2.2.2.2.1), keep_cell hb (hS.2.2.2.2.2.2.2.1), (by rw [← hw9]; exact lit_at (by rfl) rfl), below_via (hS.2.2.2.2.2.2.2.2) hb⟩
    clear hS hb hw9
    have hS := hT
    clear hT
    have hS2 := hS
    obtain ⟨hq0, ⟨f0, fr0⟩, q1, q2, q3, ⟨f4, fr4⟩, q5, q6, q7, hF⟩ := hS2
    have hgl : w.heap.size + 1 < w4.heap.size := hq0.lt
    have hzw : w.heap.size ≤ w4.heap.size := hF.size
    have hB := hF
    have hz1 : w.heap.size < w4.heap.size := World.block_lt_of_cell? w4 _ q1
    have hz2 : T < w4.heap.size := World.block_lt_of_cell? w4 _ q5
    refine ⟨(fun W => W.cell? ⟨T, 0, none⟩ = some (.int .i64 m) ∧ W.cell? ⟨T, 1, none⟩ = some (.slice AR l.length cR) ∧ Below w.heap.size w W), ⟨hS.2.2.2.2.2.2.1, hS.2.2.2.2.2.2.2.1, hS.2.2.2.2.2.2.2.2.2⟩, (fun W h => h), ?_⟩
    simp only [Act.put, zp1, zp2, zp3]
    repeat (first
      | ((refine seq_skip (by rfl) (by rfl) ?_); simp only [Act.put, zp1, zp2, zp3])
      | ((refine seq_val (v := ?_) (by rfl) (by rfl) (fun w hS => ?_) ?_); rotate_left; (focus ((try dsimp only at hS); go_simp; (try (with_reducible rfl)); done)); simp only [Act.put, zp1, zp2, zp3]))
    refine seq_call (f := ?_) (args := ?_) (by rfl) (by rfl) ?_ ?_
    rotate_left
    rotate_left
    focus (go_simp; (constructor <;> (with_reducible rfl)); done)
    refine (message_c (w.heap.size + 1) (0 + 280) _ (hide (by repeat' (first | (with_reducible exact hS.1) | (with_reducible refine Cur.drew ?_) | (with_reducible refine Cur.alloc ?_ _) | (with_reducible refine Cur.setc ?_ (by first | omega | (simp; done) | (simp; omega)) _)))) (by omega)).mono ?_
    rintro e w5 ⟨_, rfl, ⟨y, rfl, hy⟩, hcn, hgn⟩
    have hT : Cur w5 (w.heap.size + 1) (0 + 310) ∧ (w.heap.size < w5.heap.size ∧ ∀ i, w5.frozen? ⟨w.heap.size, i, none⟩ = false) ∧ w5.cell? ⟨w.heap.size, 0, none⟩ = some (.int .i64 (0)) ∧ w5.cell? ⟨w.heap.size, 1, none⟩ = some (.slice none 0 0) ∧ w5.ownsRow (w.heap.size + 2) 42 10 (.slice AR l.length cR) (l.length) (hds l) ∧ (T < w5.heap.size ∧ ∀ i, w5.frozen? ⟨T, i, none⟩ = false) ∧ w5.cell? ⟨T, 0, none⟩ = some (.int .i64 m) ∧ w5.cell? ⟨T, 1, none⟩ = some (.slice AR l.length cR) ∧ (∀ j, j < ([0, 1, 3, 12, -1] : List Int).length → w5.cell? ((⟨w3.heap.size, 0, none⟩ : Addr).add j) = some (.int .i64 (nth [0, 1, 3, 12, -1] j))) ∧ Below w.heap.size w w5 := (fun W h hgn => ⟨hcn, fre_gb (h.2.1) hgn (by intro e; injection e with e; (try dsimp only at e); omega), hgn.cell (h.2.2.1) (by intro e; injection e with e; (try dsimp only at e); omega), hgn.cell (h.2.2.2.1) (by intro e; injection e with e; (try dsimp only at e); omega), World.ownsRow.kept (h.2.2.2.2.1) hgn (own_far (h.2.2.2.2.1) (by first | omega | (simp; done) | (simp; omega))), fre_gb (h.2.2.2.2.2.1) hgn (by intro e; injection e with e; (try dsimp only at e); omega), hgn.cell (h.2.2.2.2.2.2.1) (by intro e; injection e with e; (try dsimp only at e); omega), hgn.cell (h.2.2.2.2.2.2.2.1) (by intro e; injection e with e; (try dsimp only at e); omega), (fun j hj => hgn.cell ((h.2.2.2.2.2.2.2.2.1) j hj) (by rw [block_of_add]; intro e; injection e with e; (try dsimp only at e); omega)), below_gb (h.2.2.2.2.2.2.2.2.2) hgn (h.2.2.2.2.2.2.2.2.2).size (by first | omega | (simp; done) | (simp; omega))⟩ : ∀ W : World, (Cur W (w.heap.size + 1) (0 + 280) ∧ (w.heap.size < W.heap.size ∧ ∀ i, W.frozen? ⟨w.heap.size, i, none⟩ = false) ∧ W.cell? ⟨w.heap.size, 0, none⟩ = some (.int .i64 (0)) ∧ W.cell? ⟨w.heap.size, 1, none⟩ = some (.slice none 0 0) ∧ W.ownsRow (w.heap.size + 2) 42 10 (.slice AR l.length cR) (l.length) (hds l) ∧ (T < W.heap.size ∧ ∀ i, W.frozen? ⟨T, i, none⟩ = false) ∧ W.cell? ⟨T, 0, none⟩ = some (.int .i64 m) ∧ W.cell? ⟨T, 1, none⟩ = some (.slice AR l.length cR) ∧ (∀ j, j < ([0, 1, 3, 12, -1] : List Int).length → W.cell? ((⟨w3.heap.size, 0, none⟩ : Addr).add j) = some (.int .i64 (nth [0, 1, 3, 12, -1] j))) ∧ Below w.heap.size w W) → W.grownBy w5 (some (w.heap.size + 1)) → (Cur w5 (w.heap.size + 1) (0 + 310) ∧ (w.heap.size < w5.heap.size ∧ ∀ i, w5.frozen? ⟨w.heap.size, i, none⟩ = false) ∧ w5.cell? ⟨w.heap.size, 0, none⟩ = some (.int .i64 (0)) ∧ w5.cell? ⟨w.heap.size, 1, none⟩ = some (.slice none 0 0) ∧ w5.ownsRow (w.heap.size + 2) 42 10 (.slice AR l.length cR) (l.length) (hds l) ∧ (T < w5.heap.size ∧ ∀ i, w5.frozen? ⟨T, i, none⟩ = false) ∧ w5.cell? ⟨T, 0, none⟩ = some (.int .i64 m) ∧ w5.cell? ⟨T, 1, none⟩ = some (.slice AR l.length cR) ∧ (∀ j, j < ([0, 1, 3, 12, -1] : List Int).length → w5.cell? ((⟨w3.heap.size, 0, none⟩ : Addr).add j) = some (.int .i64 (nth [0, 1, 3, 12, -1] j))) ∧ Below w.heap.size w w5)) _ ⟨(by repeat' (first | (with_reducible exact hS.1) | (with_reducible refine Cur.drew ?_) | (with_reducible refine Cur.alloc ?_ _) | (with_reducible refine Cur.setc ?_ (by first | omega | (simp; done) | (simp; omega)) _))), (by first | (with_reducible assumption) | (simp [go_sem]; done) | (refine keep_fre ?_ ⟨by with_reducible assumption, by with_reducible assumption⟩; go_grown; done) | (simp [go_sem, *]; done)), (by first | (with_reducible assumption) | (simp [go_sem]; done) | ((simp only [go_sem]); (with_reducible assumption)) | ((refine keep_cell ?_ (by with_reducible assumption)); go_grown; done) | (simp [go_sem, *]; done) | (rw [World.cell?_setCell_other _ _ _ _ (by simp; omega)]; with_reducible assumption) | (rw [World.cell?_setCell_other _ _ _ _ (by simp; omega), World.cell?_setCell_other _ _ _ _ (by simp; omega)]; with_reducible assumption)), (by first | (with_reducible assumption) | (simp [go_sem]; done) | ((simp only [go_sem]); (with_reducible assumption)) | ((refine keep_cell ?_ (by with_reducible assumption)); go_grown; done) | (simp [go_sem, *]; done) | (rw [World.cell?_setCell_other _ _ _ _ (by simp; omega)]; with_reducible assumption) | (rw [World.cell?_setCell_other _ _ _ _ (by simp; omega), World.cell?_setCell_other _ _ _ _ (by simp; omega)]; with_reducible assumption)), (by first | (with_reducible assumption) | (exact hS.2.2.2.2.1) | ((refine own_below (by with_reducible assumption) ?_); go_grown)), (by first | (with_reducible assumption) | (simp [go_sem]; done) | (refine keep_fre ?_ ⟨by with_reducible assumption, by with_reducible assumption⟩; go_grown; done) | (simp [go_sem, *]; done)), (by first | (with_reducible assumption) | (simp [go_sem]; done) | ((simp only [go_sem]); (with_reducible assumption)) | ((refine keep_cell ?_ (by with_reducible assumption)); go_grown; done) | (simp [go_sem, *]; done) | (rw [World.cell?_setCell_other _ _ _ _ (by simp; omega)]; with_reducible assumption) | (rw [World.cell?_setCell_other _ _ _ _ (by simp; omega), World.cell?_setCell_other _ _ _ _ (by simp; omega)]; with_reducible assumption)), (by first | (with_reducible assumption) | (simp [go_sem]; done) | ((simp only [go_sem]); (with_reducible assumption)) | ((refine keep_cell ?_ (by with_reducible assumption)); go_grown; done) | (simp [go_sem, *]; done) | (rw [World.cell?_setCell_other _ _ _ _ (by simp; omega)]; with_reducible assumption) | (rw [World.cell?_setCell_other _ _ _ _ (by simp; omega), World.cell?_setCell_other _ _ _ _ (by simp; omega)]; with_reducible assumption)), (by first | (with_reducible assumption) | (exact lit_at (by rfl) (by first | rfl | (with_reducible assumption) | simp))), (by go_grown)⟩ hgn
    (try clear hS)
    have hS := hT
    clear hT hcn hgn
    have hS2 := hS
    obtain ⟨hq0, ⟨f0, fr0⟩, q1, q2, q3, ⟨f4, fr4⟩, q5, q6, q7, hF⟩ := hS2
    have hgl : w.heap.size + 1 < w5.heap.size := hq0.lt
    have hzw : w.heap.size ≤ w5.heap.size := hF.size
    have hB := hF
    have hz1 : w.heap.size < w5.heap.size := World.block_lt_of_cell? w5 _ q1
    have hz2 : T < w5.heap.size := World.block_lt_of_cell? w5 _ q5
    refine ⟨_, rfl, (fun W => W.cell? ⟨T, 0, none⟩ = some (.int .i64 m) ∧ W.cell? ⟨T, 1, none⟩ = some (.slice AR l.length cR) ∧ Below w.heap.size w W), ⟨hS.2.2.2.2.2.2.1, hS.2.2.2.2.2.2.2.1, hS.2.2.2.2.2.2.2.2.2⟩, (fun W h => h), ?_⟩
    simp only [Act.put, zp1, zp2, zp3]
    repeat (first
      | ((refine seq_skip (by rfl) (by rfl) ?_); simp only [Act.put, zp1, zp2, zp3])
      | ((refine seq_val (v := ?_) (by rfl) (by rfl) (fun w hS => ?_) ?_); rotate_left; (focus ((try dsimp only at hS); go_simp; (try (with_reducible rfl)); done)); simp only [Act.put, zp1, zp2, zp3]))
    refine seq_call (f := ?_) (args := ?_) (by rfl) (by rfl) ?_ ?_
    rotate_left
    rotate_left
    focus (go_simp; (constructor <;> (with_reducible rfl)); done)
    refine (among_c (-1) (12) [0, 1, 3, 12, -1] _ _ (w.heap.size + 1) (0 + 310) _ (hide (by repeat' (first | (with_reducible exact hS.1) | (with_reducible refine Cur.drew ?_) | (with_reducible refine Cur.alloc ?_ _) | (with_reducible refine Cur.setc ?_ (by first | omega | (simp; done) | (simp; omega)) _)))) (by omega) (hide (by with_reducible assumption)) (by intro e; (try dsimp only at e); omega) ⟨by decide, by decide⟩ (hide (by decide))).mono ?_
    rintro e w6 ⟨_, rfl, ⟨x, rfl, x0, x1⟩, hcn, hgn⟩
    have hT : Cur w6 (w.heap.size + 1) (0 + 312) ∧ (w.heap.size < w6.heap.size ∧ ∀ i, w6.frozen? ⟨w.heap.size, i, none⟩ = false) ∧ w6.cell? ⟨w.heap.size, 0, none⟩ = some (.int .i64 (0)) ∧ w6.cell? ⟨w.heap.size, 1, none⟩ = some (.slice none 0 0) ∧ w6.ownsRow (w.heap.size + 2) 42 10 (.slice AR l.length cR) (l.length) (hds l) ∧ (T < w6.heap.size ∧ ∀ i, w6.frozen? ⟨T, i, none⟩ = false) ∧ w6.cell? ⟨T, 0, none⟩ = some (.int .i64 m) ∧ w6.cell? ⟨T, 1, none⟩ = some (.slice AR l.length cR) ∧ (∀ j, j < ([0, 1, 3, 12, -1] : List Int).length → w6.cell? ((⟨w3.heap.size, 0, none⟩ : Addr).add j) = some (.int .i64 (nth [0, 1, 3, 12, -1] j))) ∧ Below w.heap.size w w6 := (fun W h hgn => ⟨hcn, fre_gb (h.2.1) hgn (by intro e; injection e with e; (try dsimp only at e); omega), hgn.cell (h.2.2.1) (by intro e; injection e with e; (try dsimp only at e); omega), hgn.cell (h.2.2.2.1) (by intro e; injection e with e; (try dsimp only at e); omega), World.ownsRow.kept (h.2.2.2.2.1) hgn (own_far (h.2.2.2.2.1) (by first | omega | (simp; done) | (simp; omega))), fre_gb (h.2.2.2.2.2.1) hgn (by intro e; injection e with e; (try dsimp only at e); omega), hgn.cell (h.2.2.2.2.2.2.1) (by intro e; injection e with e; (try dsimp only at e); omega), hgn.cell (h.2.2.2.2.2.2.2.1) (by intro e; injection e with e; (try dsimp only at e); omega), (fun j hj => hgn.cell ((h.2.2.2.2.2.2.2.2.1) j hj) (by rw [block_of_add]; intro e; injection e with e; (try dsimp only at e); omega)), below_gb (h.2.2.2.2.2.2.2.2.2) hgn (h.2.2.2.2.2.2.2.2.2).size (by first | omega | (simp; done) | (simp; omega))⟩ : ∀ W : World, (Cur W (w.heap.size + 1) (0 + 310) ∧ (w.heap.size < W.heap.size ∧ ∀ i, W.frozen? ⟨w.heap.size, i, none⟩ = false) ∧ W.cell? ⟨w.heap.size, 0, none⟩ = some (.int .i64 (0)) ∧ W.cell? ⟨w.heap.size, 1, none⟩ = some (.slice none 0 0) ∧ W.ownsRow (w.heap.size + 2) 42 10 (.slice AR l.length cR) (l.length) (hds l) ∧ (T < W.heap.size ∧ ∀ i, W.frozen? ⟨T, i, none⟩ = false) ∧ W.cell? ⟨T, 0, none⟩ = some (.int .i64 m) ∧ W.cell? ⟨T, 1, none⟩ = some (.slice AR l.length cR) ∧ (∀ j, j < ([0, 1, 3, 12, -1] : List Int).length → W.cell? ((⟨w3.heap.size, 0, none⟩ : Addr).add j) = some (.int .i64 (nth [0, 1, 3, 12, -1] j))) ∧ Below w.heap.size w W) → W.grownBy w6 (some (w.heap.size + 1)) → (Cur w6 (w.heap.size + 1) (0 + 312) ∧ (w.heap.size < w6.heap.size ∧ ∀ i, w6.frozen? ⟨w.heap.size, i, none⟩ = false) ∧ w6.cell? ⟨w.heap.size, 0, none⟩ = some (.int .i64 (0)) ∧ w6.cell? ⟨w.heap.size, 1, none⟩ = some (.slice none 0 0) ∧ w6.ownsRow (w.heap.size + 2) 42 10 (.slice AR l.length cR) (l.length) (hds l) ∧ (T < w6.heap.size ∧ ∀ i, w6.frozen? ⟨T, i, none⟩ = false) ∧ w6.cell? ⟨T, 0, none⟩ = some (.int .i64 m) ∧ w6.cell? ⟨T, 1, none⟩ = some (.slice AR l.length cR) ∧ (∀ j, j < ([0, 1, 3, 12, -1] : List Int).length → w6.cell? ((⟨w3.heap.size, 0, none⟩ : Addr).add j) = some (.int .i64 (nth [0, 1, 3, 12, -1] j))) ∧ Below w.heap.size w w6)) _ ⟨(by repeat' (first | (with_reducible exact hS.1) | (with_reducible refine Cur.drew ?_) | (with_reducible refine Cur.alloc ?_ _) | (with_reducible refine Cur.setc ?_ (by first | omega | (simp; done) | (simp; omega)) _))), (by first | (with_reducible assumption) | (simp [go_sem]; done) | (refine keep_fre ?_ ⟨by with_reducible assumption, by with_reducible assumption⟩; go_grown; done) | (simp [go_sem, *]; done)), (by first | (with_reducible assumption) | (simp [go_sem]; done) | ((simp only [go_sem]); (with_reducible assumption)) | ((refine keep_cell ?_ (by with_reducible assumption)); go_grown; done) | (simp [go_sem, *]; done) | (rw [World.cell?_setCell_other _ _ _ _ (by simp; omega)]; with_reducible assumption) | (rw [World.cell?_setCell_other _ _ _ _ (by simp; omega), World.cell?_setCell_other _ _ _ _ (by simp; omega)]; with_reducible assumption)), (by first | (with_reducible assumption) | (simp [go_sem]; done) | ((simp only [go_sem]); (with_reducible assumption)) | ((refine keep_cell ?_ (by with_reducible assumption)); go_grown; done) | (simp [go_sem, *]; done) | (rw [World.cell?_setCell_other _ _ _ _ (by simp; omega)]; with_reducible assumption) | (rw [World.cell?_setCell_other _ _ _ _ (by simp; omega), World.cell?_setCell_other _ _ _ _ (by simp; omega)]; with_reducible assumption)), (by first | (with_reducible assumption) | (exact hS.2.2.2.2.1) | ((refine own_below (by with_reducible assumption) ?_); go_grown)), (by first | (with_reducible assumption) | (simp [go_sem]; done) | (refine keep_fre ?_ ⟨by with_reducible assumption, by with_reducible assumption⟩; go_grown; done) | (simp [go_sem, *]; done)), (by first | (with_reducible assumption) | (simp [go_sem]; done) | ((simp only [go_sem]); (with_reducible assumption)) | ((refine keep_cell ?_ (by with_reducible assumption)); go_grown; done) | (simp [go_sem, *]; done) | (rw [World.cell?_setCell_other _ _ _ _ (by simp; omega)]; with_reducible assumption) | (rw [World.cell?_setCell_other _ _ _ _ (by simp; omega), World.cell?_setCell_other _ _ _ _ (by simp; omega)]; with_reducible assumption)), (by first | (with_reducible assumption) | (simp [go_sem]; done) | ((simp only [go_sem]); (with_reducible assumption)) | ((refine keep_cell ?_ (by with_reducible assumption)); go_grown; done) | (simp [go_sem, *]; done) | (rw [World.cell?_setCell_other _ _ _ _ (by simp; omega)]; with_reducible assumption) | (rw [World.cell?_setCell_other _ _ _ _ (by simp; omega), World.cell?_setCell_other _ _ _ _ (by simp; omega)]; with_reducible assumption)), (by first | (with_reducible assumption) | (exact lit_at (by rfl) (by first | rfl | (with_reducible assumption) | simp))), (by go_grown)⟩ hgn
    (try clear hS)
    have hS := hT
    clear hT hcn hgn
    have hS2 := hS
    obtain ⟨hq0, ⟨f0, fr0⟩, q1, q2, q3, ⟨f4, fr4⟩, q5, q6, q7, hF⟩ := hS2
    have hgl : w.heap.size + 1 < w6.heap.size := hq0.lt
    have hzw : w.heap.size ≤ w6.heap.size := hF.size
    have hB := hF
    have hz1 : w.heap.size < w6.heap.size := World.block_lt_of_cell? w6 _ q1
    have hz2 : T < w6.heap.size := World.block_lt_of_cell? w6 _ q5
    have ewx : IntKind.i64.wrap (m + x) = m + x := IntWalk.i64_in _ (by omega)
    refine ⟨_, rfl, (fun W => W.cell? ⟨T, 0, none⟩ = some (.int .i64 m) ∧ W.cell? ⟨T, 1, none⟩ = some (.slice AR l.length cR) ∧ Below w.heap.size w W), ⟨hS.2.2.2.2.2.2.1, hS.2.2.2.2.2.2.2.1, hS.2.2.2.2.2.2.2.2.2⟩, (fun W h => h), ?_⟩
    simp only [Act.put, zp1, zp2, zp3]
    repeat (first
      | ((refine seq_skip (by rfl) (by rfl) ?_); simp only [Act.put, zp1, zp2, zp3])
      | ((refine seq_val (v := ?_) (by rfl) (by rfl) (fun w hS => ?_) ?_); rotate_left; (focus ((try dsimp only at hS); go_simp; (try (with_reducible rfl)); done)); simp only [Act.put, zp1, zp2, zp3]))
    have hrow := q3
    have hTR : T ≠ w.heap.size := by omega
    obtain ⟨X9, hX9⟩ : ∃ X, (w6.setCell ⟨w.heap.size, 0, none⟩ (.int .i64 m)).setCell ⟨w.heap.size, 1, none⟩ (.slice AR l.length cR) = X := ⟨_, rfl⟩
    obtain ⟨_, _, d2, d3⟩ := box2_sets q1 q2 (.int .i64 m) (.slice AR l.length cR)
    rw [hX9] at d2 d3
    have hS9 : X9.cell? ⟨T, 0, none⟩ = some (.int .i64 m) ∧ X9.cell? ⟨T, 1, none⟩ = some (.slice AR l.length cR) ∧ Below w.heap.size w X9 := by rw [← hX9]; exact ⟨sc _ hTR (sc _ hTR q5), sc _ hTR (sc _ hTR q6), (hF.setCell (p := ⟨w.heap.size, 0, none⟩) (Nat.le_refl _) _).setCell (p := ⟨w.heap.size, 1, none⟩) (Nat.le_refl _) _⟩
    have hr9 := hide (own_set (own_set hrow (p := ⟨w.heap.size, 0, none⟩) (show w.heap.size < w.heap.size + 2 by omega) (.int .i64 m)) (show w.heap.size < w.heap.size + 2 by omega) (.slice AR l.length cR) (p := ⟨w.heap.size, 1, none⟩))
    rw [hX9] at hr9
    refine seq_store (w' := X9) (by rfl) (by rfl) (by rw [← hX9]; go_simp; (try (with_reducible rfl)); done) ?_
    refine ⟨(fun W => W.cell? ⟨T, 0, none⟩ = some (.int .i64 m) ∧ W.cell? ⟨T, 1, none⟩ = some (.slice AR l.length cR) ∧ Below w.heap.size w W), hS9, (fun W h => h), ?_⟩
    simp only [Act.put, zp1, zp2, zp3]
    repeat (first
      | ((refine seq_skip (by rfl) (by rfl) ?_); simp only [Act.put, zp1, zp2, zp3])
      | ((refine seq_val (v := ?_) (by rfl) (by rfl) (fun w hS => ?_) ?_); rotate_left; (focus ((try dsimp only at hS); go_simp; (try (with_reducible rfl)); done)); simp only [Act.put, zp1, zp2, zp3]))
    refine seq_nil ?_
    clear hS hX9
    go_wp2
    refine bodyPost_ret (by simp [results, Try.results14, go_sem, d2, d3]; try rfl) rfl ?_
    exact ⟨m, l, AR, cR, y, m + x, rfl, own_mono hr9.out (by omega), (by omega), ⟨hm0, hm1⟩, hy, ⟨by omega, by omega⟩, hS9.2.2⟩
  · refine all_seq_core [0, 1, 3, 4, 5, 2, 6, 7, 8, 9, 10, 11] (fun W => W.cell? ⟨T, 0, none⟩ = some (.int .i64 m) ∧ W.cell? ⟨T, 1, none⟩ = some (.slice AR l.length cR) ∧ Below w.heap.size w W) (addE_core 2 6 _) (by kernel_rfl) ⟨hS.2.2.2.2.2.2.1, hS.2.2.2.2.2.2.2.1, hS.2.2.2.2.2.2.2.2⟩ ?_
    simp only [byNum, List.getElem?_cons_zero, List.getElem?_cons_succ]
    repeat (first
      | ((refine seq_skip (by rfl) (by rfl) ?_); simp only [Act.put, zp1, zp2, zp3])
      | ((refine seq_val (v := ?_) (by rfl) (by rfl) (fun w hS => ?_) ?_); rotate_left; (focus ((try dsimp only at hS); go_simp; (try (with_reducible rfl)); done)); simp only [Act.put, zp1, zp2, zp3]))
    refine seq_call (f := ?_) (args := ?_) (by rfl) (by rfl) ?_ ?_
    rotate_left
    rotate_left
    focus (go_simp; (constructor <;> (with_reducible rfl)); done)
    refine (message_c (w.heap.size + 1) (0 + 280) _ (hide (by repeat' (first | (with_reducible exact hS.1) | (with_reducible refine Cur.drew ?_) | (with_reducible refine Cur.alloc ?_ _) | (with_reducible refine Cur.setc ?_ (by first | omega | (simp; done) | (simp; omega)) _)))) (by omega)).mono ?_
    rintro e w4 ⟨_, rfl, ⟨y, rfl, hy⟩, hcn, hgn⟩
    have hT : Cur w4 (w.heap.size + 1) (0 + 310) ∧ (w.heap.size < w4.heap.size ∧ ∀ i, w4.frozen? ⟨w.heap.size, i, none⟩ = false) ∧ w4.cell? ⟨w.heap.size, 0, none⟩ = some (.int .i64 (0)) ∧ w4.cell? ⟨w.heap.size, 1, none⟩ = some (.slice none 0 0) ∧ w4.ownsRow (w.heap.size + 2) 42 10 (.slice AR l.length cR) (l.length) (hds l) ∧ (T < w4.heap.size ∧ ∀ i, w4.frozen? ⟨T, i, none⟩ = false) ∧ w4.cell? ⟨T, 0, none⟩ = some (.int .i64 m) ∧ w4.cell? ⟨T, 1, none⟩ = some (.slice AR l.length cR) ∧ Below w.heap.size w w4 := (fun W h hgn => ⟨hcn, fre_gb (h.2.1) hgn (by intro e; injection e with e; (try dsimp only at e); omega), hgn.cell (h.2.2.1) (by intro e; injection e with e; (try dsimp only at e); omega), hgn.cell (h.2.2.2.1) (by intro e; injection e with e; (try dsimp only at e); omega), World.ownsRow.kept (h.2.2.2.2.1) hgn (own_far (h.2.2.2.2.1) (by first | omega | (simp; done) | (simp; omega))), fre_gb (h.2.2.2.2.2.1) hgn (by intro e; injection e with e; (try dsimp only at e); omega), hgn.cell (h.2.2.2.2.2.2.1) (by intro e; injection e with e; (try dsimp only at e); omega), hgn.cell (h.2.2.2.2.2.2.2.1) (by intro e; injection e with e; (try dsimp only at e); omega), below_gb (h.2.2.2.2.2.2.2.2) hgn (h.2.2.2.2.2.2.2.2).size (by first | omega | (simp; done) | (simp; omega))⟩ : ∀ W : World, (Cur W (w.heap.size + 1) (0 + 280) ∧ (w.heap.size < W.heap.size ∧ ∀ i, W.frozen? ⟨w.heap.size, i, none⟩ = false) ∧ W.cell? ⟨w.heap.size, 0, none⟩ = some (.int .i64 (0)) ∧ W.cell? ⟨w.heap.size, 1, none⟩ = some (.slice none 0 0) ∧ W.ownsRow (w.heap.size + 2) 42 10 (.slice AR l.length cR) (l.length) (hds l) ∧ (T < W.heap.size ∧ ∀ i, W.frozen? ⟨T, i, none⟩ = false) ∧ W.cell? ⟨T, 0, none⟩ = some (.int .i64 m) ∧ W.cell? ⟨T, 1, none⟩ = some (.slice AR l.length cR) ∧ Below w.heap.size w W) → W.grownBy w4 (some (w.heap.size + 1)) → (Cur w4 (w.heap.size + 1) (0 + 310) ∧ (w.heap.size < w4.heap.size ∧ ∀ i, w4.frozen? ⟨w.heap.size, i, none⟩ = false) ∧ w4.cell? ⟨w.heap.size, 0, none⟩ = some (.int .i64 (0)) ∧ w4.cell? ⟨w.heap.size, 1, none⟩ = some (.slice none 0 0) ∧ w4.ownsRow (w.heap.size + 2) 42 10 (.slice AR l.length cR) (l.length) (hds l) ∧ (T < w4.heap.size ∧ ∀ i, w4.frozen? ⟨T, i, none⟩ = false) ∧ w4.cell? ⟨T, 0, none⟩ = some (.int .i64 m) ∧ w4.cell? ⟨T, 1, none⟩ = some (.slice AR l.length cR) ∧ Below w.heap.size w w4)) _ ⟨(by repeat' (first | (with_reducible exact hS.1) | (with_reducible refine Cur.drew ?_) | (with_reducible refine Cur.alloc ?_ _) | (with_reducible refine Cur.setc ?_ (by first | omega | (simp; done) | (simp; omega)) _))), (by first | (with_reducible assumption) | (simp [go_sem]; done) | (refine keep_fre ?_ ⟨by with_reducible assumption, by with_reducible assumption⟩; go_grown; done) | (simp [go_sem, *]; done)), (by first | (with_reducible assumption) | (simp [go_sem]; done) | ((simp only [go_sem]); (with_reducible assumption)) | ((refine keep_cell ?_ (by with_reducible assumption)); go_grown; done) | (simp [go_sem, *]; done) | (rw [World.cell?_setCell_other _ _ _ _ (by simp; omega)]; with_reducible assumption) | (rw [World.cell?_setCell_other _ _ _ _ (by simp; omega), World.cell?_setCell_other _ _ _ _ (by simp; omega)]; with_reducible assumption)), (by first | (with_reducible assumption) | (simp [go_sem]; done) | ((simp only [go_sem]); (with_reducible assumption)) | ((refine keep_cell ?_ (by with_reducible assumption)); go_grown; done) | (simp [go_sem, *]; done) | (rw [World.cell?_setCell_other _ _ _ _ (by simp; omega)]; with_reducible assumption) | (rw [World.cell?_setCell_other _ _ _ _ (by simp; omega), World.cell?_setCell_other _ _ _ _ (by simp; omega)]; with_reducible assumption)), (by first | (with_reducible assumption) | (exact hS.2.2.2.2.1) | ((refine own_below (by with_reducible assumption) ?_); go_grown)), (by first | (with_reducible assumption) | (simp [go_sem]; done) | (refine keep_fre ?_ ⟨by with_reducible assumption, by with_reducible assumption⟩; go_grown; done) | (simp [go_sem, *]; done)), (by first | (with_reducible assumption) | (simp [go_sem]; done) | ((simp only [go_sem]); (with_reducible assumption)) | ((refine keep_cell ?_ (by with_reducible assumption)); go_grown; done) | (simp [go_sem, *]; done) | (rw [World.cell?_setCell_other _ _ _ _ (by simp; omega)]; with_reducible assumption) | (rw [World.cell?_setCell_other _ _ _ _ (by simp; omega), World.cell?_setCell_other _ _ _ _ (by simp; omega)]; with_reducible assumption)), (by first | (with_reducible assumption) | (simp [go_sem]; done) | ((simp only [go_sem]); (with_reducible assumption)) | ((refine keep_cell ?_ (by with_reducible assumption)); go_grown; done) | (simp [go_sem, *]; done) | (rw [World.cell?_setCell_other _ _ _ _ (by simp; omega)]; with_reducible assumption) | (rw [World.cell?_setCell_other _ _ _ _ (by simp; omega), World.cell?_setCell_other _ _ _ _ (by simp; omega)]; with_reducible assumption)), (by go_grown)⟩ hgn
    (try clear hS)
    have hS := hT
    clear hT hcn hgn
    have hS2 := hS
    obtain ⟨hq0, ⟨f0, fr0⟩, q1, q2, q3, ⟨f4, fr4⟩, q5, q6, hF⟩ := hS2
    have hgl : w.heap.size + 1 < w4.heap.size := hq0.lt
    have hzw : w.heap.size ≤ w4.heap.size := hF.size
    have hB := hF
    have hz1 : w.heap.size < w4.heap.size := World.block_lt_of_cell? w4 _ q1
    have hz2 : T < w4.heap.size := World.block_lt_of_cell? w4 _ q5
    refine ⟨_, rfl, (fun W => W.cell? ⟨T, 0, none⟩ = some (.int .i64 m) ∧ W.cell? ⟨T, 1, none⟩ = some (.slice AR l.length cR) ∧ Below w.heap.size w W), ⟨hS.2.2.2.2.2.2.1, hS.2.2.2.2.2.2.2.1, hS.2.2.2.2.2.2.2.2⟩, (fun W h => h), ?_⟩
    simp only [Act.put, zp1, zp2, zp3]
    repeat (first
      | ((refine seq_skip (by rfl) (by rfl) ?_); simp only [Act.put, zp1, zp2, zp3])
      | ((refine seq_val (v := ?_) (by rfl) (by rfl) (fun w hS => ?_) ?_); rotate_left; (focus ((try dsimp only at hS); go_simp; (try (with_reducible rfl)); done)); simp only [Act.put, zp1, zp2, zp3]))
    refine seq_deed (v := ?_) (w' := ?_) (by rfl) (by rfl) ?_ ?_
    rotate_left
    rotate_left
    focus (go_simp; (constructor <;> (with_reducible rfl)); done)
    obtain ⟨w5, hw9⟩ : ∃ W, World.alloc w4 (.cells #[.int .i64 0, .int .i64 1, .int .i64 3, .int .i64 12, .int .i64 (-1)] 3) = W := ⟨_, rfl⟩
    rw [hw9]
    have hb : Below w4.heap.size w4 w5 := by rw [← hw9]; go_grown
    have hT : Cur w5 (w.heap.size + 1) (0 + 310) ∧ (w.heap.size < w5.heap.size ∧ ∀ i, w5.frozen? ⟨w.heap.size, i, none⟩ = false) ∧ w5.cell? ⟨w.heap.size, 0, none⟩ = some (.int .i64 (0)) ∧ w5.cell? ⟨w.heap.size, 1, none⟩ = some (.slice none 0 0) ∧ w5.ownsRow (w.heap.size + 2) 42 10 (.slice AR l.length cR) (l.length) (hds l) ∧ (T < w5.heap.size ∧ ∀ i, w5.frozen? ⟨T, i, none⟩ = false) ∧ w5.cell? ⟨T, 0, none⟩ = some (.int .i64 m) ∧ w5.cell? ⟨T, 1, none⟩ = some (.slice AR l.length cR) ∧ (∀ j, j < ([0, 1, 3, 12, -1] : List Int).length → w5.cell? ((⟨w4.heap.size, 0, none⟩ : Addr).add j) = some (.int .i64 (nth [0, 1, 3, 12, -1] j))) ∧ Below w.heap.size w w5 := ⟨hS.1.below hb, keep_fre hb (hS.2.1), keep_cell hb (hS.2.2.1), keep_cell hb (hS.2.2.2.1), own_below (hS.2.2.2.2.1) hb, keep_fre hb (hS.2.2.2.2.2.1), keep_cell hb (hS.2.2.2.2.2.2.1), keep_cell hb (hS.2.2.2.2.2.2.2.1), (by rw [← hw9]; exact lit_at (by rfl) rfl), below_via (hS.2.2.2.2.2.2.2.2) hb⟩
    clear hS hb hw9
    have hS := hT
    clear hT
    have hS2 := hS
    obtain ⟨hq0, ⟨f0, fr0⟩, q1, q2, q3, ⟨f4, fr4⟩, q5, q6, q7, hF⟩ := hS2
    have hgl : w.heap.size + 1 < w5.heap.size := hq0.lt
    have hzw : w.heap.size ≤ w5.heap.size := hF.size
    have hB := hF
    have hz1 : w.heap.size < w5.heap.size := World.block_lt_of_cell? w5 _ q1
    have hz2 : T < w5.heap.size := World.block_lt_of_cell? w5 _ q5
    refine ⟨(fun W => W.cell? ⟨T, 0, none⟩ = some (.int .i64 m) ∧ W.cell? ⟨T, 1, none⟩ = some (.slice AR l.length cR) ∧ Below w.heap.size w W), ⟨hS.2.2.2.2.2.2.1, hS.2.2.2.2.2.2.2.1, hS.2.2.2.2.2.2.2.2.2⟩, (fun W h => h), ?_⟩
    simp only [Act.put, zp1, zp2, zp3]
    repeat (first
      | ((refine seq_skip (by rfl) (by rfl) ?_); simp only [Act.put, zp1, zp2, zp3])
      | ((refine seq_val (v := ?_) (by rfl) (by rfl) (fun w hS => ?_) ?_); rotate_left; (focus ((try dsimp only at hS); go_simp; (try (with_reducible rfl)); done)); simp only [Act.put, zp1, zp2, zp3]))
    refine seq_call (f := ?_) (args := ?_) (by rfl) (by rfl) ?_ ?_
    rotate_left
    rotate_left
    focus (go_simp; (constructor <;> (with_reducible rfl)); done)
    refine (among_c (-1) (12) [0, 1, 3, 12, -1] _ _ (w.heap.size + 1) (0 + 310) _ (hide (by repeat' (first | (with_reducible exact hS.1) | (with_reducible refine Cur.drew ?_) | (with_reducible refine Cur.alloc ?_ _) | (with_reducible refine Cur.setc ?_ (by first | omega | (simp; done) | (simp; omega)) _)))) (by omega) (hide (by with_reducible assumption)) (by intro e; (try dsimp only at e); omega) ⟨by decide, by decide⟩ (hide (by decide))).mono ?_
    rintro e w6 ⟨_, rfl, ⟨x, rfl, x0, x1⟩, hcn, hgn⟩
    have hT : Cur w6 (w.heap.size + 1) (0 + 312) ∧ (w.heap.size < w6.heap.size ∧ ∀ i, w6.frozen? ⟨w.heap.size, i, none⟩ = false) ∧ w6.cell? ⟨w.heap.size, 0, none⟩ = some (.int .i64 (0)) ∧ w6.cell? ⟨w.heap.size, 1, none⟩ = some (.slice none 0 0) ∧ w6.ownsRow (w.heap.size + 2) 42 10 (.slice AR l.length cR) (l.length) (hds l) ∧ (T < w6.heap.size ∧ ∀ i, w6.frozen? ⟨T, i, none⟩ = false) ∧ w6.cell? ⟨T, 0, none⟩ = some (.int .i64 m) ∧ w6.cell? ⟨T, 1, none⟩ = some (.slice AR l.length cR) ∧ (∀ j, j < ([0, 1, 3, 12, -1] : List Int).length → w6.cell? ((⟨w4.heap.size, 0, none⟩ : Addr).add j) = some (.int .i64 (nth [0, 1, 3, 12, -1] j))) ∧ Below w.heap.size w w6 := (fun W h hgn => ⟨hcn, fre_gb (h.2.1) hgn (by intro e; injection e with e; (try dsimp only at e); omega), hgn.cell (h.2.2.1) (by intro e; injection e with e; (try dsimp only at e); omega), hgn.cell (h.2.2.2.1) (by intro e; injection e with e; (try dsimp only at e); omega), World.ownsRow.kept (h.2.2.2.2.1) hgn (own_far (h.2.2.2.2.1) (by first | omega | (simp; done) | (simp; omega))), fre_gb (h.2.2.2.2.2.1) hgn (by intro e; injection e with e; (try dsimp only at e); omega), hgn.cell (h.2.2.2.2.2.2.1) (by intro e; injection e with e; (try dsimp only at e); omega), hgn.cell (h.2.2.2.2.2.2.2.1) (by intro e; injection e with e; (try dsimp only at e); omega), (fun j hj => hgn.cell ((h.2.2.2.2.2.2.2.2.1) j hj) (by rw [block_of_add]; intro e; injection e with e; (try dsimp only at e); omega)), below_gb (h.2.2.2.2.2.2.2.2.2) hgn (h.2.2.2.2.2.2.2.2.2).size (by first | omega | (simp; done) | (simp; omega))⟩ : ∀ W : World, (Cur W (w.heap.size + 1) (0 + 310) ∧ (w.heap.size < W.heap.size ∧ ∀ i, W.frozen? ⟨w.heap.size, i, none⟩ = false) ∧ W.cell? ⟨w.heap.size, 0, none⟩ = some (.int .i64 (0)) ∧ W.cell? ⟨w.heap.size, 1, none⟩ = some (.slice none 0 0) ∧ W.ownsRow (w.heap.size + 2) 42 10 (.slice AR l.length cR) (l.length) (hds l) ∧ (T < W.heap.size ∧ ∀ i, W.frozen? ⟨T, i, none⟩ = false) ∧ W.cell? ⟨T, 0, none⟩ = some (.int .i64 m) ∧ W.cell? ⟨T, 1, none⟩ = some (.slice AR l.length cR) ∧ (∀ j, j < ([0, 1, 3, 12, -1] : List Int).length → W.cell? ((⟨w4.heap.size, 0, none⟩ : Addr).add j) = some (.int .i64 (nth [0, 1, 3, 12, -1] j))) ∧ Below w.heap.size w W) → W.grownBy w6 (some (w.heap.size + 1)) → (Cur w6 (w.heap.size + 1) (0 + 312) ∧ (w.heap.size < w6.heap.size ∧ ∀ i, w6.frozen? ⟨w.heap.size, i, none⟩ = false) ∧ w6.cell? ⟨w.heap.size, 0, none⟩ = some (.int .i64 (0)) ∧ w6.cell? ⟨w.heap.size, 1, none⟩ = some (.slice none 0 0) ∧ w6.ownsRow (w.heap.size + 2) 42 10 (.slice AR l.length cR) (l.length) (hds l) ∧ (T < w6.heap.size ∧ ∀ i, w6.frozen? ⟨T, i, none⟩ = false) ∧ w6.cell? ⟨T, 0, none⟩ = some (.int .i64 m) ∧ w6.cell? ⟨T, 1, none⟩ = some (.slice AR l.length cR) ∧ (∀ j, j < ([0, 1, 3, 12, -1] : List Int).length → w6.cell? ((⟨w4.heap.size, 0, none⟩ : Addr).add j) = some (.int .i64 (nth [0, 1, 3, 12, -1] j))) ∧ Below w.heap.size w w6)) _ ⟨(by repeat' (first | (with_reducible exact hS.1) | (with_reducible refine Cur.drew ?_) | (with_reducible refine Cur.alloc ?_ _) | (with_reducible refine Cur.setc ?_ (by first | omega | (simp; done) | (simp; omega)) _))), (by first | (with_reducible assumption) | (simp [go_sem]; done) | (refine keep_fre ?_ ⟨by with_reducible assumption, by with_reducible assumption⟩; go_grown; done) | (simp [go_sem, *]; done)), (by first | (with_reducible assumption) | (simp [go_sem]; done) | ((simp only [go_sem]); (with_reducible assumption)) | ((refine keep_cell ?_ (by with_reducible assumption)); go_grown; done) | (simp [go_sem, *]; done) | (rw [World.cell?_setCell_other _ _ _ _ (by simp; omega)]; with_reducible assumption) | (rw [World.cell?_setCell_other _ _ _ _ (by simp; omega), World.cell?_setCell_other _ _ _ _ (by simp; omega)]; with_reducible assumption)), (by first | (with_reducible assumption) | (simp [go_sem]; done) | ((simp only [go_sem]); (with_reducible assumption)) | ((refine keep_cell ?_ (by with_reducible assumption)); go_grown; done) | (simp [go_sem, *]; done) | (rw [World.cell?_setCell_other _ _ _ _ (by simp; omega)]; with_reducible assumption) | (rw [World.cell?_setCell_other _ _ _ _ (by simp; omega), World.cell?_setCell_other _ _ _ _ (by simp; omega)]; with_reducible assumption)), (by first | (with_reducible assumption) | (exact hS.2.2.2.2.1) | ((refine own_below (by with_reducible assumption) ?_); go_grown)), (by first | (with_reducible assumption) | (simp [go_sem]; done) | (refine keep_fre ?_ ⟨by with_reducible assumption, by with_reducible assumption⟩; go_grown; done) | (simp [go_sem, *]; done)), (by first | (with_reducible assumption) | (simp [go_sem]; done) | ((simp only [go_sem]); (with_reducible assumption)) | ((refine keep_cell ?_ (by with_reducible assumption)); go_grown; done) | (simp [go_sem, *]; done) | (rw [World.cell?_setCell_other _ _ _ _ (by simp; omega)]; with_reducible assumption) | (rw [World.cell?_setCell_other _ _ _ _ (by simp; omega), World.cell?_setCell_other _ _ _ _ (by simp; omega)]; with_reducible assumption)), (by first | (with_reducible assumption) | (simp [go_sem]; done) | ((simp only [go_sem]); (with_reducible assumption)) | ((refine keep_cell ?_ (by with_reducible assumption)); go_grown; done) | (simp [go_sem, *]; done) | (rw [World.cell?_setCell_other _ _ _ _ (by simp; omega)]; with_reducible assumption) | (rw [World.cell?_setCell_other _ _ _ _ (by simp; omega), World.cell?_setCell_other _ _ _ _ (by simp; omega)]; with_reducible assumption)), (by first | (with_reducible assumption) | (exact lit_at (by rfl) (by first | rfl | (with_reducible assumption) | simp))), (by go_grown)⟩ hgn
    (try clear hS)
    have hS := hT
    clear hT hcn hgn
    have hS2 := hS
    obtain ⟨hq0, ⟨f0, fr0⟩, q1, q2, q3, ⟨f4, fr4⟩, q5, q6, q7, hF⟩ := hS2
    have hgl : w.heap.size + 1 < w6.heap.size := hq0.lt
    have hzw : w.heap.size ≤ w6.heap.size := hF.size
    have hB := hF
    have hz1 : w.heap.size < w6.heap.size := World.block_lt_of_cell? w6 _ q1
    have hz2 : T < w6.heap.size := World.block_lt_of_cell? w6 _ q5
    have ewx : IntKind.i64.wrap (m + x) = m + x := IntWalk.i64_in _ (by omega)
    refine ⟨_, rfl, (fun W => W.cell? ⟨T, 0, none⟩ = some (.int .i64 m) ∧ W.cell? ⟨T, 1, none⟩ = some (.slice AR l.length cR) ∧ Below w.heap.size w W), ⟨hS.2.2.2.2.2.2.1, hS.2.2.2.2.2.2.2.1, hS.2.2.2.2.2.2.2.2.2⟩, (fun W h => h), ?_⟩
    simp only [Act.put, zp1, zp2, zp3]
    repeat (first
      | ((refine seq_skip (by rfl) (by rfl) ?_); simp only [Act.put, zp1, zp2, zp3])
      | ((refine seq_val (v := ?_) (by rfl) (by rfl) (fun w hS => ?_) ?_); rotate_left; (focus ((try dsimp only at hS); go_simp; (try (with_reducible rfl)); done)); simp only [Act.put, zp1, zp2, zp3]))
    have hrow := q3
    have hTR : T ≠ w.heap.size := by omega
    obtain ⟨X9, hX9⟩ : ∃ X, (w6.setCell ⟨w.heap.size, 0, none⟩ (.int .i64 m)).setCell ⟨w.heap.size, 1, none⟩ (.slice AR l.length cR) = X := ⟨_, rfl⟩
    obtain ⟨_, _, d2, d3⟩ := box2_sets q1 q2 (.int .i64 m) (.slice AR l.length cR)
    rw [hX9] at d2 d3
    have hS9 : X9.cell? ⟨T, 0, none⟩ = some (.int .i64 m) ∧ X9.cell? ⟨T, 1, none⟩ = some (.slice AR l.length cR) ∧ Below w.heap.size w X9 := by rw [← hX9]; exact ⟨sc _ hTR (sc _ hTR q5), sc _ hTR (sc _ hTR q6), (hF.setCell (p := ⟨w.heap.size, 0, none⟩) (Nat.le_refl _) _).setCell (p := ⟨w.heap.size, 1, none⟩) (Nat.le_refl _) _⟩
    have hr9 := hide (own_set (own_set hrow (p := ⟨w.heap.size, 0, none⟩) (show w.heap.size < w.heap.size + 2 by omega) (.int .i64 m)) (show w.heap.size < w.heap.size + 2 by omega) (.slice AR l.length cR) (p := ⟨w.heap.size, 1, none⟩))
    rw [hX9] at hr9
    refine seq_store (w' := X9) (by rfl) (by rfl) (by rw [← hX9]; go_simp; (try (with_reducible rfl)); done) ?_
    refine ⟨(fun W => W.cell? ⟨T, 0, none⟩ = some (.int .i64 m) ∧ W.cell? ⟨T, 1, none⟩ = some (.slice AR l.length cR) ∧ Below w.heap.size w W), hS9, (fun W h => h), ?_⟩
    simp only [Act.put, zp1, zp2, zp3]
    repeat (first
      | ((refine seq_skip (by rfl) (by rfl) ?_); simp only [Act.put, zp1, zp2, zp3])
      | ((refine seq_val (v := ?_) (by rfl) (by rfl) (fun w hS => ?_) ?_); rotate_left; (focus ((try dsimp only at hS); go_simp; (try (with_reducible rfl)); done)); simp only [Act.put, zp1, zp2, zp3]))
    refine seq_nil ?_
    clear hS hX9
    go_wp2
    refine bodyPost_ret (by simp [results, Try.results14, go_sem, d2, d3]; try rfl) rfl ?_
    exact ⟨m, l, AR, cR, y, m + x, rfl, own_mono hr9.out (by omega), (by omega), ⟨hm0, hm1⟩, hy, ⟨by omega, by omega⟩, hS9.2.2⟩
end Go.Proofs.Ytbeojfhakmbacaa
