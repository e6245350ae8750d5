/- Contracts: two reports that are drawn for a law. -/
import Derived.Test.YtpabfkodlgglcaaPsA0
namespace Go.Proofs.Ytpabfkodlgglcaa
open Go.RowKit

set_option maxHeartbeats 20000000 in
theorem drawPair_c (A : Option Addr) (n c : Nat) (w : World) (h1 : Hid (CodeOk w A n)) (hn : n ≤ 65536)  : Calls Try.prog 31 #[.slice A n c] w (DrawsRR w) := by
  go_enter Try.func31, Try.ntmps31
  go_wp2_with fail
  refine (place_c (w.heap.size + 2) (0) _ (hide (cur_new (h1.out.below (by go_grown)) hn (by first | rfl | (simp; done)) 0)) (by omega)).mono ?_
  rintro e w1 ⟨_, rfl, ⟨x, y, rfl, ⟨x0, x1⟩, y0, y1⟩, hcn, hgn⟩
  have hT : Cur w1 (w.heap.size + 2) (0 + 8) ∧ (w.heap.size < w1.heap.size ∧ ∀ i, w1.frozen? ⟨w.heap.size, i, none⟩ = false) ∧ w1.cell? ⟨w.heap.size, 0, none⟩ = some (.bool (false)) ∧ w1.cell? ⟨w.heap.size, 1, none⟩ = some (.int .i64 (0)) ∧ w1.cell? ⟨w.heap.size, 2, none⟩ = some (.int .i64 (0)) ∧ (w.heap.size + 1 < w1.heap.size ∧ ∀ i, w1.frozen? ⟨w.heap.size + 1, i, none⟩ = false) ∧ w1.cell? ⟨w.heap.size + 1, 0, none⟩ = some (.bool (false)) ∧ w1.cell? ⟨w.heap.size + 1, 1, none⟩ = some (.int .i64 (0)) ∧ w1.cell? ⟨w.heap.size + 1, 2, none⟩ = some (.int .i64 (0)) ∧ Below w.heap.size w w1 := (fun W h hgn => ⟨hcn, fre_gb (h.2.1) hgn (by intro e; injection e with e; (try dsimp only at e); omega), hgn.cell (h.2.2.1) (by intro e; injection e with e; (try dsimp only at e); omega), hgn.cell (h.2.2.2.1) (by intro e; injection e with e; (try dsimp only at e); omega), hgn.cell (h.2.2.2.2.1) (by intro e; injection e with e; (try dsimp only at e); omega), fre_gb (h.2.2.2.2.2.1) hgn (by intro e; injection e with e; (try dsimp only at e); omega), hgn.cell (h.2.2.2.2.2.2.1) (by intro e; injection e with e; (try dsimp only at e); omega), hgn.cell (h.2.2.2.2.2.2.2.1) (by intro e; injection e with e; (try dsimp only at e); omega), hgn.cell (h.2.2.2.2.2.2.2.2.1) (by intro e; injection e with e; (try dsimp only at e); omega), below_gb (h.2.2.2.2.2.2.2.2.2) hgn (h.2.2.2.2.2.2.2.2.2).size (by first | omega | (simp; done) | (simp; omega))⟩ : ∀ W : World, (Cur W (w.heap.size + 2) (0) ∧ (w.heap.size < W.heap.size ∧ ∀ i, W.frozen? ⟨w.heap.size, i, none⟩ = false) ∧ W.cell? ⟨w.heap.size, 0, none⟩ = some (.bool (false)) ∧ W.cell? ⟨w.heap.size, 1, none⟩ = some (.int .i64 (0)) ∧ W.cell? ⟨w.heap.size, 2, none⟩ = some (.int .i64 (0)) ∧ (w.heap.size + 1 < W.heap.size ∧ ∀ i, W.frozen? ⟨w.heap.size + 1, i, none⟩ = false) ∧ W.cell? ⟨w.heap.size + 1, 0, none⟩ = some (.bool (false)) ∧ W.cell? ⟨w.heap.size + 1, 1, none⟩ = some (.int .i64 (0)) ∧ W.cell? ⟨w.heap.size + 1, 2, none⟩ = some (.int .i64 (0)) ∧ Below w.heap.size w W) → W.grownBy w1 (some (w.heap.size + 2)) → (Cur w1 (w.heap.size + 2) (0 + 8) ∧ (w.heap.size < w1.heap.size ∧ ∀ i, w1.frozen? ⟨w.heap.size, i, none⟩ = false) ∧ w1.cell? ⟨w.heap.size, 0, none⟩ = some (.bool (false)) ∧ w1.cell? ⟨w.heap.size, 1, none⟩ = some (.int .i64 (0)) ∧ w1.cell? ⟨w.heap.size, 2, none⟩ = some (.int .i64 (0)) ∧ (w.heap.size + 1 < w1.heap.size ∧ ∀ i, w1.frozen? ⟨w.heap.size + 1, i, none⟩ = false) ∧ w1.cell? ⟨w.heap.size + 1, 0, none⟩ = some (.bool (false)) ∧ w1.cell? ⟨w.heap.size + 1, 1, none⟩ = some (.int .i64 (0)) ∧ w1.cell? ⟨w.heap.size + 1, 2, none⟩ = some (.int .i64 (0)) ∧ Below w.heap.size w w1)) _ ⟨(cur_new (h1.out.below (by go_grown)) hn (by first | rfl | (simp; done)) 0), (by first | (with_reducible assumption) | (simp [go_sem]; done) | (refine keep_fre ?_ ⟨by with_reducible assumption, by with_reducible assumption⟩; go_grown; done) | (simp [go_sem, *]; done)), (by first | (with_reducible assumption) | (simp [go_sem]; done) | ((simp only [go_sem]); (with_reducible assumption)) | ((refine keep_cell ?_ (by with_reducible assumption)); go_grown; done) | (simp [go_sem, *]; done) | (rw [World.cell?_setCell_other _ _ _ _ (by simp; omega)]; with_reducible assumption) | (rw [World.cell?_setCell_other _ _ _ _ (by simp; omega), World.cell?_setCell_other _ _ _ _ (by simp; omega)]; with_reducible assumption)), (by first | (with_reducible assumption) | (simp [go_sem]; done) | ((simp only [go_sem]); (with_reducible assumption)) | ((refine keep_cell ?_ (by with_reducible assumption)); go_grown; done) | (simp [go_sem, *]; done) | (rw [World.cell?_setCell_other _ _ _ _ (by simp; omega)]; with_reducible assumption) | (rw [World.cell?_setCell_other _ _ _ _ (by simp; omega), World.cell?_setCell_other _ _ _ _ (by simp; omega)]; with_reducible assumption)), (by first | (with_reducible assumption) | (simp [go_sem]; done) | ((simp only [go_sem]); (with_reducible assumption)) | ((refine keep_cell ?_ (by with_reducible assumption)); go_grown; done) | (simp [go_sem, *]; done) | (rw [World.cell?_setCell_other _ _ _ _ (by simp; omega)]; with_reducible assumption) | (rw [World.cell?_setCell_other _ _ _ _ (by simp; omega), World.cell?_setCell_other _ _ _ _ (by simp; omega)]; with_reducible assumption)), (by first | (with_reducible assumption) | (simp [go_sem]; done) | (refine keep_fre ?_ ⟨by with_reducible assumption, by with_reducible assumption⟩; go_grown; done) | (simp [go_sem, *]; done)), (by first | (with_reducible assumption) | (simp [go_sem]; done) | ((simp only [go_sem]); (with_reducible assumption)) | ((refine keep_cell ?_ (by with_reducible assumption)); go_grown; done) | (simp [go_sem, *]; done) | (rw [World.cell?_setCell_other _ _ _ _ (by simp; omega)]; with_reducible assumption) | (rw [World.cell?_setCell_other _ _ _ _ (by simp; omega), World.cell?_setCell_other _ _ _ _ (by simp; omega)]; with_reducible assumption)), (by first | (with_reducible assumption) | (simp [go_sem]; done) | ((simp only [go_sem]); (with_reducible assumption)) | ((refine keep_cell ?_ (by with_reducible assumption)); go_grown; done) | (simp [go_sem, *]; done) | (rw [World.cell?_setCell_other _ _ _ _ (by simp; omega)]; with_reducible assumption) | (rw [World.cell?_setCell_other _ _ _ _ (by simp; omega), World.cell?_setCell_other _ _ _ _ (by simp; omega)]; with_reducible assumption)), (by first | (with_reducible assumption) | (simp [go_sem]; done) | ((simp only [go_sem]); (with_reducible assumption)) | ((refine keep_cell ?_ (by with_reducible assumption)); go_grown; done) | (simp [go_sem, *]; done) | (rw [World.cell?_setCell_other _ _ _ _ (by simp; omega)]; with_reducible assumption) | (rw [World.cell?_setCell_other _ _ _ _ (by simp; omega), World.cell?_setCell_other _ _ _ _ (by simp; omega)]; with_reducible assumption)), (by go_grown)⟩ hgn
  (try clear hS)
  have hS := hT
  clear hT hcn hgn
  have hS2 := hS
  obtain ⟨hq0, ⟨f0, fr0⟩, q1, q2, q3, ⟨f4, fr4⟩, q5, q6, q7, hF⟩ := hS2
  have hgl : w.heap.size + 2 < w1.heap.size := hq0.lt
  have hzw : w.heap.size ≤ w1.heap.size := hF.size
  have hB := hF
  have hz1 : w.heap.size < w1.heap.size := World.block_lt_of_cell? w1 _ q1
  have hz2 : w.heap.size + 1 < w1.heap.size := World.block_lt_of_cell? w1 _ q5
  go_upto_region 3 with fail
  generalize hgw2 : World.alloc w1 _ = w2
  have hb : Below w1.heap.size w1 w2 := by rw [← hgw2]; go_grown
  obtain ⟨n9, n0, n1⟩ := al2 hgw2
  have hT := ai (hq0.below hb) <| ai (kf hb f0 fr0) <| ai (kc hb q1) <| ai (kc hb q2) <| ai (kc hb q3) <| ai (kf hb f4 fr4) <| ai (kc hb q5) <| ai (kc hb q6) <| ai (kc hb q7) <| ai (n9) <| ai (n0) <| ai (n1) <| below_via (hS.2.2.2.2.2.2.2.2.2) hb
  clear n9 n0 n1
  clear hS hb hgw2
  have hS := hT
  clear hT
  have hS2 := hS
  obtain ⟨hq0, ⟨f0, fr0⟩, q1, q2, q3, ⟨f4, fr4⟩, q5, q6, q7, ⟨f8, fr8⟩, q9, q10, hF⟩ := hS2
  have hgl : w.heap.size + 2 < w2.heap.size := hq0.lt
  have hzw : w.heap.size ≤ w2.heap.size := hF.size
  have hB := hF
  have hz1 : w.heap.size < w2.heap.size := World.block_lt_of_cell? w2 _ q1
  have hz2 : w.heap.size + 1 < w2.heap.size := World.block_lt_of_cell? w2 _ q5
  have hz3 : w1.heap.size < w2.heap.size := World.block_lt_of_cell? w2 _ q9
  go_cut [6, 7] (fun s t wx => ∃ (A B : Nat) (a b a2 b2 : Int), s = .pointer (some ⟨A, 0, none⟩) ∧ t = .pointer (some ⟨B, 0, none⟩) ∧ (w.heap.size + 2 < A ∧ w.heap.size + 2 < B ∧ (A < B ∨ B < A)) ∧ (Cur wx (w.heap.size + 2) (0 + 8) ∧ (w.heap.size < wx.heap.size ∧ ∀ i, wx.frozen? ⟨w.heap.size, i, none⟩ = false) ∧ wx.cell? ⟨w.heap.size, 0, none⟩ = some (.bool (false)) ∧ wx.cell? ⟨w.heap.size, 1, none⟩ = some (.int .i64 (0)) ∧ wx.cell? ⟨w.heap.size, 2, none⟩ = some (.int .i64 (0)) ∧ (w.heap.size + 1 < wx.heap.size ∧ ∀ i, wx.frozen? ⟨w.heap.size + 1, i, none⟩ = false) ∧ wx.cell? ⟨w.heap.size + 1, 0, none⟩ = some (.bool (false)) ∧ wx.cell? ⟨w.heap.size + 1, 1, none⟩ = some (.int .i64 (0)) ∧ wx.cell? ⟨w.heap.size + 1, 2, none⟩ = some (.int .i64 (0)) ∧ (A < wx.heap.size ∧ ∀ i, wx.frozen? ⟨A, i, none⟩ = false) ∧ wx.cell? ⟨A, 0, none⟩ = some (.bool false) ∧ wx.cell? ⟨A, 1, none⟩ = some (.int .i64 a) ∧ wx.cell? ⟨A, 2, none⟩ = some (.int .i64 b) ∧ (B < wx.heap.size ∧ ∀ i, wx.frozen? ⟨B, i, none⟩ = false) ∧ wx.cell? ⟨B, 0, none⟩ = some (.bool true) ∧ wx.cell? ⟨B, 1, none⟩ = some (.int .i64 a2) ∧ wx.cell? ⟨B, 2, none⟩ = some (.int .i64 b2) ∧ Below w.heap.size w wx))
  case first =>
    refine wp_region_all (by kernel_rfl) ?_
    obtain ⟨w3, hwq⟩ : ∃ W, World.drew w2 = W := ⟨_, rfl⟩
    have hb : Below w2.heap.size w2 w3 := by rw [← hwq]; go_grown
    rw [hwq]
    have hT := ai (hq0.below hb) <| ai (kf hb f0 fr0) <| ai (kc hb q1) <| ai (kc hb q2) <| ai (kc hb q3) <| ai (kf hb f4 fr4) <| ai (kc hb q5) <| ai (kc hb q6) <| ai (kc hb q7) <| ai (kf hb f8 fr8) <| ai (kc hb q9) <| ai (kc hb q10) <| below_via hF hb
    clear hS hb hwq
    have hS := hT
    clear hT
    have hS2 := hS
    obtain ⟨hq0, ⟨f0, fr0⟩, q1, q2, q3, ⟨f4, fr4⟩, q5, q6, q7, ⟨f8, fr8⟩, q9, q10, hF⟩ := hS2
    have hgl : w.heap.size + 2 < w3.heap.size := hq0.lt
    have hzw : w.heap.size ≤ w3.heap.size := hF.size
    have hB := hF
    have hz1 : w.heap.size < w3.heap.size := World.block_lt_of_cell? w3 _ q1
    have hz2 : w.heap.size + 1 < w3.heap.size := World.block_lt_of_cell? w3 _ q5
    have hz3 : w1.heap.size < w3.heap.size := World.block_lt_of_cell? w3 _ q9
    have HK9 := hide hS
    have hT : Cur w3 (w.heap.size + 2) (0 + 8) ∧ w3.cell? ⟨w1.heap.size, 0, none⟩ = some (.int .i64 (x)) ∧ w3.cell? ⟨w1.heap.size, 1, none⟩ = some (.int .i64 (y)) ∧ w3.grownBy w3 (some (w.heap.size + 2)) ∧ Below w.heap.size w w3 := ⟨hS.1, hS.2.2.2.2.2.2.2.2.2.2.1, hS.2.2.2.2.2.2.2.2.2.2.2.1, gb_refl _ _, hS.2.2.2.2.2.2.2.2.2.2.2.2⟩
    clear hS
    have hS := hT
    clear hT
    have hS2 := hS
    obtain ⟨hq0, q0, q1, q2, hF⟩ := hS2
    have hgl : w.heap.size + 2 < w3.heap.size := hq0.lt
    have hzw : w.heap.size ≤ w3.heap.size := hF.size
    have hB := hF
    have hz1 : w1.heap.size < w3.heap.size := World.block_lt_of_cell? w3 _ q0
    have hzk3 : w3.heap.size ≤ w3.heap.size := q2.size
    refine all_split 4 1 (by decide) ?_ ?_
    · refine all_split 5 4 (by decide) ?_ ?_
      · refine all_seq_core [0, 2, 5, 4, 1, 3, 6, 7] (fun W => W.cell? ⟨w1.heap.size, 0, none⟩ = some (.int .i64 (x)) ∧ W.cell? ⟨w1.heap.size, 1, none⟩ = some (.int .i64 (y)) ∧ Below w.heap.size w W) (Core.trans (addE_core 4 1 _) (addE_core 5 4 _)) (by kernel_rfl) ⟨hS.2.1, hS.2.2.1, hS.2.2.2.2⟩ ?_
        simp only [byNum, List.getElem?_cons_zero, List.getElem?_cons_succ]
        repeat (first
          | ((refine seq_skip (by rfl) (by rfl) ?_); simp only [Act.put, pa, pb, pc])
          | ((refine seq_val (v := ?_) (by rfl) (by rfl) (fun w hS => ?_) ?_); rotate_left; (focus ((try dsimp only at hS); go_simp; (try (with_reducible rfl)); done)); simp only [Act.put, pa, pb, pc]))
        refine seq_deed (v := ?_) (w' := ?_) (by rfl) (by rfl) ?_ ?_
        rotate_left
        rotate_left
        focus (go_simp; (constructor <;> (with_reducible rfl)); done)
        generalize hgw4 : World.alloc w3 _ = w4
        have hb : Below w3.heap.size w3 w4 := by rw [← hgw4]; go_grown
        obtain ⟨n9, n0, n1, n2⟩ := al3 hgw4
        have hT := ai (hq0.below hb) <| ai (kc hb q0) <| ai (kc hb q1) <| ai (gb_below q2 hb) <| ai (n9) <| ai (n0) <| ai (n1) <| ai (n2) <| below_via (hS.2.2.2.2) hb
        clear n9 n0 n1 n2
        clear hS hb hgw4
        have hS := hT
        clear hT
        have hS2 := hS
        obtain ⟨hq0, q0, q1, q2, ⟨f3, fr3⟩, q4, q5, q6, hF⟩ := hS2
        have hgl : w.heap.size + 2 < w4.heap.size := hq0.lt
        have hzw : w.heap.size ≤ w4.heap.size := hF.size
        have hB := hF
        have hz1 : w1.heap.size < w4.heap.size := World.block_lt_of_cell? w4 _ q0
        have hzk4 : w3.heap.size ≤ w4.heap.size := q2.size
        have hz2 : w3.heap.size < w4.heap.size := World.block_lt_of_cell? w4 _ q4
        refine ⟨(fun W => W.cell? ⟨w1.heap.size, 0, none⟩ = some (.int .i64 (x)) ∧ W.cell? ⟨w1.heap.size, 1, none⟩ = some (.int .i64 (y)) ∧ Below w.heap.size w W), ⟨hS.2.1, hS.2.2.1, hS.2.2.2.2.2.2.2.2⟩, (fun W h => h), ?_⟩
        simp only [Act.put, pa, pb, pc]
        repeat (first
          | ((refine seq_skip (by rfl) (by rfl) ?_); simp only [Act.put, pa, pb, pc])
          | ((refine seq_val (v := ?_) (by rfl) (by rfl) (fun w hS => ?_) ?_); rotate_left; (focus ((try dsimp only at hS); go_simp; (try (with_reducible rfl)); done)); simp only [Act.put, pa, pb, pc]))
        refine seq_deed (v := ?_) (w' := ?_) (by rfl) (by rfl) ?_ ?_
        rotate_left
        rotate_left
        focus (go_simp; (constructor <;> (with_reducible rfl)); done)
        generalize hgw5 : World.alloc w4 _ = w5
        have hb : Below w4.heap.size w4 w5 := by rw [← hgw5]; go_grown
        obtain ⟨n9, n0, n1, n2⟩ := al3 hgw5
        have hT := ai (hq0.below hb) <| ai (kc hb q0) <| ai (kc hb q1) <| ai (gb_below q2 hb) <| ai (kf hb f3 fr3) <| ai (kc hb q4) <| ai (kc hb q5) <| ai (kc hb q6) <| ai (n9) <| ai (n0) <| ai (n1) <| ai (n2) <| below_via (hS.2.2.2.2.2.2.2.2) hb
        clear n9 n0 n1 n2
        clear hS hb hgw5
        have hS := hT
        clear hT
        have hS2 := hS
        obtain ⟨hq0, q0, q1, q2, ⟨f3, fr3⟩, q4, q5, q6, ⟨f7, fr7⟩, q8, q9, q10, hF⟩ := hS2
        have hgl : w.heap.size + 2 < w5.heap.size := hq0.lt
        have hzw : w.heap.size ≤ w5.heap.size := hF.size
        have hB := hF
        have hz1 : w1.heap.size < w5.heap.size := World.block_lt_of_cell? w5 _ q0
        have hzk5 : w3.heap.size ≤ w5.heap.size := q2.size
        have hz2 : w3.heap.size < w5.heap.size := World.block_lt_of_cell? w5 _ q4
        have hz3 : w4.heap.size < w5.heap.size := World.block_lt_of_cell? w5 _ q8
        refine ⟨(fun W => W.cell? ⟨w1.heap.size, 0, none⟩ = some (.int .i64 (x)) ∧ W.cell? ⟨w1.heap.size, 1, none⟩ = some (.int .i64 (y)) ∧ Below w.heap.size w W), ⟨hS.2.1, hS.2.2.1, hS.2.2.2.2.2.2.2.2.2.2.2.2⟩, (fun W h => h), ?_⟩
        simp only [Act.put, pa, pb, pc]
        repeat (first
          | ((refine seq_skip (by rfl) (by rfl) ?_); simp only [Act.put, pa, pb, pc])
          | ((refine seq_val (v := ?_) (by rfl) (by rfl) (fun w hS => ?_) ?_); rotate_left; (focus ((try dsimp only at hS); go_simp; (try (with_reducible rfl)); done)); simp only [Act.put, pa, pb, pc]))
        refine seq_call (f := ?_) (args := ?_) (by rfl) (by rfl) ?_ ?_
        rotate_left
        rotate_left
        focus (go_simp; (constructor <;> (with_reducible rfl)); done)
        refine (l7Of_ex x y false (by omega) (by omega) _).mono ?_
        rintro e w6 ⟨a, b, rfl, hb⟩
        have hT := ai (hq0.below hb) <| ai (kc hb q0) <| ai (kc hb q1) <| ai (gb_below q2 hb) <| ai (kf hb f3 fr3) <| ai (kc hb q4) <| ai (kc hb q5) <| ai (kc hb q6) <| ai (kf hb f7 fr7) <| ai (kc hb q8) <| ai (kc hb q9) <| ai (kc hb q10) <| below_via hF hb
        clear hS hb
        have hS := hT
        clear hT
        have hS2 := hS
        obtain ⟨hq0, q0, q1, q2, ⟨f3, fr3⟩, q4, q5, q6, ⟨f7, fr7⟩, q8, q9, q10, hF⟩ := hS2
        have hgl : w.heap.size + 2 < w6.heap.size := hq0.lt
        have hzw : w.heap.size ≤ w6.heap.size := hF.size
        have hB := hF
        have hz1 : w1.heap.size < w6.heap.size := World.block_lt_of_cell? w6 _ q0
        have hzk6 : w3.heap.size ≤ w6.heap.size := q2.size
        have hz2 : w3.heap.size < w6.heap.size := World.block_lt_of_cell? w6 _ q4
        have hz3 : w4.heap.size < w6.heap.size := World.block_lt_of_cell? w6 _ q8
        refine ⟨_, rfl, (fun W => W.cell? ⟨w1.heap.size, 0, none⟩ = some (.int .i64 (x)) ∧ W.cell? ⟨w1.heap.size, 1, none⟩ = some (.int .i64 (y)) ∧ Below w.heap.size w W), ⟨hS.2.1, hS.2.2.1, hS.2.2.2.2.2.2.2.2.2.2.2.2⟩, (fun W h => h), ?_⟩
        simp only [Act.put, pa, pb, pc]
        repeat (first
          | ((refine seq_skip (by rfl) (by rfl) ?_); simp only [Act.put, pa, pb, pc])
          | ((refine seq_val (v := ?_) (by rfl) (by rfl) (fun w hS => ?_) ?_); rotate_left; (focus ((try dsimp only at hS); go_simp; (try (with_reducible rfl)); done)); simp only [Act.put, pa, pb, pc]))
        refine seq_call (f := ?_) (args := ?_) (by rfl) (by rfl) ?_ ?_
        rotate_left
        rotate_left
        focus (go_simp; (constructor <;> (with_reducible rfl)); done)
        refine (l7Of_ex x y true (by omega) (by omega) _).mono ?_
        rintro e w7 ⟨a2, b2, rfl, hb⟩
        have hT := ai (hq0.below hb) <| ai (kc hb q0) <| ai (kc hb q1) <| ai (gb_below q2 hb) <| ai (kf hb f3 fr3) <| ai (kc hb q4) <| ai (kc hb q5) <| ai (kc hb q6) <| ai (kf hb f7 fr7) <| ai (kc hb q8) <| ai (kc hb q9) <| ai (kc hb q10) <| below_via hF hb
        clear hS hb
        have hS := hT
        clear hT
        have hS2 := hS
        obtain ⟨hq0, q0, q1, q2, ⟨f3, fr3⟩, q4, q5, q6, ⟨f7, fr7⟩, q8, q9, q10, hF⟩ := hS2
        have hgl : w.heap.size + 2 < w7.heap.size := hq0.lt
        have hzw : w.heap.size ≤ w7.heap.size := hF.size
        have hB := hF
        have hz1 : w1.heap.size < w7.heap.size := World.block_lt_of_cell? w7 _ q0
        have hzk7 : w3.heap.size ≤ w7.heap.size := q2.size
        have hz2 : w3.heap.size < w7.heap.size := World.block_lt_of_cell? w7 _ q4
        have hz3 : w4.heap.size < w7.heap.size := World.block_lt_of_cell? w7 _ q8
        refine ⟨_, rfl, (fun W => W.cell? ⟨w1.heap.size, 0, none⟩ = some (.int .i64 (x)) ∧ W.cell? ⟨w1.heap.size, 1, none⟩ = some (.int .i64 (y)) ∧ Below w.heap.size w W), ⟨hS.2.1, hS.2.2.1, hS.2.2.2.2.2.2.2.2.2.2.2.2⟩, (fun W h => h), ?_⟩
        simp only [Act.put, pa, pb, pc]
        repeat (first
          | ((refine seq_skip (by rfl) (by rfl) ?_); simp only [Act.put, pa, pb, pc])
          | ((refine seq_val (v := ?_) (by rfl) (by rfl) (fun w hS => ?_) ?_); rotate_left; (focus ((try dsimp only at hS); go_simp; (try (with_reducible rfl)); done)); simp only [Act.put, pa, pb, pc]))
        obtain ⟨w8, hw8⟩ : ∃ W, W = ((w7.setCell ⟨w4.heap.size, 0, none⟩ (.bool false)).setCell ⟨w4.heap.size, 1, none⟩ (.int .i64 a)).setCell ⟨w4.heap.size, 2, none⟩ (.int .i64 b) := ⟨_, rfl⟩
        obtain ⟨dd0, dd1, dd2, dd3, dd4⟩ := box3_sets q8 q9 q10 (.bool false) (.int .i64 a) (.int .i64 b)
        refine seq_store (w' := w8) (by rfl) (by rfl) (by rw [hw8]; go_simp; (try (with_reducible rfl)); done) ?_
        obtain ⟨dw0, dw1, dw2⟩ := s3w hw8 q8 q9 q10
        have hT := ai (s3c hw8 (by omega) hq0) <| ai (s3o hw8 (by omega) q0) <| ai (s3o hw8 (by omega) q1) <| ai (s3g hw8 (by omega) q2) <| ai (s3f hw8 f3 fr3) <| ai (s3o hw8 (by omega) q4) <| ai (s3o hw8 (by omega) q5) <| ai (s3o hw8 (by omega) q6) <| ai (s3f hw8 f7 fr7) <| ai (dw0) <| ai (dw1) <| ai (dw2) <| s3b hw8 (by omega) hF
        clear dw0 dw1 dw2
        (try clear hS)
        have hS := hT
        clear hT dd0 dd1 dd2 dd3 dd4 hw8
        have hS2 := hS
        obtain ⟨hq0, q0, q1, q2, ⟨f3, fr3⟩, q4, q5, q6, ⟨f7, fr7⟩, q8, q9, q10, hF⟩ := hS2
        have hgl : w.heap.size + 2 < w8.heap.size := hq0.lt
        have hzw : w.heap.size ≤ w8.heap.size := hF.size
        have hB := hF
        have hz1 : w1.heap.size < w8.heap.size := World.block_lt_of_cell? w8 _ q0
        have hzk8 : w3.heap.size ≤ w8.heap.size := q2.size
        have hz2 : w3.heap.size < w8.heap.size := World.block_lt_of_cell? w8 _ q4
        have hz3 : w4.heap.size < w8.heap.size := World.block_lt_of_cell? w8 _ q8
        refine ⟨(fun W => W.cell? ⟨w1.heap.size, 0, none⟩ = some (.int .i64 (x)) ∧ W.cell? ⟨w1.heap.size, 1, none⟩ = some (.int .i64 (y)) ∧ Below w.heap.size w W), ⟨hS.2.1, hS.2.2.1, hS.2.2.2.2.2.2.2.2.2.2.2.2⟩, (fun W h => h), ?_⟩
        simp only [Act.put, pa, pb, pc]
        repeat (first
          | ((refine seq_skip (by rfl) (by rfl) ?_); simp only [Act.put, pa, pb, pc])
          | ((refine seq_val (v := ?_) (by rfl) (by rfl) (fun w hS => ?_) ?_); rotate_left; (focus ((try dsimp only at hS); go_simp; (try (with_reducible rfl)); done)); simp only [Act.put, pa, pb, pc]))
        obtain ⟨w9, hw9⟩ : ∃ W, W = ((w8.setCell ⟨w3.heap.size, 0, none⟩ (.bool true)).setCell ⟨w3.heap.size, 1, none⟩ (.int .i64 a2)).setCell ⟨w3.heap.size, 2, none⟩ (.int .i64 b2) := ⟨_, rfl⟩
        obtain ⟨dd0, dd1, dd2, dd3, dd4⟩ := box3_sets q4 q5 q6 (.bool true) (.int .i64 a2) (.int .i64 b2)
        refine seq_store (w' := w9) (by rfl) (by rfl) (by rw [hw9]; go_simp; (try (with_reducible rfl)); done) ?_
        obtain ⟨dw0, dw1, dw2⟩ := s3w hw9 q4 q5 q6
        have hT := ai (s3c hw9 (by omega) hq0) <| ai (s3o hw9 (by omega) q0) <| ai (s3o hw9 (by omega) q1) <| ai (s3g hw9 (by omega) q2) <| ai (s3f hw9 f3 fr3) <| ai (dw0) <| ai (dw1) <| ai (dw2) <| ai (s3f hw9 f7 fr7) <| ai (s3o hw9 (by omega) q8) <| ai (s3o hw9 (by omega) q9) <| ai (s3o hw9 (by omega) q10) <| s3b hw9 (by omega) hF
        clear dw0 dw1 dw2
        (try clear hS)
        have hS := hT
        clear hT dd0 dd1 dd2 dd3 dd4 hw9
        have hS2 := hS
        obtain ⟨hq0, q0, q1, q2, ⟨f3, fr3⟩, q4, q5, q6, ⟨f7, fr7⟩, q8, q9, q10, hF⟩ := hS2
        have hgl : w.heap.size + 2 < w9.heap.size := hq0.lt
        have hzw : w.heap.size ≤ w9.heap.size := hF.size
        have hB := hF
        have hz1 : w1.heap.size < w9.heap.size := World.block_lt_of_cell? w9 _ q0
        have hzk9 : w3.heap.size ≤ w9.heap.size := q2.size
        have hz2 : w3.heap.size < w9.heap.size := World.block_lt_of_cell? w9 _ q4
        have hz3 : w4.heap.size < w9.heap.size := World.block_lt_of_cell? w9 _ q8
        refine ⟨(fun W => W.cell? ⟨w1.heap.size, 0, none⟩ = some (.int .i64 (x)) ∧ W.cell? ⟨w1.heap.size, 1, none⟩ = some (.int .i64 (y)) ∧ Below w.heap.size w W), ⟨hS.2.1, hS.2.2.1, hS.2.2.2.2.2.2.2.2.2.2.2.2⟩, (fun W h => h), ?_⟩
        simp only [Act.put, pa, pb, pc]
        repeat (first
          | ((refine seq_skip (by rfl) (by rfl) ?_); simp only [Act.put, pa, pb, pc])
          | ((refine seq_val (v := ?_) (by rfl) (by rfl) (fun w hS => ?_) ?_); rotate_left; (focus ((try dsimp only at hS); go_simp; (try (with_reducible rfl)); done)); simp only [Act.put, pa, pb, pc]))
        refine seq_nil ?_
        go_wp2_with fail
        go_meet
        case rel => exact ⟨w4.heap.size, w3.heap.size, a, b, a2, b2, rfl, rfl, ⟨by omega, by omega, by omega⟩, hS.1, gf (hS.2.2.2.1) (HK9.out.2.1).1 (HK9.out.2.1).2 (by omega), gc (hS.2.2.2.1) (HK9.out.2.2.1) (by omega), gc (hS.2.2.2.1) (HK9.out.2.2.2.1) (by omega), gc (hS.2.2.2.1) (HK9.out.2.2.2.2.1) (by omega), gf (hS.2.2.2.1) (HK9.out.2.2.2.2.2.1).1 (HK9.out.2.2.2.2.2.1).2 (by omega), gc (hS.2.2.2.1) (HK9.out.2.2.2.2.2.2.1) (by omega), gc (hS.2.2.2.1) (HK9.out.2.2.2.2.2.2.2.1) (by omega), gc (hS.2.2.2.1) (HK9.out.2.2.2.2.2.2.2.2.1) (by omega), hS.2.2.2.2.2.2.2.2.1, hS.2.2.2.2.2.2.2.2.2.1, hS.2.2.2.2.2.2.2.2.2.2.1, hS.2.2.2.2.2.2.2.2.2.2.2.1, hS.2.2.2.2.1, hS.2.2.2.2.2.1, hS.2.2.2.2.2.2.1, hS.2.2.2.2.2.2.2.1, hS.2.2.2.2.2.2.2.2.2.2.2.2⟩
      · refine all_split 5 1 (by decide) ?_ ?_
        · refine all_seq_core [0, 2, 4, 5, 1, 3, 6, 7] (fun W => W.cell? ⟨w1.heap.size, 0, none⟩ = some (.int .i64 (x)) ∧ W.cell? ⟨w1.heap.size, 1, none⟩ = some (.int .i64 (y)) ∧ Below w.heap.size w W) (Core.trans (Core.trans (addE_core 4 1 _) (addE_core 4 5 _)) (addE_core 5 1 _)) (by kernel_rfl) ⟨hS.2.1, hS.2.2.1, hS.2.2.2.2⟩ ?_
          simp only [byNum, List.getElem?_cons_zero, List.getElem?_cons_succ]
          repeat (first
            | ((refine seq_skip (by rfl) (by rfl) ?_); simp only [Act.put, pa, pb, pc])
            | ((refine seq_val (v := ?_) (by rfl) (by rfl) (fun w hS => ?_) ?_); rotate_left; (focus ((try dsimp only at hS); go_simp; (try (with_reducible rfl)); done)); simp only [Act.put, pa, pb, pc]))
          refine seq_deed (v := ?_) (w' := ?_) (by rfl) (by rfl) ?_ ?_
          rotate_left
          rotate_left
          focus (go_simp; (constructor <;> (with_reducible rfl)); done)
          generalize hgw4 : World.alloc w3 _ = w4
          have hb : Below w3.heap.size w3 w4 := by rw [← hgw4]; go_grown
          obtain ⟨n9, n0, n1, n2⟩ := al3 hgw4
          have hT := ai (hq0.below hb) <| ai (kc hb q0) <| ai (kc hb q1) <| ai (gb_below q2 hb) <| ai (n9) <| ai (n0) <| ai (n1) <| ai (n2) <| below_via (hS.2.2.2.2) hb
          clear n9 n0 n1 n2
          clear hS hb hgw4
          have hS := hT
          clear hT
          have hS2 := hS
          obtain ⟨hq0, q0, q1, q2, ⟨f3, fr3⟩, q4, q5, q6, hF⟩ := hS2
          have hgl : w.heap.size + 2 < w4.heap.size := hq0.lt
          have hzw : w.heap.size ≤ w4.heap.size := hF.size
          have hB := hF
          have hz1 : w1.heap.size < w4.heap.size := World.block_lt_of_cell? w4 _ q0
          have hzk4 : w3.heap.size ≤ w4.heap.size := q2.size
          have hz2 : w3.heap.size < w4.heap.size := World.block_lt_of_cell? w4 _ q4
          refine ⟨(fun W => W.cell? ⟨w1.heap.size, 0, none⟩ = some (.int .i64 (x)) ∧ W.cell? ⟨w1.heap.size, 1, none⟩ = some (.int .i64 (y)) ∧ Below w.heap.size w W), ⟨hS.2.1, hS.2.2.1, hS.2.2.2.2.2.2.2.2⟩, (fun W h => h), ?_⟩
          simp only [Act.put, pa, pb, pc]
          repeat (first
            | ((refine seq_skip (by rfl) (by rfl) ?_); simp only [Act.put, pa, pb, pc])
            | ((refine seq_val (v := ?_) (by rfl) (by rfl) (fun w hS => ?_) ?_); rotate_left; (focus ((try dsimp only at hS); go_simp; (try (with_reducible rfl)); done)); simp only [Act.put, pa, pb, pc]))
          refine seq_deed (v := ?_) (w' := ?_) (by rfl) (by rfl) ?_ ?_
          rotate_left
          rotate_left
          focus (go_simp; (constructor <;> (with_reducible rfl)); done)
          generalize hgw5 : World.alloc w4 _ = w5
          have hb : Below w4.heap.size w4 w5 := by rw [← hgw5]; go_grown
          obtain ⟨n9, n0, n1, n2⟩ := al3 hgw5
          have hT := ai (hq0.below hb) <| ai (kc hb q0) <| ai (kc hb q1) <| ai (gb_below q2 hb) <| ai (kf hb f3 fr3) <| ai (kc hb q4) <| ai (kc hb q5) <| ai (kc hb q6) <| ai (n9) <| ai (n0) <| ai (n1) <| ai (n2) <| below_via (hS.2.2.2.2.2.2.2.2) hb
          clear n9 n0 n1 n2
          clear hS hb hgw5
          have hS := hT
          clear hT
          have hS2 := hS
          obtain ⟨hq0, q0, q1, q2, ⟨f3, fr3⟩, q4, q5, q6, ⟨f7, fr7⟩, q8, q9, q10, hF⟩ := hS2
          have hgl : w.heap.size + 2 < w5.heap.size := hq0.lt
          have hzw : w.heap.size ≤ w5.heap.size := hF.size
          have hB := hF
          have hz1 : w1.heap.size < w5.heap.size := World.block_lt_of_cell? w5 _ q0
          have hzk5 : w3.heap.size ≤ w5.heap.size := q2.size
          have hz2 : w3.heap.size < w5.heap.size := World.block_lt_of_cell? w5 _ q4
          have hz3 : w4.heap.size < w5.heap.size := World.block_lt_of_cell? w5 _ q8
          refine ⟨(fun W => W.cell? ⟨w1.heap.size, 0, none⟩ = some (.int .i64 (x)) ∧ W.cell? ⟨w1.heap.size, 1, none⟩ = some (.int .i64 (y)) ∧ Below w.heap.size w W), ⟨hS.2.1, hS.2.2.1, hS.2.2.2.2.2.2.2.2.2.2.2.2⟩, (fun W h => h), ?_⟩
          simp only [Act.put, pa, pb, pc]
          repeat (first
            | ((refine seq_skip (by rfl) (by rfl) ?_); simp only [Act.put, pa, pb, pc])
            | ((refine seq_val (v := ?_) (by rfl) (by rfl) (fun w hS => ?_) ?_); rotate_left; (focus ((try dsimp only at hS); go_simp; (try (with_reducible rfl)); done)); simp only [Act.put, pa, pb, pc]))
          refine seq_call (f := ?_) (args := ?_) (by rfl) (by rfl) ?_ ?_
          rotate_left
          rotate_left
          focus (go_simp; (constructor <;> (with_reducible rfl)); done)
          refine (l7Of_ex x y false (by omega) (by omega) _).mono ?_
          rintro e w6 ⟨a, b, rfl, hb⟩
          have hT := ai (hq0.below hb) <| ai (kc hb q0) <| ai (kc hb q1) <| ai (gb_below q2 hb) <| ai (kf hb f3 fr3) <| ai (kc hb q4) <| ai (kc hb q5) <| ai (kc hb q6) <| ai (kf hb f7 fr7) <| ai (kc hb q8) <| ai (kc hb q9) <| ai (kc hb q10) <| below_via hF hb
          clear hS hb
          have hS := hT
          clear hT
          have hS2 := hS
          obtain ⟨hq0, q0, q1, q2, ⟨f3, fr3⟩, q4, q5, q6, ⟨f7, fr7⟩, q8, q9, q10, hF⟩ := hS2
          have hgl : w.heap.size + 2 < w6.heap.size := hq0.lt
          have hzw : w.heap.size ≤ w6.heap.size := hF.size
          have hB := hF
          have hz1 : w1.heap.size < w6.heap.size := World.block_lt_of_cell? w6 _ q0
          have hzk6 : w3.heap.size ≤ w6.heap.size := q2.size
          have hz2 : w3.heap.size < w6.heap.size := World.block_lt_of_cell? w6 _ q4
          have hz3 : w4.heap.size < w6.heap.size := World.block_lt_of_cell? w6 _ q8
          refine ⟨_, rfl, (fun W => W.cell? ⟨w1.heap.size, 0, none⟩ = some (.int .i64 (x)) ∧ W.cell? ⟨w1.heap.size, 1, none⟩ = some (.int .i64 (y)) ∧ Below w.heap.size w W), ⟨hS.2.1, hS.2.2.1, hS.2.2.2.2.2.2.2.2.2.2.2.2⟩, (fun W h => h), ?_⟩
          simp only [Act.put, pa, pb, pc]
          repeat (first
            | ((refine seq_skip (by rfl) (by rfl) ?_); simp only [Act.put, pa, pb, pc])
            | ((refine seq_val (v := ?_) (by rfl) (by rfl) (fun w hS => ?_) ?_); rotate_left; (focus ((try dsimp only at hS); go_simp; (try (with_reducible rfl)); done)); simp only [Act.put, pa, pb, pc]))
          refine seq_call (f := ?_) (args := ?_) (by rfl) (by rfl) ?_ ?_
          rotate_left
          rotate_left
          focus (go_simp; (constructor <;> (with_reducible rfl)); done)
          refine (l7Of_ex x y true (by omega) (by omega) _).mono ?_
          rintro e w7 ⟨a2, b2, rfl, hb⟩
          have hT := ai (hq0.below hb) <| ai (kc hb q0) <| ai (kc hb q1) <| ai (gb_below q2 hb) <| ai (kf hb f3 fr3) <| ai (kc hb q4) <| ai (kc hb q5) <| ai (kc hb q6) <| ai (kf hb f7 fr7) <| ai (kc hb q8) <| ai (kc hb q9) <| ai (kc hb q10) <| below_via hF hb
          clear hS hb
          have hS := hT
          clear hT
          have hS2 := hS
          obtain ⟨hq0, q0, q1, q2, ⟨f3, fr3⟩, q4, q5, q6, ⟨f7, fr7⟩, q8, q9, q10, hF⟩ := hS2
          have hgl : w.heap.size + 2 < w7.heap.size := hq0.lt
          have hzw : w.heap.size ≤ w7.heap.size := hF.size
          have hB := hF
          have hz1 : w1.heap.size < w7.heap.size := World.block_lt_of_cell? w7 _ q0
          have hzk7 : w3.heap.size ≤ w7.heap.size := q2.size
          have hz2 : w3.heap.size < w7.heap.size := World.block_lt_of_cell? w7 _ q4
          have hz3 : w4.heap.size < w7.heap.size := World.block_lt_of_cell? w7 _ q8
          refine ⟨_, rfl, (fun W => W.cell? ⟨w1.heap.size, 0, none⟩ = some (.int .i64 (x)) ∧ W.cell? ⟨w1.heap.size, 1, none⟩ = some (.int .i64 (y)) ∧ Below w.heap.size w W), ⟨hS.2.1, hS.2.2.1, hS.2.2.2.2.2.2.2.2.2.2.2.2⟩, (fun W h => h), ?_⟩
          simp only [Act.put, pa, pb, pc]
          repeat (first
            | ((refine seq_skip (by rfl) (by rfl) ?_); simp only [Act.put, pa, pb, pc])
            | ((refine seq_val (v := ?_) (by rfl) (by rfl) (fun w hS => ?_) ?_); rotate_left; (focus ((try dsimp only at hS); go_simp; (try (with_reducible rfl)); done)); simp only [Act.put, pa, pb, pc]))
          obtain ⟨w8, hw8⟩ : ∃ W, W = ((w7.setCell ⟨w3.heap.size, 0, none⟩ (.bool false)).setCell ⟨w3.heap.size, 1, none⟩ (.int .i64 a)).setCell ⟨w3.heap.size, 2, none⟩ (.int .i64 b) := ⟨_, rfl⟩
          obtain ⟨dd0, dd1, dd2, dd3, dd4⟩ := box3_sets q4 q5 q6 (.bool false) (.int .i64 a) (.int .i64 b)
          refine seq_store (w' := w8) (by rfl) (by rfl) (by rw [hw8]; go_simp; (try (with_reducible rfl)); done) ?_
          obtain ⟨dw0, dw1, dw2⟩ := s3w hw8 q4 q5 q6
          have hT := ai (s3c hw8 (by omega) hq0) <| ai (s3o hw8 (by omega) q0) <| ai (s3o hw8 (by omega) q1) <| ai (s3g hw8 (by omega) q2) <| ai (s3f hw8 f3 fr3) <| ai (dw0) <| ai (dw1) <| ai (dw2) <| ai (s3f hw8 f7 fr7) <| ai (s3o hw8 (by omega) q8) <| ai (s3o hw8 (by omega) q9) <| ai (s3o hw8 (by omega) q10) <| s3b hw8 (by omega) hF
          clear dw0 dw1 dw2
          (try clear hS)
          have hS := hT
          clear hT dd0 dd1 dd2 dd3 dd4 hw8
          have hS2 := hS
          obtain ⟨hq0, q0, q1, q2, ⟨f3, fr3⟩, q4, q5, q6, ⟨f7, fr7⟩, q8, q9, q10, hF⟩ := hS2
          have hgl : w.heap.size + 2 < w8.heap.size := hq0.lt
          have hzw : w.heap.size ≤ w8.heap.size := hF.size
          have hB := hF
          have hz1 : w1.heap.size < w8.heap.size := World.block_lt_of_cell? w8 _ q0
          have hzk8 : w3.heap.size ≤ w8.heap.size := q2.size
          have hz2 : w3.heap.size < w8.heap.size := World.block_lt_of_cell? w8 _ q4
          have hz3 : w4.heap.size < w8.heap.size := World.block_lt_of_cell? w8 _ q8
          refine ⟨(fun W => W.cell? ⟨w1.heap.size, 0, none⟩ = some (.int .i64 (x)) ∧ W.cell? ⟨w1.heap.size, 1, none⟩ = some (.int .i64 (y)) ∧ Below w.heap.size w W), ⟨hS.2.1, hS.2.2.1, hS.2.2.2.2.2.2.2.2.2.2.2.2⟩, (fun W h => h), ?_⟩
          simp only [Act.put, pa, pb, pc]
          repeat (first
            | ((refine seq_skip (by rfl) (by rfl) ?_); simp only [Act.put, pa, pb, pc])
            | ((refine seq_val (v := ?_) (by rfl) (by rfl) (fun w hS => ?_) ?_); rotate_left; (focus ((try dsimp only at hS); go_simp; (try (with_reducible rfl)); done)); simp only [Act.put, pa, pb, pc]))
          obtain ⟨w9, hw9⟩ : ∃ W, W = ((w8.setCell ⟨w4.heap.size, 0, none⟩ (.bool true)).setCell ⟨w4.heap.size, 1, none⟩ (.int .i64 a2)).setCell ⟨w4.heap.size, 2, none⟩ (.int .i64 b2) := ⟨_, rfl⟩
          obtain ⟨dd0, dd1, dd2, dd3, dd4⟩ := box3_sets q8 q9 q10 (.bool true) (.int .i64 a2) (.int .i64 b2)
          refine seq_store (w' := w9) (by rfl) (by rfl) (by rw [hw9]; go_simp; (try (with_reducible rfl)); done) ?_
          obtain ⟨dw0, dw1, dw2⟩ := s3w hw9 q8 q9 q10
          have hT := ai (s3c hw9 (by omega) hq0) <| ai (s3o hw9 (by omega) q0) <| ai (s3o hw9 (by omega) q1) <| ai (s3g hw9 (by omega) q2) <| ai (s3f hw9 f3 fr3) <| ai (s3o hw9 (by omega) q4) <| ai (s3o hw9 (by omega) q5) <| ai (s3o hw9 (by omega) q6) <| ai (s3f hw9 f7 fr7) <| ai (dw0) <| ai (dw1) <| ai (dw2) <| s3b hw9 (by omega) hF
          clear dw0 dw1 dw2
          (try clear hS)
          have hS := hT
          clear hT dd0 dd1 dd2 dd3 dd4 hw9
          have hS2 := hS
          obtain ⟨hq0, q0, q1, q2, ⟨f3, fr3⟩, q4, q5, q6, ⟨f7, fr7⟩, q8, q9, q10, hF⟩ := hS2
          have hgl : w.heap.size + 2 < w9.heap.size := hq0.lt
          have hzw : w.heap.size ≤ w9.heap.size := hF.size
          have hB := hF
          have hz1 : w1.heap.size < w9.heap.size := World.block_lt_of_cell? w9 _ q0
          have hzk9 : w3.heap.size ≤ w9.heap.size := q2.size
          have hz2 : w3.heap.size < w9.heap.size := World.block_lt_of_cell? w9 _ q4
          have hz3 : w4.heap.size < w9.heap.size := World.block_lt_of_cell? w9 _ q8
          refine ⟨(fun W => W.cell? ⟨w1.heap.size, 0, none⟩ = some (.int .i64 (x)) ∧ W.cell? ⟨w1.heap.size, 1, none⟩ = some (.int .i64 (y)) ∧ Below w.heap.size w W), ⟨hS.2.1, hS.2.2.1, hS.2.2.2.2.2.2.2.2.2.2.2.2⟩, (fun W h => h), ?_⟩
          simp only [Act.put, pa, pb, pc]
          repeat (first
            | ((refine seq_skip (by rfl) (by rfl) ?_); simp only [Act.put, pa, pb, pc])
            | ((refine seq_val (v := ?_) (by rfl) (by rfl) (fun w hS => ?_) ?_); rotate_left; (focus ((try dsimp only at hS); go_simp; (try (with_reducible rfl)); done)); simp only [Act.put, pa, pb, pc]))
          refine seq_nil ?_
          go_wp2_with fail
          go_meet
          case rel => exact ⟨w3.heap.size, w4.heap.size, a, b, a2, b2, rfl, rfl, ⟨by omega, by omega, by omega⟩, hS.1, gf (hS.2.2.2.1) (HK9.out.2.1).1 (HK9.out.2.1).2 (by omega), gc (hS.2.2.2.1) (HK9.out.2.2.1) (by omega), gc (hS.2.2.2.1) (HK9.out.2.2.2.1) (by omega), gc (hS.2.2.2.1) (HK9.out.2.2.2.2.1) (by omega), gf (hS.2.2.2.1) (HK9.out.2.2.2.2.2.1).1 (HK9.out.2.2.2.2.2.1).2 (by omega), gc (hS.2.2.2.1) (HK9.out.2.2.2.2.2.2.1) (by omega), gc (hS.2.2.2.1) (HK9.out.2.2.2.2.2.2.2.1) (by omega), gc (hS.2.2.2.1) (HK9.out.2.2.2.2.2.2.2.2.1) (by omega), hS.2.2.2.2.1, hS.2.2.2.2.2.1, hS.2.2.2.2.2.2.1, hS.2.2.2.2.2.2.2.1, hS.2.2.2.2.2.2.2.2.1, hS.2.2.2.2.2.2.2.2.2.1, hS.2.2.2.2.2.2.2.2.2.2.1, hS.2.2.2.2.2.2.2.2.2.2.2.1, hS.2.2.2.2.2.2.2.2.2.2.2.2⟩
        · refine all_split 5 3 (by decide) ?_ ?_
          · refine all_seq_core [0, 2, 4, 1, 5, 3, 6, 7] (fun W => W.cell? ⟨w1.heap.size, 0, none⟩ = some (.int .i64 (x)) ∧ W.cell? ⟨w1.heap.size, 1, none⟩ = some (.int .i64 (y)) ∧ Below w.heap.size w W) (Core.trans (Core.trans (Core.trans (addE_core 4 1 _) (addE_core 4 5 _)) (addE_core 1 5 _)) (addE_core 5 3 _)) (by kernel_rfl) ⟨hS.2.1, hS.2.2.1, hS.2.2.2.2⟩ ?_
            simp only [byNum, List.getElem?_cons_zero, List.getElem?_cons_succ]
            repeat (first
              | ((refine seq_skip (by rfl) (by rfl) ?_); simp only [Act.put, pa, pb, pc])
              | ((refine seq_val (v := ?_) (by rfl) (by rfl) (fun w hS => ?_) ?_); rotate_left; (focus ((try dsimp only at hS); go_simp; (try (with_reducible rfl)); done)); simp only [Act.put, pa, pb, pc]))
            refine seq_deed (v := ?_) (w' := ?_) (by rfl) (by rfl) ?_ ?_
            rotate_left
            rotate_left
            focus (go_simp; (constructor <;> (with_reducible rfl)); done)
            generalize hgw4 : World.alloc w3 _ = w4
            have hb : Below w3.heap.size w3 w4 := by rw [← hgw4]; go_grown
            obtain ⟨n9, n0, n1, n2⟩ := al3 hgw4
            have hT := ai (hq0.below hb) <| ai (kc hb q0) <| ai (kc hb q1) <| ai (gb_below q2 hb) <| ai (n9) <| ai (n0) <| ai (n1) <| ai (n2) <| below_via (hS.2.2.2.2) hb
            clear n9 n0 n1 n2
            clear hS hb hgw4
            have hS := hT
            clear hT
            have hS2 := hS
            obtain ⟨hq0, q0, q1, q2, ⟨f3, fr3⟩, q4, q5, q6, hF⟩ := hS2
            have hgl : w.heap.size + 2 < w4.heap.size := hq0.lt
            have hzw : w.heap.size ≤ w4.heap.size := hF.size
            have hB := hF
            have hz1 : w1.heap.size < w4.heap.size := World.block_lt_of_cell? w4 _ q0
            have hzk4 : w3.heap.size ≤ w4.heap.size := q2.size
            have hz2 : w3.heap.size < w4.heap.size := World.block_lt_of_cell? w4 _ q4
            refine ⟨(fun W => W.cell? ⟨w1.heap.size, 0, none⟩ = some (.int .i64 (x)) ∧ W.cell? ⟨w1.heap.size, 1, none⟩ = some (.int .i64 (y)) ∧ Below w.heap.size w W), ⟨hS.2.1, hS.2.2.1, hS.2.2.2.2.2.2.2.2⟩, (fun W h => h), ?_⟩
            simp only [Act.put, pa, pb, pc]
            repeat (first
              | ((refine seq_skip (by rfl) (by rfl) ?_); simp only [Act.put, pa, pb, pc])
              | ((refine seq_val (v := ?_) (by rfl) (by rfl) (fun w hS => ?_) ?_); rotate_left; (focus ((try dsimp only at hS); go_simp; (try (with_reducible rfl)); done)); simp only [Act.put, pa, pb, pc]))
            refine seq_call (f := ?_) (args := ?_) (by rfl) (by rfl) ?_ ?_
            rotate_left
            rotate_left
            focus (go_simp; (constructor <;> (with_reducible rfl)); done)
            refine (l7Of_ex x y false (by omega) (by omega) _).mono ?_
            rintro e w5 ⟨a, b, rfl, hb⟩
            have hT := ai (hq0.below hb) <| ai (kc hb q0) <| ai (kc hb q1) <| ai (gb_below q2 hb) <| ai (kf hb f3 fr3) <| ai (kc hb q4) <| ai (kc hb q5) <| ai (kc hb q6) <| below_via hF hb
            clear hS hb
            have hS := hT
            clear hT
            have hS2 := hS
            obtain ⟨hq0, q0, q1, q2, ⟨f3, fr3⟩, q4, q5, q6, hF⟩ := hS2
            have hgl : w.heap.size + 2 < w5.heap.size := hq0.lt
            have hzw : w.heap.size ≤ w5.heap.size := hF.size
            have hB := hF
            have hz1 : w1.heap.size < w5.heap.size := World.block_lt_of_cell? w5 _ q0
            have hzk5 : w3.heap.size ≤ w5.heap.size := q2.size
            have hz2 : w3.heap.size < w5.heap.size := World.block_lt_of_cell? w5 _ q4
            refine ⟨_, rfl, (fun W => W.cell? ⟨w1.heap.size, 0, none⟩ = some (.int .i64 (x)) ∧ W.cell? ⟨w1.heap.size, 1, none⟩ = some (.int .i64 (y)) ∧ Below w.heap.size w W), ⟨hS.2.1, hS.2.2.1, hS.2.2.2.2.2.2.2.2⟩, (fun W h => h), ?_⟩
            simp only [Act.put, pa, pb, pc]
            repeat (first
              | ((refine seq_skip (by rfl) (by rfl) ?_); simp only [Act.put, pa, pb, pc])
              | ((refine seq_val (v := ?_) (by rfl) (by rfl) (fun w hS => ?_) ?_); rotate_left; (focus ((try dsimp only at hS); go_simp; (try (with_reducible rfl)); done)); simp only [Act.put, pa, pb, pc]))
            refine seq_deed (v := ?_) (w' := ?_) (by rfl) (by rfl) ?_ ?_
            rotate_left
            rotate_left
            focus (go_simp; (constructor <;> (with_reducible rfl)); done)
            generalize hgw6 : World.alloc w5 _ = w6
            have hb : Below w5.heap.size w5 w6 := by rw [← hgw6]; go_grown
            obtain ⟨n9, n0, n1, n2⟩ := al3 hgw6
            have hT := ai (hq0.below hb) <| ai (kc hb q0) <| ai (kc hb q1) <| ai (gb_below q2 hb) <| ai (kf hb f3 fr3) <| ai (kc hb q4) <| ai (kc hb q5) <| ai (kc hb q6) <| ai (n9) <| ai (n0) <| ai (n1) <| ai (n2) <| below_via (hS.2.2.2.2.2.2.2.2) hb
            clear n9 n0 n1 n2
            clear hS hb hgw6
            have hS := hT
            clear hT
            have hS2 := hS
            obtain ⟨hq0, q0, q1, q2, ⟨f3, fr3⟩, q4, q5, q6, ⟨f7, fr7⟩, q8, q9, q10, hF⟩ := hS2
            have hgl : w.heap.size + 2 < w6.heap.size := hq0.lt
            have hzw : w.heap.size ≤ w6.heap.size := hF.size
            have hB := hF
            have hz1 : w1.heap.size < w6.heap.size := World.block_lt_of_cell? w6 _ q0
            have hzk6 : w3.heap.size ≤ w6.heap.size := q2.size
            have hz2 : w3.heap.size < w6.heap.size := World.block_lt_of_cell? w6 _ q4
            have hz3 : w5.heap.size < w6.heap.size := World.block_lt_of_cell? w6 _ q8
            refine ⟨(fun W => W.cell? ⟨w1.heap.size, 0, none⟩ = some (.int .i64 (x)) ∧ W.cell? ⟨w1.heap.size, 1, none⟩ = some (.int .i64 (y)) ∧ Below w.heap.size w W), ⟨hS.2.1, hS.2.2.1, hS.2.2.2.2.2.2.2.2.2.2.2.2⟩, (fun W h => h), ?_⟩
            simp only [Act.put, pa, pb, pc]
            repeat (first
              | ((refine seq_skip (by rfl) (by rfl) ?_); simp only [Act.put, pa, pb, pc])
              | ((refine seq_val (v := ?_) (by rfl) (by rfl) (fun w hS => ?_) ?_); rotate_left; (focus ((try dsimp only at hS); go_simp; (try (with_reducible rfl)); done)); simp only [Act.put, pa, pb, pc]))
            refine seq_call (f := ?_) (args := ?_) (by rfl) (by rfl) ?_ ?_
            rotate_left
            rotate_left
            focus (go_simp; (constructor <;> (with_reducible rfl)); done)
            refine (l7Of_ex x y true (by omega) (by omega) _).mono ?_
            rintro e w7 ⟨a2, b2, rfl, hb⟩
            have hT := ai (hq0.below hb) <| ai (kc hb q0) <| ai (kc hb q1) <| ai (gb_below q2 hb) <| ai (kf hb f3 fr3) <| ai (kc hb q4) <| ai (kc hb q5) <| ai (kc hb q6) <| ai (kf hb f7 fr7) <| ai (kc hb q8) <| ai (kc hb q9) <| ai (kc hb q10) <| below_via hF hb
            clear hS hb
            have hS := hT
            clear hT
            have hS2 := hS
            obtain ⟨hq0, q0, q1, q2, ⟨f3, fr3⟩, q4, q5, q6, ⟨f7, fr7⟩, q8, q9, q10, hF⟩ := hS2
            have hgl : w.heap.size + 2 < w7.heap.size := hq0.lt
            have hzw : w.heap.size ≤ w7.heap.size := hF.size
            have hB := hF
            have hz1 : w1.heap.size < w7.heap.size := World.block_lt_of_cell? w7 _ q0
            have hzk7 : w3.heap.size ≤ w7.heap.size := q2.size
            have hz2 : w3.heap.size < w7.heap.size := World.block_lt_of_cell? w7 _ q4
            have hz3 : w5.heap.size < w7.heap.size := World.block_lt_of_cell? w7 _ q8
            refine ⟨_, rfl, (fun W => W.cell? ⟨w1.heap.size, 0, none⟩ = some (.int .i64 (x)) ∧ W.cell? ⟨w1.heap.size, 1, none⟩ = some (.int .i64 (y)) ∧ Below w.heap.size w W), ⟨hS.2.1, hS.2.2.1, hS.2.2.2.2.2.2.2.2.2.2.2.2⟩, (fun W h => h), ?_⟩
            simp only [Act.put, pa, pb, pc]
            repeat (first
              | ((refine seq_skip (by rfl) (by rfl) ?_); simp only [Act.put, pa, pb, pc])
              | ((refine seq_val (v := ?_) (by rfl) (by rfl) (fun w hS => ?_) ?_); rotate_left; (focus ((try dsimp only at hS); go_simp; (try (with_reducible rfl)); done)); simp only [Act.put, pa, pb, pc]))
            obtain ⟨w8, hw8⟩ : ∃ W, W = ((w7.setCell ⟨w3.heap.size, 0, none⟩ (.bool false)).setCell ⟨w3.heap.size, 1, none⟩ (.int .i64 a)).setCell ⟨w3.heap.size, 2, none⟩ (.int .i64 b) := ⟨_, rfl⟩
            obtain ⟨dd0, dd1, dd2, dd3, dd4⟩ := box3_sets q4 q5 q6 (.bool false) (.int .i64 a) (.int .i64 b)
            refine seq_store (w' := w8) (by rfl) (by rfl) (by rw [hw8]; go_simp; (try (with_reducible rfl)); done) ?_
            obtain ⟨dw0, dw1, dw2⟩ := s3w hw8 q4 q5 q6
            have hT := ai (s3c hw8 (by omega) hq0) <| ai (s3o hw8 (by omega) q0) <| ai (s3o hw8 (by omega) q1) <| ai (s3g hw8 (by omega) q2) <| ai (s3f hw8 f3 fr3) <| ai (dw0) <| ai (dw1) <| ai (dw2) <| ai (s3f hw8 f7 fr7) <| ai (s3o hw8 (by omega) q8) <| ai (s3o hw8 (by omega) q9) <| ai (s3o hw8 (by omega) q10) <| s3b hw8 (by omega) hF
            clear dw0 dw1 dw2
            (try clear hS)
            have hS := hT
            clear hT dd0 dd1 dd2 dd3 dd4 hw8
            have hS2 := hS
            obtain ⟨hq0, q0, q1, q2, ⟨f3, fr3⟩, q4, q5, q6, ⟨f7, fr7⟩, q8, q9, q10, hF⟩ := hS2
            have hgl : w.heap.size + 2 < w8.heap.size := hq0.lt
            have hzw : w.heap.size ≤ w8.heap.size := hF.size
            have hB := hF
            have hz1 : w1.heap.size < w8.heap.size := World.block_lt_of_cell? w8 _ q0
            have hzk8 : w3.heap.size ≤ w8.heap.size := q2.size
            have hz2 : w3.heap.size < w8.heap.size := World.block_lt_of_cell? w8 _ q4
            have hz3 : w5.heap.size < w8.heap.size := World.block_lt_of_cell? w8 _ q8
            refine ⟨(fun W => W.cell? ⟨w1.heap.size, 0, none⟩ = some (.int .i64 (x)) ∧ W.cell? ⟨w1.heap.size, 1, none⟩ = some (.int .i64 (y)) ∧ Below w.heap.size w W), ⟨hS.2.1, hS.2.2.1, hS.2.2.2.2.2.2.2.2.2.2.2.2⟩, (fun W h => h), ?_⟩
            simp only [Act.put, pa, pb, pc]
            repeat (first
              | ((refine seq_skip (by rfl) (by rfl) ?_); simp only [Act.put, pa, pb, pc])
              | ((refine seq_val (v := ?_) (by rfl) (by rfl) (fun w hS => ?_) ?_); rotate_left; (focus ((try dsimp only at hS); go_simp; (try (with_reducible rfl)); done)); simp only [Act.put, pa, pb, pc]))
            obtain ⟨w9, hw9⟩ : ∃ W, W = ((w8.setCell ⟨w5.heap.size, 0, none⟩ (.bool true)).setCell ⟨w5.heap.size, 1, none⟩ (.int .i64 a2)).setCell ⟨w5.heap.size, 2, none⟩ (.int .i64 b2) := ⟨_, rfl⟩
            obtain ⟨dd0, dd1, dd2, dd3, dd4⟩ := box3_sets q8 q9 q10 (.bool true) (.int .i64 a2) (.int .i64 b2)
            refine seq_store (w' := w9) (by rfl) (by rfl) (by rw [hw9]; go_simp; (try (with_reducible rfl)); done) ?_
            obtain ⟨dw0, dw1, dw2⟩ := s3w hw9 q8 q9 q10
            have hT := ai (s3c hw9 (by omega) hq0) <| ai (s3o hw9 (by omega) q0) <| ai (s3o hw9 (by omega) q1) <| ai (s3g hw9 (by omega) q2) <| ai (s3f hw9 f3 fr3) <| ai (s3o hw9 (by omega) q4) <| ai (s3o hw9 (by omega) q5) <| ai (s3o hw9 (by omega) q6) <| ai (s3f hw9 f7 fr7) <| ai (dw0) <| ai (dw1) <| ai (dw2) <| s3b hw9 (by omega) hF
            clear dw0 dw1 dw2
            (try clear hS)
            have hS := hT
            clear hT dd0 dd1 dd2 dd3 dd4 hw9
            have hS2 := hS
            obtain ⟨hq0, q0, q1, q2, ⟨f3, fr3⟩, q4, q5, q6, ⟨f7, fr7⟩, q8, q9, q10, hF⟩ := hS2
            have hgl : w.heap.size + 2 < w9.heap.size := hq0.lt
            have hzw : w.heap.size ≤ w9.heap.size := hF.size
            have hB := hF
            have hz1 : w1.heap.size < w9.heap.size := World.block_lt_of_cell? w9 _ q0
            have hzk9 : w3.heap.size ≤ w9.heap.size := q2.size
            have hz2 : w3.heap.size < w9.heap.size := World.block_lt_of_cell? w9 _ q4
            have hz3 : w5.heap.size < w9.heap.size := World.block_lt_of_cell? w9 _ q8
            refine ⟨(fun W => W.cell? ⟨w1.heap.size, 0, none⟩ = some (.int .i64 (x)) ∧ W.cell? ⟨w1.heap.size, 1, none⟩ = some (.int .i64 (y)) ∧ Below w.heap.size w W), ⟨hS.2.1, hS.2.2.1, hS.2.2.2.2.2.2.2.2.2.2.2.2⟩, (fun W h => h), ?_⟩
            simp only [Act.put, pa, pb, pc]
            repeat (first
              | ((refine seq_skip (by rfl) (by rfl) ?_); simp only [Act.put, pa, pb, pc])
              | ((refine seq_val (v := ?_) (by rfl) (by rfl) (fun w hS => ?_) ?_); rotate_left; (focus ((try dsimp only at hS); go_simp; (try (with_reducible rfl)); done)); simp only [Act.put, pa, pb, pc]))
            refine seq_nil ?_
            go_wp2_with fail
            go_meet
            case rel => exact ⟨w3.heap.size, w5.heap.size, a, b, a2, b2, rfl, rfl, ⟨by omega, by omega, by omega⟩, hS.1, gf (hS.2.2.2.1) (HK9.out.2.1).1 (HK9.out.2.1).2 (by omega), gc (hS.2.2.2.1) (HK9.out.2.2.1) (by omega), gc (hS.2.2.2.1) (HK9.out.2.2.2.1) (by omega), gc (hS.2.2.2.1) (HK9.out.2.2.2.2.1) (by omega), gf (hS.2.2.2.1) (HK9.out.2.2.2.2.2.1).1 (HK9.out.2.2.2.2.2.1).2 (by omega), gc (hS.2.2.2.1) (HK9.out.2.2.2.2.2.2.1) (by omega), gc (hS.2.2.2.1) (HK9.out.2.2.2.2.2.2.2.1) (by omega), gc (hS.2.2.2.1) (HK9.out.2.2.2.2.2.2.2.2.1) (by omega), hS.2.2.2.2.1, hS.2.2.2.2.2.1, hS.2.2.2.2.2.2.1, hS.2.2.2.2.2.2.2.1, hS.2.2.2.2.2.2.2.2.1, hS.2.2.2.2.2.2.2.2.2.1, hS.2.2.2.2.2.2.2.2.2.2.1, hS.2.2.2.2.2.2.2.2.2.2.2.1, hS.2.2.2.2.2.2.2.2.2.2.2.2⟩
          · refine all_seq_core [0, 2, 4, 1, 3, 5, 6, 7] (fun W => W.cell? ⟨w1.heap.size, 0, none⟩ = some (.int .i64 (x)) ∧ W.cell? ⟨w1.heap.size, 1, none⟩ = some (.int .i64 (y)) ∧ Below w.heap.size w W) (Core.trans (Core.trans (Core.trans (addE_core 4 1 _) (addE_core 4 5 _)) (addE_core 1 5 _)) (addE_core 3 5 _)) (by kernel_rfl) ⟨hS.2.1, hS.2.2.1, hS.2.2.2.2⟩ ?_
            simp only [byNum, List.getElem?_cons_zero, List.getElem?_cons_succ]
            repeat (first
              | ((refine seq_skip (by rfl) (by rfl) ?_); simp only [Act.put, pa, pb, pc])
              | ((refine seq_val (v := ?_) (by rfl) (by rfl) (fun w hS => ?_) ?_); rotate_left; (focus ((try dsimp only at hS); go_simp; (try (with_reducible rfl)); done)); simp only [Act.put, pa, pb, pc]))
            refine seq_deed (v := ?_) (w' := ?_) (by rfl) (by rfl) ?_ ?_
            rotate_left
            rotate_left
            focus (go_simp; (constructor <;> (with_reducible rfl)); done)
            generalize hgw4 : World.alloc w3 _ = w4
            have hb : Below w3.heap.size w3 w4 := by rw [← hgw4]; go_grown
            obtain ⟨n9, n0, n1, n2⟩ := al3 hgw4
            have hT := ai (hq0.below hb) <| ai (kc hb q0) <| ai (kc hb q1) <| ai (gb_below q2 hb) <| ai (n9) <| ai (n0) <| ai (n1) <| ai (n2) <| below_via (hS.2.2.2.2) hb
            clear n9 n0 n1 n2
            clear hS hb hgw4
            have hS := hT
            clear hT
            have hS2 := hS
            obtain ⟨hq0, q0, q1, q2, ⟨f3, fr3⟩, q4, q5, q6, hF⟩ := hS2
            have hgl : w.heap.size + 2 < w4.heap.size := hq0.lt
            have hzw : w.heap.size ≤ w4.heap.size := hF.size
            have hB := hF
            have hz1 : w1.heap.size < w4.heap.size := World.block_lt_of_cell? w4 _ q0
            have hzk4 : w3.heap.size ≤ w4.heap.size := q2.size
            have hz2 : w3.heap.size < w4.heap.size := World.block_lt_of_cell? w4 _ q4
            refine ⟨(fun W => W.cell? ⟨w1.heap.size, 0, none⟩ = some (.int .i64 (x)) ∧ W.cell? ⟨w1.heap.size, 1, none⟩ = some (.int .i64 (y)) ∧ Below w.heap.size w W), ⟨hS.2.1, hS.2.2.1, hS.2.2.2.2.2.2.2.2⟩, (fun W h => h), ?_⟩
            simp only [Act.put, pa, pb, pc]
            repeat (first
              | ((refine seq_skip (by rfl) (by rfl) ?_); simp only [Act.put, pa, pb, pc])
              | ((refine seq_val (v := ?_) (by rfl) (by rfl) (fun w hS => ?_) ?_); rotate_left; (focus ((try dsimp only at hS); go_simp; (try (with_reducible rfl)); done)); simp only [Act.put, pa, pb, pc]))
            refine seq_call (f := ?_) (args := ?_) (by rfl) (by rfl) ?_ ?_
            rotate_left
            rotate_left
            focus (go_simp; (constructor <;> (with_reducible rfl)); done)
            refine (l7Of_ex x y false (by omega) (by omega) _).mono ?_
            rintro e w5 ⟨a, b, rfl, hb⟩
            have hT := ai (hq0.below hb) <| ai (kc hb q0) <| ai (kc hb q1) <| ai (gb_below q2 hb) <| ai (kf hb f3 fr3) <| ai (kc hb q4) <| ai (kc hb q5) <| ai (kc hb q6) <| below_via hF hb
            clear hS hb
            have hS := hT
            clear hT
            have hS2 := hS
            obtain ⟨hq0, q0, q1, q2, ⟨f3, fr3⟩, q4, q5, q6, hF⟩ := hS2
            have hgl : w.heap.size + 2 < w5.heap.size := hq0.lt
            have hzw : w.heap.size ≤ w5.heap.size := hF.size
            have hB := hF
            have hz1 : w1.heap.size < w5.heap.size := World.block_lt_of_cell? w5 _ q0
            have hzk5 : w3.heap.size ≤ w5.heap.size := q2.size
            have hz2 : w3.heap.size < w5.heap.size := World.block_lt_of_cell? w5 _ q4
            refine ⟨_, rfl, (fun W => W.cell? ⟨w1.heap.size, 0, none⟩ = some (.int .i64 (x)) ∧ W.cell? ⟨w1.heap.size, 1, none⟩ = some (.int .i64 (y)) ∧ Below w.heap.size w W), ⟨hS.2.1, hS.2.2.1, hS.2.2.2.2.2.2.2.2⟩, (fun W h => h), ?_⟩
            simp only [Act.put, pa, pb, pc]
            repeat (first
              | ((refine seq_skip (by rfl) (by rfl) ?_); simp only [Act.put, pa, pb, pc])
              | ((refine seq_val (v := ?_) (by rfl) (by rfl) (fun w hS => ?_) ?_); rotate_left; (focus ((try dsimp only at hS); go_simp; (try (with_reducible rfl)); done)); simp only [Act.put, pa, pb, pc]))
            refine seq_call (f := ?_) (args := ?_) (by rfl) (by rfl) ?_ ?_
            rotate_left
            rotate_left
            focus (go_simp; (constructor <;> (with_reducible rfl)); done)
            refine (l7Of_ex x y true (by omega) (by omega) _).mono ?_
            rintro e w6 ⟨a2, b2, rfl, hb⟩
            have hT := ai (hq0.below hb) <| ai (kc hb q0) <| ai (kc hb q1) <| ai (gb_below q2 hb) <| ai (kf hb f3 fr3) <| ai (kc hb q4) <| ai (kc hb q5) <| ai (kc hb q6) <| below_via hF hb
            clear hS hb
            have hS := hT
            clear hT
            have hS2 := hS
            obtain ⟨hq0, q0, q1, q2, ⟨f3, fr3⟩, q4, q5, q6, hF⟩ := hS2
            have hgl : w.heap.size + 2 < w6.heap.size := hq0.lt
            have hzw : w.heap.size ≤ w6.heap.size := hF.size
            have hB := hF
            have hz1 : w1.heap.size < w6.heap.size := World.block_lt_of_cell? w6 _ q0
            have hzk6 : w3.heap.size ≤ w6.heap.size := q2.size
            have hz2 : w3.heap.size < w6.heap.size := World.block_lt_of_cell? w6 _ q4
            refine ⟨_, rfl, (fun W => W.cell? ⟨w1.heap.size, 0, none⟩ = some (.int .i64 (x)) ∧ W.cell? ⟨w1.heap.size, 1, none⟩ = some (.int .i64 (y)) ∧ Below w.heap.size w W), ⟨hS.2.1, hS.2.2.1, hS.2.2.2.2.2.2.2.2⟩, (fun W h => h), ?_⟩
            simp only [Act.put, pa, pb, pc]
            repeat (first
              | ((refine seq_skip (by rfl) (by rfl) ?_); simp only [Act.put, pa, pb, pc])
              | ((refine seq_val (v := ?_) (by rfl) (by rfl) (fun w hS => ?_) ?_); rotate_left; (focus ((try dsimp only at hS); go_simp; (try (with_reducible rfl)); done)); simp only [Act.put, pa, pb, pc]))
            refine seq_deed (v := ?_) (w' := ?_) (by rfl) (by rfl) ?_ ?_
            rotate_left
            rotate_left
            focus (go_simp; (constructor <;> (with_reducible rfl)); done)
            generalize hgw7 : World.alloc w6 _ = w7
            have hb : Below w6.heap.size w6 w7 := by rw [← hgw7]; go_grown
            obtain ⟨n9, n0, n1, n2⟩ := al3 hgw7
            have hT := ai (hq0.below hb) <| ai (kc hb q0) <| ai (kc hb q1) <| ai (gb_below q2 hb) <| ai (kf hb f3 fr3) <| ai (kc hb q4) <| ai (kc hb q5) <| ai (kc hb q6) <| ai (n9) <| ai (n0) <| ai (n1) <| ai (n2) <| below_via (hS.2.2.2.2.2.2.2.2) hb
            clear n9 n0 n1 n2
            clear hS hb hgw7
            have hS := hT
            clear hT
            have hS2 := hS
            obtain ⟨hq0, q0, q1, q2, ⟨f3, fr3⟩, q4, q5, q6, ⟨f7, fr7⟩, q8, q9, q10, hF⟩ := hS2
            have hgl : w.heap.size + 2 < w7.heap.size := hq0.lt
            have hzw : w.heap.size ≤ w7.heap.size := hF.size
            have hB := hF
            have hz1 : w1.heap.size < w7.heap.size := World.block_lt_of_cell? w7 _ q0
            have hzk7 : w3.heap.size ≤ w7.heap.size := q2.size
            have hz2 : w3.heap.size < w7.heap.size := World.block_lt_of_cell? w7 _ q4
            have hz3 : w6.heap.size < w7.heap.size := World.block_lt_of_cell? w7 _ q8
            refine ⟨(fun W => W.cell? ⟨w1.heap.size, 0, none⟩ = some (.int .i64 (x)) ∧ W.cell? ⟨w1.heap.size, 1, none⟩ = some (.int .i64 (y)) ∧ Below w.heap.size w W), ⟨hS.2.1, hS.2.2.1, hS.2.2.2.2.2.2.2.2.2.2.2.2⟩, (fun W h => h), ?_⟩
            simp only [Act.put, pa, pb, pc]
            repeat (first
              | ((refine seq_skip (by rfl) (by rfl) ?_); simp only [Act.put, pa, pb, pc])
              | ((refine seq_val (v := ?_) (by rfl) (by rfl) (fun w hS => ?_) ?_); rotate_left; (focus ((try dsimp only at hS); go_simp; (try (with_reducible rfl)); done)); simp only [Act.put, pa, pb, pc]))
            obtain ⟨w8, hw8⟩ : ∃ W, W = ((w7.setCell ⟨w3.heap.size, 0, none⟩ (.bool false)).setCell ⟨w3.heap.size, 1, none⟩ (.int .i64 a)).setCell ⟨w3.heap.size, 2, none⟩ (.int .i64 b) := ⟨_, rfl⟩
            obtain ⟨dd0, dd1, dd2, dd3, dd4⟩ := box3_sets q4 q5 q6 (.bool false) (.int .i64 a) (.int .i64 b)
            refine seq_store (w' := w8) (by rfl) (by rfl) (by rw [hw8]; go_simp; (try (with_reducible rfl)); done) ?_
            obtain ⟨dw0, dw1, dw2⟩ := s3w hw8 q4 q5 q6
            have hT := ai (s3c hw8 (by omega) hq0) <| ai (s3o hw8 (by omega) q0) <| ai (s3o hw8 (by omega) q1) <| ai (s3g hw8 (by omega) q2) <| ai (s3f hw8 f3 fr3) <| ai (dw0) <| ai (dw1) <| ai (dw2) <| ai (s3f hw8 f7 fr7) <| ai (s3o hw8 (by omega) q8) <| ai (s3o hw8 (by omega) q9) <| ai (s3o hw8 (by omega) q10) <| s3b hw8 (by omega) hF
            clear dw0 dw1 dw2
            (try clear hS)
            have hS := hT
            clear hT dd0 dd1 dd2 dd3 dd4 hw8
            have hS2 := hS
            obtain ⟨hq0, q0, q1, q2, ⟨f3, fr3⟩, q4, q5, q6, ⟨f7, fr7⟩, q8, q9, q10, hF⟩ := hS2
            have hgl : w.heap.size + 2 < w8.heap.size := hq0.lt
            have hzw : w.heap.size ≤ w8.heap.size := hF.size
            have hB := hF
            have hz1 : w1.heap.size < w8.heap.size := World.block_lt_of_cell? w8 _ q0
            have hzk8 : w3.heap.size ≤ w8.heap.size := q2.size
            have hz2 : w3.heap.size < w8.heap.size := World.block_lt_of_cell? w8 _ q4
            have hz3 : w6.heap.size < w8.heap.size := World.block_lt_of_cell? w8 _ q8
            refine ⟨(fun W => W.cell? ⟨w1.heap.size, 0, none⟩ = some (.int .i64 (x)) ∧ W.cell? ⟨w1.heap.size, 1, none⟩ = some (.int .i64 (y)) ∧ Below w.heap.size w W), ⟨hS.2.1, hS.2.2.1, hS.2.2.2.2.2.2.2.2.2.2.2.2⟩, (fun W h => h), ?_⟩
            simp only [Act.put, pa, pb, pc]
            repeat (first
              | ((refine seq_skip (by rfl) (by rfl) ?_); simp only [Act.put, pa, pb, pc])
              | ((refine seq_val (v := ?_) (by rfl) (by rfl) (fun w hS => ?_) ?_); rotate_left; (focus ((try dsimp only at hS); go_simp; (try (with_reducible rfl)); done)); simp only [Act.put, pa, pb, pc]))
            obtain ⟨w9, hw9⟩ : ∃ W, W = ((w8.setCell ⟨w6.heap.size, 0, none⟩ (.bool true)).setCell ⟨w6.heap.size, 1, none⟩ (.int .i64 a2)).setCell ⟨w6.heap.size, 2, none⟩ (.int .i64 b2) := ⟨_, rfl⟩
            obtain ⟨dd0, dd1, dd2, dd3, dd4⟩ := box3_sets q8 q9 q10 (.bool true) (.int .i64 a2) (.int .i64 b2)
            refine seq_store (w' := w9) (by rfl) (by rfl) (by rw [hw9]; go_simp; (try (with_reducible rfl)); done) ?_
            obtain ⟨dw0, dw1, dw2⟩ := s3w hw9 q8 q9 q10
            have hT := ai (s3c hw9 (by omega) hq0) <| ai (s3o hw9 (by omega) q0) <| ai (s3o hw9 (by omega) q1) <| ai (s3g hw9 (by omega) q2) <| ai (s3f hw9 f3 fr3) <| ai (s3o hw9 (by omega) q4) <| ai (s3o hw9 (by omega) q5) <| ai (s3o hw9 (by omega) q6) <| ai (s3f hw9 f7 fr7) <| ai (dw0) <| ai (dw1) <| ai (dw2) <| s3b hw9 (by omega) hF
            clear dw0 dw1 dw2
            (try clear hS)
            have hS := hT
            clear hT dd0 dd1 dd2 dd3 dd4 hw9
            have hS2 := hS
            obtain ⟨hq0, q0, q1, q2, ⟨f3, fr3⟩, q4, q5, q6, ⟨f7, fr7⟩, q8, q9, q10, hF⟩ := hS2
            have hgl : w.heap.size + 2 < w9.heap.size := hq0.lt
            have hzw : w.heap.size ≤ w9.heap.size := hF.size
            have hB := hF
            have hz1 : w1.heap.size < w9.heap.size := World.block_lt_of_cell? w9 _ q0
            have hzk9 : w3.heap.size ≤ w9.heap.size := q2.size
            have hz2 : w3.heap.size < w9.heap.size := World.block_lt_of_cell? w9 _ q4
            have hz3 : w6.heap.size < w9.heap.size := World.block_lt_of_cell? w9 _ q8
            refine ⟨(fun W => W.cell? ⟨w1.heap.size, 0, none⟩ = some (.int .i64 (x)) ∧ W.cell? ⟨w1.heap.size, 1, none⟩ = some (.int .i64 (y)) ∧ Below w.heap.size w W), ⟨hS.2.1, hS.2.2.1, hS.2.2.2.2.2.2.2.2.2.2.2.2⟩, (fun W h => h), ?_⟩
            simp only [Act.put, pa, pb, pc]
            repeat (first
              | ((refine seq_skip (by rfl) (by rfl) ?_); simp only [Act.put, pa, pb, pc])
              | ((refine seq_val (v := ?_) (by rfl) (by rfl) (fun w hS => ?_) ?_); rotate_left; (focus ((try dsimp only at hS); go_simp; (try (with_reducible rfl)); done)); simp only [Act.put, pa, pb, pc]))
            refine seq_nil ?_
            go_wp2_with fail
            go_meet
            case rel => exact ⟨w3.heap.size, w6.heap.size, a, b, a2, b2, rfl, rfl, ⟨by omega, by omega, by omega⟩, hS.1, gf (hS.2.2.2.1) (HK9.out.2.1).1 (HK9.out.2.1).2 (by omega), gc (hS.2.2.2.1) (HK9.out.2.2.1) (by omega), gc (hS.2.2.2.1) (HK9.out.2.2.2.1) (by omega), gc (hS.2.2.2.1) (HK9.out.2.2.2.2.1) (by omega), gf (hS.2.2.2.1) (HK9.out.2.2.2.2.2.1).1 (HK9.out.2.2.2.2.2.1).2 (by omega), gc (hS.2.2.2.1) (HK9.out.2.2.2.2.2.2.1) (by omega), gc (hS.2.2.2.1) (HK9.out.2.2.2.2.2.2.2.1) (by omega), gc (hS.2.2.2.1) (HK9.out.2.2.2.2.2.2.2.2.1) (by omega), hS.2.2.2.2.1, hS.2.2.2.2.2.1, hS.2.2.2.2.2.2.1, hS.2.2.2.2.2.2.2.1, hS.2.2.2.2.2.2.2.2.1, hS.2.2.2.2.2.2.2.2.2.1, hS.2.2.2.2.2.2.2.2.2.2.1, hS.2.2.2.2.2.2.2.2.2.2.2.1, hS.2.2.2.2.2.2.2.2.2.2.2.2⟩
    · refine all_split 4 3 (by decide) ?_ ?_
      · refine all_split 5 1 (by decide) ?_ ?_
        · refine all_seq_core [0, 2, 5, 1, 4, 3, 6, 7] (fun W => W.cell? ⟨w1.heap.size, 0, none⟩ = some (.int .i64 (x)) ∧ W.cell? ⟨w1.heap.size, 1, none⟩ = some (.int .i64 (y)) ∧ Below w.heap.size w W) (Core.trans (Core.trans (addE_core 1 4 _) (addE_core 4 3 _)) (addE_core 5 1 _)) (by kernel_rfl) ⟨hS.2.1, hS.2.2.1, hS.2.2.2.2⟩ ?_
          simp only [byNum, List.getElem?_cons_zero, List.getElem?_cons_succ]
          repeat (first
            | ((refine seq_skip (by rfl) (by rfl) ?_); simp only [Act.put, pa, pb, pc])
            | ((refine seq_val (v := ?_) (by rfl) (by rfl) (fun w hS => ?_) ?_); rotate_left; (focus ((try dsimp only at hS); go_simp; (try (with_reducible rfl)); done)); simp only [Act.put, pa, pb, pc]))
          refine seq_deed (v := ?_) (w' := ?_) (by rfl) (by rfl) ?_ ?_
          rotate_left
          rotate_left
          focus (go_simp; (constructor <;> (with_reducible rfl)); done)
          generalize hgw4 : World.alloc w3 _ = w4
          have hb : Below w3.heap.size w3 w4 := by rw [← hgw4]; go_grown
          obtain ⟨n9, n0, n1, n2⟩ := al3 hgw4
          have hT := ai (hq0.below hb) <| ai (kc hb q0) <| ai (kc hb q1) <| ai (gb_below q2 hb) <| ai (n9) <| ai (n0) <| ai (n1) <| ai (n2) <| below_via (hS.2.2.2.2) hb
          clear n9 n0 n1 n2
          clear hS hb hgw4
          have hS := hT
          clear hT
          have hS2 := hS
          obtain ⟨hq0, q0, q1, q2, ⟨f3, fr3⟩, q4, q5, q6, hF⟩ := hS2
          have hgl : w.heap.size + 2 < w4.heap.size := hq0.lt
          have hzw : w.heap.size ≤ w4.heap.size := hF.size
          have hB := hF
          have hz1 : w1.heap.size < w4.heap.size := World.block_lt_of_cell? w4 _ q0
          have hzk4 : w3.heap.size ≤ w4.heap.size := q2.size
          have hz2 : w3.heap.size < w4.heap.size := World.block_lt_of_cell? w4 _ q4
          refine ⟨(fun W => W.cell? ⟨w1.heap.size, 0, none⟩ = some (.int .i64 (x)) ∧ W.cell? ⟨w1.heap.size, 1, none⟩ = some (.int .i64 (y)) ∧ Below w.heap.size w W), ⟨hS.2.1, hS.2.2.1, hS.2.2.2.2.2.2.2.2⟩, (fun W h => h), ?_⟩
          simp only [Act.put, pa, pb, pc]
          repeat (first
            | ((refine seq_skip (by rfl) (by rfl) ?_); simp only [Act.put, pa, pb, pc])
            | ((refine seq_val (v := ?_) (by rfl) (by rfl) (fun w hS => ?_) ?_); rotate_left; (focus ((try dsimp only at hS); go_simp; (try (with_reducible rfl)); done)); simp only [Act.put, pa, pb, pc]))
          refine seq_call (f := ?_) (args := ?_) (by rfl) (by rfl) ?_ ?_
          rotate_left
          rotate_left
          focus (go_simp; (constructor <;> (with_reducible rfl)); done)
          refine (l7Of_ex x y false (by omega) (by omega) _).mono ?_
          rintro e w5 ⟨a, b, rfl, hb⟩
          have hT := ai (hq0.below hb) <| ai (kc hb q0) <| ai (kc hb q1) <| ai (gb_below q2 hb) <| ai (kf hb f3 fr3) <| ai (kc hb q4) <| ai (kc hb q5) <| ai (kc hb q6) <| below_via hF hb
          clear hS hb
          have hS := hT
          clear hT
          have hS2 := hS
          obtain ⟨hq0, q0, q1, q2, ⟨f3, fr3⟩, q4, q5, q6, hF⟩ := hS2
          have hgl : w.heap.size + 2 < w5.heap.size := hq0.lt
          have hzw : w.heap.size ≤ w5.heap.size := hF.size
          have hB := hF
          have hz1 : w1.heap.size < w5.heap.size := World.block_lt_of_cell? w5 _ q0
          have hzk5 : w3.heap.size ≤ w5.heap.size := q2.size
          have hz2 : w3.heap.size < w5.heap.size := World.block_lt_of_cell? w5 _ q4
          refine ⟨_, rfl, (fun W => W.cell? ⟨w1.heap.size, 0, none⟩ = some (.int .i64 (x)) ∧ W.cell? ⟨w1.heap.size, 1, none⟩ = some (.int .i64 (y)) ∧ Below w.heap.size w W), ⟨hS.2.1, hS.2.2.1, hS.2.2.2.2.2.2.2.2⟩, (fun W h => h), ?_⟩
          simp only [Act.put, pa, pb, pc]
          repeat (first
            | ((refine seq_skip (by rfl) (by rfl) ?_); simp only [Act.put, pa, pb, pc])
            | ((refine seq_val (v := ?_) (by rfl) (by rfl) (fun w hS => ?_) ?_); rotate_left; (focus ((try dsimp only at hS); go_simp; (try (with_reducible rfl)); done)); simp only [Act.put, pa, pb, pc]))
          refine seq_deed (v := ?_) (w' := ?_) (by rfl) (by rfl) ?_ ?_
          rotate_left
          rotate_left
          focus (go_simp; (constructor <;> (with_reducible rfl)); done)
          generalize hgw6 : World.alloc w5 _ = w6
          have hb : Below w5.heap.size w5 w6 := by rw [← hgw6]; go_grown
          obtain ⟨n9, n0, n1, n2⟩ := al3 hgw6
          have hT := ai (hq0.below hb) <| ai (kc hb q0) <| ai (kc hb q1) <| ai (gb_below q2 hb) <| ai (kf hb f3 fr3) <| ai (kc hb q4) <| ai (kc hb q5) <| ai (kc hb q6) <| ai (n9) <| ai (n0) <| ai (n1) <| ai (n2) <| below_via (hS.2.2.2.2.2.2.2.2) hb
          clear n9 n0 n1 n2
          clear hS hb hgw6
          have hS := hT
          clear hT
          have hS2 := hS
          obtain ⟨hq0, q0, q1, q2, ⟨f3, fr3⟩, q4, q5, q6, ⟨f7, fr7⟩, q8, q9, q10, hF⟩ := hS2
          have hgl : w.heap.size + 2 < w6.heap.size := hq0.lt
          have hzw : w.heap.size ≤ w6.heap.size := hF.size
          have hB := hF
          have hz1 : w1.heap.size < w6.heap.size := World.block_lt_of_cell? w6 _ q0
          have hzk6 : w3.heap.size ≤ w6.heap.size := q2.size
          have hz2 : w3.heap.size < w6.heap.size := World.block_lt_of_cell? w6 _ q4
          have hz3 : w5.heap.size < w6.heap.size := World.block_lt_of_cell? w6 _ q8
          refine ⟨(fun W => W.cell? ⟨w1.heap.size, 0, none⟩ = some (.int .i64 (x)) ∧ W.cell? ⟨w1.heap.size, 1, none⟩ = some (.int .i64 (y)) ∧ Below w.heap.size w W), ⟨hS.2.1, hS.2.2.1, hS.2.2.2.2.2.2.2.2.2.2.2.2⟩, (fun W h => h), ?_⟩
          simp only [Act.put, pa, pb, pc]
          repeat (first
            | ((refine seq_skip (by rfl) (by rfl) ?_); simp only [Act.put, pa, pb, pc])
            | ((refine seq_val (v := ?_) (by rfl) (by rfl) (fun w hS => ?_) ?_); rotate_left; (focus ((try dsimp only at hS); go_simp; (try (with_reducible rfl)); done)); simp only [Act.put, pa, pb, pc]))
          refine seq_call (f := ?_) (args := ?_) (by rfl) (by rfl) ?_ ?_
          rotate_left
          rotate_left
          focus (go_simp; (constructor <;> (with_reducible rfl)); done)
          refine (l7Of_ex x y true (by omega) (by omega) _).mono ?_
          rintro e w7 ⟨a2, b2, rfl, hb⟩
          have hT := ai (hq0.below hb) <| ai (kc hb q0) <| ai (kc hb q1) <| ai (gb_below q2 hb) <| ai (kf hb f3 fr3) <| ai (kc hb q4) <| ai (kc hb q5) <| ai (kc hb q6) <| ai (kf hb f7 fr7) <| ai (kc hb q8) <| ai (kc hb q9) <| ai (kc hb q10) <| below_via hF hb
          clear hS hb
          have hS := hT
          clear hT
          have hS2 := hS
          obtain ⟨hq0, q0, q1, q2, ⟨f3, fr3⟩, q4, q5, q6, ⟨f7, fr7⟩, q8, q9, q10, hF⟩ := hS2
          have hgl : w.heap.size + 2 < w7.heap.size := hq0.lt
          have hzw : w.heap.size ≤ w7.heap.size := hF.size
          have hB := hF
          have hz1 : w1.heap.size < w7.heap.size := World.block_lt_of_cell? w7 _ q0
          have hzk7 : w3.heap.size ≤ w7.heap.size := q2.size
          have hz2 : w3.heap.size < w7.heap.size := World.block_lt_of_cell? w7 _ q4
          have hz3 : w5.heap.size < w7.heap.size := World.block_lt_of_cell? w7 _ q8
          refine ⟨_, rfl, (fun W => W.cell? ⟨w1.heap.size, 0, none⟩ = some (.int .i64 (x)) ∧ W.cell? ⟨w1.heap.size, 1, none⟩ = some (.int .i64 (y)) ∧ Below w.heap.size w W), ⟨hS.2.1, hS.2.2.1, hS.2.2.2.2.2.2.2.2.2.2.2.2⟩, (fun W h => h), ?_⟩
          simp only [Act.put, pa, pb, pc]
          repeat (first
            | ((refine seq_skip (by rfl) (by rfl) ?_); simp only [Act.put, pa, pb, pc])
            | ((refine seq_val (v := ?_) (by rfl) (by rfl) (fun w hS => ?_) ?_); rotate_left; (focus ((try dsimp only at hS); go_simp; (try (with_reducible rfl)); done)); simp only [Act.put, pa, pb, pc]))
          obtain ⟨w8, hw8⟩ : ∃ W, W = ((w7.setCell ⟨w5.heap.size, 0, none⟩ (.bool false)).setCell ⟨w5.heap.size, 1, none⟩ (.int .i64 a)).setCell ⟨w5.heap.size, 2, none⟩ (.int .i64 b) := ⟨_, rfl⟩
          obtain ⟨dd0, dd1, dd2, dd3, dd4⟩ := box3_sets q8 q9 q10 (.bool false) (.int .i64 a) (.int .i64 b)
          refine seq_store (w' := w8) (by rfl) (by rfl) (by rw [hw8]; go_simp; (try (with_reducible rfl)); done) ?_
          obtain ⟨dw0, dw1, dw2⟩ := s3w hw8 q8 q9 q10
          have hT := ai (s3c hw8 (by omega) hq0) <| ai (s3o hw8 (by omega) q0) <| ai (s3o hw8 (by omega) q1) <| ai (s3g hw8 (by omega) q2) <| ai (s3f hw8 f3 fr3) <| ai (s3o hw8 (by omega) q4) <| ai (s3o hw8 (by omega) q5) <| ai (s3o hw8 (by omega) q6) <| ai (s3f hw8 f7 fr7) <| ai (dw0) <| ai (dw1) <| ai (dw2) <| s3b hw8 (by omega) hF
          clear dw0 dw1 dw2
          (try clear hS)
          have hS := hT
          clear hT dd0 dd1 dd2 dd3 dd4 hw8
          have hS2 := hS
          obtain ⟨hq0, q0, q1, q2, ⟨f3, fr3⟩, q4, q5, q6, ⟨f7, fr7⟩, q8, q9, q10, hF⟩ := hS2
          have hgl : w.heap.size + 2 < w8.heap.size := hq0.lt
          have hzw : w.heap.size ≤ w8.heap.size := hF.size
          have hB := hF
          have hz1 : w1.heap.size < w8.heap.size := World.block_lt_of_cell? w8 _ q0
          have hzk8 : w3.heap.size ≤ w8.heap.size := q2.size
          have hz2 : w3.heap.size < w8.heap.size := World.block_lt_of_cell? w8 _ q4
          have hz3 : w5.heap.size < w8.heap.size := World.block_lt_of_cell? w8 _ q8
          refine ⟨(fun W => W.cell? ⟨w1.heap.size, 0, none⟩ = some (.int .i64 (x)) ∧ W.cell? ⟨w1.heap.size, 1, none⟩ = some (.int .i64 (y)) ∧ Below w.heap.size w W), ⟨hS.2.1, hS.2.2.1, hS.2.2.2.2.2.2.2.2.2.2.2.2⟩, (fun W h => h), ?_⟩
          simp only [Act.put, pa, pb, pc]
          repeat (first
            | ((refine seq_skip (by rfl) (by rfl) ?_); simp only [Act.put, pa, pb, pc])
            | ((refine seq_val (v := ?_) (by rfl) (by rfl) (fun w hS => ?_) ?_); rotate_left; (focus ((try dsimp only at hS); go_simp; (try (with_reducible rfl)); done)); simp only [Act.put, pa, pb, pc]))
          obtain ⟨w9, hw9⟩ : ∃ W, W = ((w8.setCell ⟨w3.heap.size, 0, none⟩ (.bool true)).setCell ⟨w3.heap.size, 1, none⟩ (.int .i64 a2)).setCell ⟨w3.heap.size, 2, none⟩ (.int .i64 b2) := ⟨_, rfl⟩
          obtain ⟨dd0, dd1, dd2, dd3, dd4⟩ := box3_sets q4 q5 q6 (.bool true) (.int .i64 a2) (.int .i64 b2)
          refine seq_store (w' := w9) (by rfl) (by rfl) (by rw [hw9]; go_simp; (try (with_reducible rfl)); done) ?_
          obtain ⟨dw0, dw1, dw2⟩ := s3w hw9 q4 q5 q6
          have hT := ai (s3c hw9 (by omega) hq0) <| ai (s3o hw9 (by omega) q0) <| ai (s3o hw9 (by omega) q1) <| ai (s3g hw9 (by omega) q2) <| ai (s3f hw9 f3 fr3) <| ai (dw0) <| ai (dw1) <| ai (dw2) <| ai (s3f hw9 f7 fr7) <| ai (s3o hw9 (by omega) q8) <| ai (s3o hw9 (by omega) q9) <| ai (s3o hw9 (by omega) q10) <| s3b hw9 (by omega) hF
          clear dw0 dw1 dw2
          (try clear hS)
          have hS := hT
          clear hT dd0 dd1 dd2 dd3 dd4 hw9
          have hS2 := hS
          obtain ⟨hq0, q0, q1, q2, ⟨f3, fr3⟩, q4, q5, q6, ⟨f7, fr7⟩, q8, q9, q10, hF⟩ := hS2
          have hgl : w.heap.size + 2 < w9.heap.size := hq0.lt
          have hzw : w.heap.size ≤ w9.heap.size := hF.size
          have hB := hF
          have hz1 : w1.heap.size < w9.heap.size := World.block_lt_of_cell? w9 _ q0
          have hzk9 : w3.heap.size ≤ w9.heap.size := q2.size
          have hz2 : w3.heap.size < w9.heap.size := World.block_lt_of_cell? w9 _ q4
          have hz3 : w5.heap.size < w9.heap.size := World.block_lt_of_cell? w9 _ q8
          refine ⟨(fun W => W.cell? ⟨w1.heap.size, 0, none⟩ = some (.int .i64 (x)) ∧ W.cell? ⟨w1.heap.size, 1, none⟩ = some (.int .i64 (y)) ∧ Below w.heap.size w W), ⟨hS.2.1, hS.2.2.1, hS.2.2.2.2.2.2.2.2.2.2.2.2⟩, (fun W h => h), ?_⟩
          simp only [Act.put, pa, pb, pc]
          repeat (first
            | ((refine seq_skip (by rfl) (by rfl) ?_); simp only [Act.put, pa, pb, pc])
            | ((refine seq_val (v := ?_) (by rfl) (by rfl) (fun w hS => ?_) ?_); rotate_left; (focus ((try dsimp only at hS); go_simp; (try (with_reducible rfl)); done)); simp only [Act.put, pa, pb, pc]))
          refine seq_nil ?_
          go_wp2_with fail
          go_meet
          case rel => exact ⟨w5.heap.size, w3.heap.size, a, b, a2, b2, rfl, rfl, ⟨by omega, by omega, by omega⟩, hS.1, gf (hS.2.2.2.1) (HK9.out.2.1).1 (HK9.out.2.1).2 (by omega), gc (hS.2.2.2.1) (HK9.out.2.2.1) (by omega), gc (hS.2.2.2.1) (HK9.out.2.2.2.1) (by omega), gc (hS.2.2.2.1) (HK9.out.2.2.2.2.1) (by omega), gf (hS.2.2.2.1) (HK9.out.2.2.2.2.2.1).1 (HK9.out.2.2.2.2.2.1).2 (by omega), gc (hS.2.2.2.1) (HK9.out.2.2.2.2.2.2.1) (by omega), gc (hS.2.2.2.1) (HK9.out.2.2.2.2.2.2.2.1) (by omega), gc (hS.2.2.2.1) (HK9.out.2.2.2.2.2.2.2.2.1) (by omega), hS.2.2.2.2.2.2.2.2.1, hS.2.2.2.2.2.2.2.2.2.1, hS.2.2.2.2.2.2.2.2.2.2.1, hS.2.2.2.2.2.2.2.2.2.2.2.1, hS.2.2.2.2.1, hS.2.2.2.2.2.1, hS.2.2.2.2.2.2.1, hS.2.2.2.2.2.2.2.1, hS.2.2.2.2.2.2.2.2.2.2.2.2⟩
        · refine all_split 5 4 (by decide) ?_ ?_
          · refine all_seq_core [0, 2, 1, 5, 4, 3, 6, 7] (fun W => W.cell? ⟨w1.heap.size, 0, none⟩ = some (.int .i64 (x)) ∧ W.cell? ⟨w1.heap.size, 1, none⟩ = some (.int .i64 (y)) ∧ Below w.heap.size w W) (Core.trans (Core.trans (Core.trans (addE_core 1 4 _) (addE_core 4 3 _)) (addE_core 1 5 _)) (addE_core 5 4 _)) (by kernel_rfl) ⟨hS.2.1, hS.2.2.1, hS.2.2.2.2⟩ ?_
            simp only [byNum, List.getElem?_cons_zero, List.getElem?_cons_succ]
            repeat (first
              | ((refine seq_skip (by rfl) (by rfl) ?_); simp only [Act.put, pa, pb, pc])
              | ((refine seq_val (v := ?_) (by rfl) (by rfl) (fun w hS => ?_) ?_); rotate_left; (focus ((try dsimp only at hS); go_simp; (try (with_reducible rfl)); done)); simp only [Act.put, pa, pb, pc]))
            refine seq_call (f := ?_) (args := ?_) (by rfl) (by rfl) ?_ ?_
            rotate_left
            rotate_left
            focus (go_simp; (constructor <;> (with_reducible rfl)); done)
            refine (l7Of_ex x y false (by omega) (by omega) _).mono ?_
            rintro e w4 ⟨a, b, rfl, hb⟩
            have hT := ai (hq0.below hb) <| ai (kc hb q0) <| ai (kc hb q1) <| ai (gb_below q2 hb) <| below_via hF hb
            clear hS hb
            have hS := hT
            clear hT
            have hS2 := hS
            obtain ⟨hq0, q0, q1, q2, hF⟩ := hS2
            have hgl : w.heap.size + 2 < w4.heap.size := hq0.lt
            have hzw : w.heap.size ≤ w4.heap.size := hF.size
            have hB := hF
            have hz1 : w1.heap.size < w4.heap.size := World.block_lt_of_cell? w4 _ q0
            have hzk4 : w3.heap.size ≤ w4.heap.size := q2.size
            refine ⟨_, rfl, (fun W => W.cell? ⟨w1.heap.size, 0, none⟩ = some (.int .i64 (x)) ∧ W.cell? ⟨w1.heap.size, 1, none⟩ = some (.int .i64 (y)) ∧ Below w.heap.size w W), ⟨hS.2.1, hS.2.2.1, hS.2.2.2.2⟩, (fun W h => h), ?_⟩
            simp only [Act.put, pa, pb, pc]
            repeat (first
              | ((refine seq_skip (by rfl) (by rfl) ?_); simp only [Act.put, pa, pb, pc])
              | ((refine seq_val (v := ?_) (by rfl) (by rfl) (fun w hS => ?_) ?_); rotate_left; (focus ((try dsimp only at hS); go_simp; (try (with_reducible rfl)); done)); simp only [Act.put, pa, pb, pc]))
            refine seq_deed (v := ?_) (w' := ?_) (by rfl) (by rfl) ?_ ?_
            rotate_left
            rotate_left
            focus (go_simp; (constructor <;> (with_reducible rfl)); done)
            generalize hgw5 : World.alloc w4 _ = w5
            have hb : Below w4.heap.size w4 w5 := by rw [← hgw5]; go_grown
            obtain ⟨n9, n0, n1, n2⟩ := al3 hgw5
            have hT := ai (hq0.below hb) <| ai (kc hb q0) <| ai (kc hb q1) <| ai (gb_below q2 hb) <| ai (n9) <| ai (n0) <| ai (n1) <| ai (n2) <| below_via (hS.2.2.2.2) hb
            clear n9 n0 n1 n2
            clear hS hb hgw5
            have hS := hT
            clear hT
            have hS2 := hS
            obtain ⟨hq0, q0, q1, q2, ⟨f3, fr3⟩, q4, q5, q6, hF⟩ := hS2
            have hgl : w.heap.size + 2 < w5.heap.size := hq0.lt
            have hzw : w.heap.size ≤ w5.heap.size := hF.size
            have hB := hF
            have hz1 : w1.heap.size < w5.heap.size := World.block_lt_of_cell? w5 _ q0
            have hzk5 : w3.heap.size ≤ w5.heap.size := q2.size
            have hz2 : w4.heap.size < w5.heap.size := World.block_lt_of_cell? w5 _ q4
            refine ⟨(fun W => W.cell? ⟨w1.heap.size, 0, none⟩ = some (.int .i64 (x)) ∧ W.cell? ⟨w1.heap.size, 1, none⟩ = some (.int .i64 (y)) ∧ Below w.heap.size w W), ⟨hS.2.1, hS.2.2.1, hS.2.2.2.2.2.2.2.2⟩, (fun W h => h), ?_⟩
            simp only [Act.put, pa, pb, pc]
            repeat (first
              | ((refine seq_skip (by rfl) (by rfl) ?_); simp only [Act.put, pa, pb, pc])
              | ((refine seq_val (v := ?_) (by rfl) (by rfl) (fun w hS => ?_) ?_); rotate_left; (focus ((try dsimp only at hS); go_simp; (try (with_reducible rfl)); done)); simp only [Act.put, pa, pb, pc]))
            refine seq_deed (v := ?_) (w' := ?_) (by rfl) (by rfl) ?_ ?_
            rotate_left
            rotate_left
            focus (go_simp; (constructor <;> (with_reducible rfl)); done)
            generalize hgw6 : World.alloc w5 _ = w6
            have hb : Below w5.heap.size w5 w6 := by rw [← hgw6]; go_grown
            obtain ⟨n9, n0, n1, n2⟩ := al3 hgw6
            have hT := ai (hq0.below hb) <| ai (kc hb q0) <| ai (kc hb q1) <| ai (gb_below q2 hb) <| ai (kf hb f3 fr3) <| ai (kc hb q4) <| ai (kc hb q5) <| ai (kc hb q6) <| ai (n9) <| ai (n0) <| ai (n1) <| ai (n2) <| below_via (hS.2.2.2.2.2.2.2.2) hb
            clear n9 n0 n1 n2
            clear hS hb hgw6
            have hS := hT
            clear hT
            have hS2 := hS
            obtain ⟨hq0, q0, q1, q2, ⟨f3, fr3⟩, q4, q5, q6, ⟨f7, fr7⟩, q8, q9, q10, hF⟩ := hS2
            have hgl : w.heap.size + 2 < w6.heap.size := hq0.lt
            have hzw : w.heap.size ≤ w6.heap.size := hF.size
            have hB := hF
            have hz1 : w1.heap.size < w6.heap.size := World.block_lt_of_cell? w6 _ q0
            have hzk6 : w3.heap.size ≤ w6.heap.size := q2.size
            have hz2 : w4.heap.size < w6.heap.size := World.block_lt_of_cell? w6 _ q4
            have hz3 : w5.heap.size < w6.heap.size := World.block_lt_of_cell? w6 _ q8
            refine ⟨(fun W => W.cell? ⟨w1.heap.size, 0, none⟩ = some (.int .i64 (x)) ∧ W.cell? ⟨w1.heap.size, 1, none⟩ = some (.int .i64 (y)) ∧ Below w.heap.size w W), ⟨hS.2.1, hS.2.2.1, hS.2.2.2.2.2.2.2.2.2.2.2.2⟩, (fun W h => h), ?_⟩
            simp only [Act.put, pa, pb, pc]
            repeat (first
              | ((refine seq_skip (by rfl) (by rfl) ?_); simp only [Act.put, pa, pb, pc])
              | ((refine seq_val (v := ?_) (by rfl) (by rfl) (fun w hS => ?_) ?_); rotate_left; (focus ((try dsimp only at hS); go_simp; (try (with_reducible rfl)); done)); simp only [Act.put, pa, pb, pc]))
            refine seq_call (f := ?_) (args := ?_) (by rfl) (by rfl) ?_ ?_
            rotate_left
            rotate_left
            focus (go_simp; (constructor <;> (with_reducible rfl)); done)
            refine (l7Of_ex x y true (by omega) (by omega) _).mono ?_
            rintro e w7 ⟨a2, b2, rfl, hb⟩
            have hT := ai (hq0.below hb) <| ai (kc hb q0) <| ai (kc hb q1) <| ai (gb_below q2 hb) <| ai (kf hb f3 fr3) <| ai (kc hb q4) <| ai (kc hb q5) <| ai (kc hb q6) <| ai (kf hb f7 fr7) <| ai (kc hb q8) <| ai (kc hb q9) <| ai (kc hb q10) <| below_via hF hb
            clear hS hb
            have hS := hT
            clear hT
            have hS2 := hS
            obtain ⟨hq0, q0, q1, q2, ⟨f3, fr3⟩, q4, q5, q6, ⟨f7, fr7⟩, q8, q9, q10, hF⟩ := hS2
            have hgl : w.heap.size + 2 < w7.heap.size := hq0.lt
            have hzw : w.heap.size ≤ w7.heap.size := hF.size
            have hB := hF
            have hz1 : w1.heap.size < w7.heap.size := World.block_lt_of_cell? w7 _ q0
            have hzk7 : w3.heap.size ≤ w7.heap.size := q2.size
            have hz2 : w4.heap.size < w7.heap.size := World.block_lt_of_cell? w7 _ q4
            have hz3 : w5.heap.size < w7.heap.size := World.block_lt_of_cell? w7 _ q8
            refine ⟨_, rfl, (fun W => W.cell? ⟨w1.heap.size, 0, none⟩ = some (.int .i64 (x)) ∧ W.cell? ⟨w1.heap.size, 1, none⟩ = some (.int .i64 (y)) ∧ Below w.heap.size w W), ⟨hS.2.1, hS.2.2.1, hS.2.2.2.2.2.2.2.2.2.2.2.2⟩, (fun W h => h), ?_⟩
            simp only [Act.put, pa, pb, pc]
            repeat (first
              | ((refine seq_skip (by rfl) (by rfl) ?_); simp only [Act.put, pa, pb, pc])
              | ((refine seq_val (v := ?_) (by rfl) (by rfl) (fun w hS => ?_) ?_); rotate_left; (focus ((try dsimp only at hS); go_simp; (try (with_reducible rfl)); done)); simp only [Act.put, pa, pb, pc]))
            obtain ⟨w8, hw8⟩ : ∃ W, W = ((w7.setCell ⟨w5.heap.size, 0, none⟩ (.bool false)).setCell ⟨w5.heap.size, 1, none⟩ (.int .i64 a)).setCell ⟨w5.heap.size, 2, none⟩ (.int .i64 b) := ⟨_, rfl⟩
            obtain ⟨dd0, dd1, dd2, dd3, dd4⟩ := box3_sets q8 q9 q10 (.bool false) (.int .i64 a) (.int .i64 b)
            refine seq_store (w' := w8) (by rfl) (by rfl) (by rw [hw8]; go_simp; (try (with_reducible rfl)); done) ?_
            obtain ⟨dw0, dw1, dw2⟩ := s3w hw8 q8 q9 q10
            have hT := ai (s3c hw8 (by omega) hq0) <| ai (s3o hw8 (by omega) q0) <| ai (s3o hw8 (by omega) q1) <| ai (s3g hw8 (by omega) q2) <| ai (s3f hw8 f3 fr3) <| ai (s3o hw8 (by omega) q4) <| ai (s3o hw8 (by omega) q5) <| ai (s3o hw8 (by omega) q6) <| ai (s3f hw8 f7 fr7) <| ai (dw0) <| ai (dw1) <| ai (dw2) <| s3b hw8 (by omega) hF
            clear dw0 dw1 dw2
            (try clear hS)
            have hS := hT
            clear hT dd0 dd1 dd2 dd3 dd4 hw8
            have hS2 := hS
            obtain ⟨hq0, q0, q1, q2, ⟨f3, fr3⟩, q4, q5, q6, ⟨f7, fr7⟩, q8, q9, q10, hF⟩ := hS2
            have hgl : w.heap.size + 2 < w8.heap.size := hq0.lt
            have hzw : w.heap.size ≤ w8.heap.size := hF.size
            have hB := hF
            have hz1 : w1.heap.size < w8.heap.size := World.block_lt_of_cell? w8 _ q0
            have hzk8 : w3.heap.size ≤ w8.heap.size := q2.size
            have hz2 : w4.heap.size < w8.heap.size := World.block_lt_of_cell? w8 _ q4
            have hz3 : w5.heap.size < w8.heap.size := World.block_lt_of_cell? w8 _ q8
            refine ⟨(fun W => W.cell? ⟨w1.heap.size, 0, none⟩ = some (.int .i64 (x)) ∧ W.cell? ⟨w1.heap.size, 1, none⟩ = some (.int .i64 (y)) ∧ Below w.heap.size w W), ⟨hS.2.1, hS.2.2.1, hS.2.2.2.2.2.2.2.2.2.2.2.2⟩, (fun W h => h), ?_⟩
            simp only [Act.put, pa, pb, pc]
            repeat (first
              | ((refine seq_skip (by rfl) (by rfl) ?_); simp only [Act.put, pa, pb, pc])
              | ((refine seq_val (v := ?_) (by rfl) (by rfl) (fun w hS => ?_) ?_); rotate_left; (focus ((try dsimp only at hS); go_simp; (try (with_reducible rfl)); done)); simp only [Act.put, pa, pb, pc]))
            obtain ⟨w9, hw9⟩ : ∃ W, W = ((w8.setCell ⟨w4.heap.size, 0, none⟩ (.bool true)).setCell ⟨w4.heap.size, 1, none⟩ (.int .i64 a2)).setCell ⟨w4.heap.size, 2, none⟩ (.int .i64 b2) := ⟨_, rfl⟩
            obtain ⟨dd0, dd1, dd2, dd3, dd4⟩ := box3_sets q4 q5 q6 (.bool true) (.int .i64 a2) (.int .i64 b2)
            refine seq_store (w' := w9) (by rfl) (by rfl) (by rw [hw9]; go_simp; (try (with_reducible rfl)); done) ?_
            obtain ⟨dw0, dw1, dw2⟩ := s3w hw9 q4 q5 q6
            have hT := ai (s3c hw9 (by omega) hq0) <| ai (s3o hw9 (by omega) q0) <| ai (s3o hw9 (by omega) q1) <| ai (s3g hw9 (by omega) q2) <| ai (s3f hw9 f3 fr3) <| ai (dw0) <| ai (dw1) <| ai (dw2) <| ai (s3f hw9 f7 fr7) <| ai (s3o hw9 (by omega) q8) <| ai (s3o hw9 (by omega) q9) <| ai (s3o hw9 (by omega) q10) <| s3b hw9 (by omega) hF
            clear dw0 dw1 dw2
            (try clear hS)
            have hS := hT
            clear hT dd0 dd1 dd2 dd3 dd4 hw9
            have hS2 := hS
            obtain ⟨hq0, q0, q1, q2, ⟨f3, fr3⟩, q4, q5, q6, ⟨f7, fr7⟩, q8, q9, q10, hF⟩ := hS2
            have hgl : w.heap.size + 2 < w9.heap.size := hq0.lt
            have hzw : w.heap.size ≤ w9.heap.size := hF.size
            have hB := hF
            have hz1 : w1.heap.size < w9.heap.size := World.block_lt_of_cell? w9 _ q0
            have hzk9 : w3.heap.size ≤ w9.heap.size := q2.size
            have hz2 : w4.heap.size < w9.heap.size := World.block_lt_of_cell? w9 _ q4
            have hz3 : w5.heap.size < w9.heap.size := World.block_lt_of_cell? w9 _ q8
            refine ⟨(fun W => W.cell? ⟨w1.heap.size, 0, none⟩ = some (.int .i64 (x)) ∧ W.cell? ⟨w1.heap.size, 1, none⟩ = some (.int .i64 (y)) ∧ Below w.heap.size w W), ⟨hS.2.1, hS.2.2.1, hS.2.2.2.2.2.2.2.2.2.2.2.2⟩, (fun W h => h), ?_⟩
            simp only [Act.put, pa, pb, pc]
            repeat (first
              | ((refine seq_skip (by rfl) (by rfl) ?_); simp only [Act.put, pa, pb, pc])
              | ((refine seq_val (v := ?_) (by rfl) (by rfl) (fun w hS => ?_) ?_); rotate_left; (focus ((try dsimp only at hS); go_simp; (try (with_reducible rfl)); done)); simp only [Act.put, pa, pb, pc]))
            refine seq_nil ?_
            go_wp2_with fail
            go_meet
            case rel => exact ⟨w5.heap.size, w4.heap.size, a, b, a2, b2, rfl, rfl, ⟨by omega, by omega, by omega⟩, hS.1, gf (hS.2.2.2.1) (HK9.out.2.1).1 (HK9.out.2.1).2 (by omega), gc (hS.2.2.2.1) (HK9.out.2.2.1) (by omega), gc (hS.2.2.2.1) (HK9.out.2.2.2.1) (by omega), gc (hS.2.2.2.1) (HK9.out.2.2.2.2.1) (by omega), gf (hS.2.2.2.1) (HK9.out.2.2.2.2.2.1).1 (HK9.out.2.2.2.2.2.1).2 (by omega), gc (hS.2.2.2.1) (HK9.out.2.2.2.2.2.2.1) (by omega), gc (hS.2.2.2.1) (HK9.out.2.2.2.2.2.2.2.1) (by omega), gc (hS.2.2.2.1) (HK9.out.2.2.2.2.2.2.2.2.1) (by omega), hS.2.2.2.2.2.2.2.2.1, hS.2.2.2.2.2.2.2.2.2.1, hS.2.2.2.2.2.2.2.2.2.2.1, hS.2.2.2.2.2.2.2.2.2.2.2.1, hS.2.2.2.2.1, hS.2.2.2.2.2.1, hS.2.2.2.2.2.2.1, hS.2.2.2.2.2.2.2.1, hS.2.2.2.2.2.2.2.2.2.2.2.2⟩
          · refine all_split 5 3 (by decide) ?_ ?_
            · refine all_seq_core [0, 2, 1, 4, 5, 3, 6, 7] (fun W => W.cell? ⟨w1.heap.size, 0, none⟩ = some (.int .i64 (x)) ∧ W.cell? ⟨w1.heap.size, 1, none⟩ = some (.int .i64 (y)) ∧ Below w.heap.size w W) (Core.trans (Core.trans (Core.trans (Core.trans (addE_core 1 4 _) (addE_core 4 3 _)) (addE_core 1 5 _)) (addE_core 4 5 _)) (addE_core 5 3 _)) (by kernel_rfl) ⟨hS.2.1, hS.2.2.1, hS.2.2.2.2⟩ ?_
              simp only [byNum, List.getElem?_cons_zero, List.getElem?_cons_succ]
              repeat (first
                | ((refine seq_skip (by rfl) (by rfl) ?_); simp only [Act.put, pa, pb, pc])
                | ((refine seq_val (v := ?_) (by rfl) (by rfl) (fun w hS => ?_) ?_); rotate_left; (focus ((try dsimp only at hS); go_simp; (try (with_reducible rfl)); done)); simp only [Act.put, pa, pb, pc]))
              refine seq_call (f := ?_) (args := ?_) (by rfl) (by rfl) ?_ ?_
              rotate_left
              rotate_left
              focus (go_simp; (constructor <;> (with_reducible rfl)); done)
              refine (l7Of_ex x y false (by omega) (by omega) _).mono ?_
              rintro e w4 ⟨a, b, rfl, hb⟩
              have hT := ai (hq0.below hb) <| ai (kc hb q0) <| ai (kc hb q1) <| ai (gb_below q2 hb) <| below_via hF hb
              clear hS hb
              have hS := hT
              clear hT
              have hS2 := hS
              obtain ⟨hq0, q0, q1, q2, hF⟩ := hS2
              have hgl : w.heap.size + 2 < w4.heap.size := hq0.lt
              have hzw : w.heap.size ≤ w4.heap.size := hF.size
              have hB := hF
              have hz1 : w1.heap.size < w4.heap.size := World.block_lt_of_cell? w4 _ q0
              have hzk4 : w3.heap.size ≤ w4.heap.size := q2.size
              refine ⟨_, rfl, (fun W => W.cell? ⟨w1.heap.size, 0, none⟩ = some (.int .i64 (x)) ∧ W.cell? ⟨w1.heap.size, 1, none⟩ = some (.int .i64 (y)) ∧ Below w.heap.size w W), ⟨hS.2.1, hS.2.2.1, hS.2.2.2.2⟩, (fun W h => h), ?_⟩
              simp only [Act.put, pa, pb, pc]
              repeat (first
                | ((refine seq_skip (by rfl) (by rfl) ?_); simp only [Act.put, pa, pb, pc])
                | ((refine seq_val (v := ?_) (by rfl) (by rfl) (fun w hS => ?_) ?_); rotate_left; (focus ((try dsimp only at hS); go_simp; (try (with_reducible rfl)); done)); simp only [Act.put, pa, pb, pc]))
              refine seq_deed (v := ?_) (w' := ?_) (by rfl) (by rfl) ?_ ?_
              rotate_left
              rotate_left
              focus (go_simp; (constructor <;> (with_reducible rfl)); done)
              generalize hgw5 : World.alloc w4 _ = w5
              have hb : Below w4.heap.size w4 w5 := by rw [← hgw5]; go_grown
              obtain ⟨n9, n0, n1, n2⟩ := al3 hgw5
              have hT := ai (hq0.below hb) <| ai (kc hb q0) <| ai (kc hb q1) <| ai (gb_below q2 hb) <| ai (n9) <| ai (n0) <| ai (n1) <| ai (n2) <| below_via (hS.2.2.2.2) hb
              clear n9 n0 n1 n2
              clear hS hb hgw5
              have hS := hT
              clear hT
              have hS2 := hS
              obtain ⟨hq0, q0, q1, q2, ⟨f3, fr3⟩, q4, q5, q6, hF⟩ := hS2
              have hgl : w.heap.size + 2 < w5.heap.size := hq0.lt
              have hzw : w.heap.size ≤ w5.heap.size := hF.size
              have hB := hF
              have hz1 : w1.heap.size < w5.heap.size := World.block_lt_of_cell? w5 _ q0
              have hzk5 : w3.heap.size ≤ w5.heap.size := q2.size
              have hz2 : w4.heap.size < w5.heap.size := World.block_lt_of_cell? w5 _ q4
              refine ⟨(fun W => W.cell? ⟨w1.heap.size, 0, none⟩ = some (.int .i64 (x)) ∧ W.cell? ⟨w1.heap.size, 1, none⟩ = some (.int .i64 (y)) ∧ Below w.heap.size w W), ⟨hS.2.1, hS.2.2.1, hS.2.2.2.2.2.2.2.2⟩, (fun W h => h), ?_⟩
              simp only [Act.put, pa, pb, pc]
              repeat (first
                | ((refine seq_skip (by rfl) (by rfl) ?_); simp only [Act.put, pa, pb, pc])
                | ((refine seq_val (v := ?_) (by rfl) (by rfl) (fun w hS => ?_) ?_); rotate_left; (focus ((try dsimp only at hS); go_simp; (try (with_reducible rfl)); done)); simp only [Act.put, pa, pb, pc]))
              refine seq_deed (v := ?_) (w' := ?_) (by rfl) (by rfl) ?_ ?_
              rotate_left
              rotate_left
              focus (go_simp; (constructor <;> (with_reducible rfl)); done)
              generalize hgw6 : World.alloc w5 _ = w6
              have hb : Below w5.heap.size w5 w6 := by rw [← hgw6]; go_grown
              obtain ⟨n9, n0, n1, n2⟩ := al3 hgw6
              have hT := ai (hq0.below hb) <| ai (kc hb q0) <| ai (kc hb q1) <| ai (gb_below q2 hb) <| ai (kf hb f3 fr3) <| ai (kc hb q4) <| ai (kc hb q5) <| ai (kc hb q6) <| ai (n9) <| ai (n0) <| ai (n1) <| ai (n2) <| below_via (hS.2.2.2.2.2.2.2.2) hb
              clear n9 n0 n1 n2
              clear hS hb hgw6
              have hS := hT
              clear hT
              have hS2 := hS
              obtain ⟨hq0, q0, q1, q2, ⟨f3, fr3⟩, q4, q5, q6, ⟨f7, fr7⟩, q8, q9, q10, hF⟩ := hS2
              have hgl : w.heap.size + 2 < w6.heap.size := hq0.lt
              have hzw : w.heap.size ≤ w6.heap.size := hF.size
              have hB := hF
              have hz1 : w1.heap.size < w6.heap.size := World.block_lt_of_cell? w6 _ q0
              have hzk6 : w3.heap.size ≤ w6.heap.size := q2.size
              have hz2 : w4.heap.size < w6.heap.size := World.block_lt_of_cell? w6 _ q4
              have hz3 : w5.heap.size < w6.heap.size := World.block_lt_of_cell? w6 _ q8
              refine ⟨(fun W => W.cell? ⟨w1.heap.size, 0, none⟩ = some (.int .i64 (x)) ∧ W.cell? ⟨w1.heap.size, 1, none⟩ = some (.int .i64 (y)) ∧ Below w.heap.size w W), ⟨hS.2.1, hS.2.2.1, hS.2.2.2.2.2.2.2.2.2.2.2.2⟩, (fun W h => h), ?_⟩
              simp only [Act.put, pa, pb, pc]
              repeat (first
                | ((refine seq_skip (by rfl) (by rfl) ?_); simp only [Act.put, pa, pb, pc])
                | ((refine seq_val (v := ?_) (by rfl) (by rfl) (fun w hS => ?_) ?_); rotate_left; (focus ((try dsimp only at hS); go_simp; (try (with_reducible rfl)); done)); simp only [Act.put, pa, pb, pc]))
              refine seq_call (f := ?_) (args := ?_) (by rfl) (by rfl) ?_ ?_
              rotate_left
              rotate_left
              focus (go_simp; (constructor <;> (with_reducible rfl)); done)
              refine (l7Of_ex x y true (by omega) (by omega) _).mono ?_
              rintro e w7 ⟨a2, b2, rfl, hb⟩
              have hT := ai (hq0.below hb) <| ai (kc hb q0) <| ai (kc hb q1) <| ai (gb_below q2 hb) <| ai (kf hb f3 fr3) <| ai (kc hb q4) <| ai (kc hb q5) <| ai (kc hb q6) <| ai (kf hb f7 fr7) <| ai (kc hb q8) <| ai (kc hb q9) <| ai (kc hb q10) <| below_via hF hb
              clear hS hb
              have hS := hT
              clear hT
              have hS2 := hS
              obtain ⟨hq0, q0, q1, q2, ⟨f3, fr3⟩, q4, q5, q6, ⟨f7, fr7⟩, q8, q9, q10, hF⟩ := hS2
              have hgl : w.heap.size + 2 < w7.heap.size := hq0.lt
              have hzw : w.heap.size ≤ w7.heap.size := hF.size
              have hB := hF
              have hz1 : w1.heap.size < w7.heap.size := World.block_lt_of_cell? w7 _ q0
              have hzk7 : w3.heap.size ≤ w7.heap.size := q2.size
              have hz2 : w4.heap.size < w7.heap.size := World.block_lt_of_cell? w7 _ q4
              have hz3 : w5.heap.size < w7.heap.size := World.block_lt_of_cell? w7 _ q8
              refine ⟨_, rfl, (fun W => W.cell? ⟨w1.heap.size, 0, none⟩ = some (.int .i64 (x)) ∧ W.cell? ⟨w1.heap.size, 1, none⟩ = some (.int .i64 (y)) ∧ Below w.heap.size w W), ⟨hS.2.1, hS.2.2.1, hS.2.2.2.2.2.2.2.2.2.2.2.2⟩, (fun W h => h), ?_⟩
              simp only [Act.put, pa, pb, pc]
              repeat (first
                | ((refine seq_skip (by rfl) (by rfl) ?_); simp only [Act.put, pa, pb, pc])
                | ((refine seq_val (v := ?_) (by rfl) (by rfl) (fun w hS => ?_) ?_); rotate_left; (focus ((try dsimp only at hS); go_simp; (try (with_reducible rfl)); done)); simp only [Act.put, pa, pb, pc]))
              obtain ⟨w8, hw8⟩ : ∃ W, W = ((w7.setCell ⟨w4.heap.size, 0, none⟩ (.bool false)).setCell ⟨w4.heap.size, 1, none⟩ (.int .i64 a)).setCell ⟨w4.heap.size, 2, none⟩ (.int .i64 b) := ⟨_, rfl⟩
              obtain ⟨dd0, dd1, dd2, dd3, dd4⟩ := box3_sets q4 q5 q6 (.bool false) (.int .i64 a) (.int .i64 b)
              refine seq_store (w' := w8) (by rfl) (by rfl) (by rw [hw8]; go_simp; (try (with_reducible rfl)); done) ?_
              obtain ⟨dw0, dw1, dw2⟩ := s3w hw8 q4 q5 q6
              have hT := ai (s3c hw8 (by omega) hq0) <| ai (s3o hw8 (by omega) q0) <| ai (s3o hw8 (by omega) q1) <| ai (s3g hw8 (by omega) q2) <| ai (s3f hw8 f3 fr3) <| ai (dw0) <| ai (dw1) <| ai (dw2) <| ai (s3f hw8 f7 fr7) <| ai (s3o hw8 (by omega) q8) <| ai (s3o hw8 (by omega) q9) <| ai (s3o hw8 (by omega) q10) <| s3b hw8 (by omega) hF
              clear dw0 dw1 dw2
              (try clear hS)
              have hS := hT
              clear hT dd0 dd1 dd2 dd3 dd4 hw8
              have hS2 := hS
              obtain ⟨hq0, q0, q1, q2, ⟨f3, fr3⟩, q4, q5, q6, ⟨f7, fr7⟩, q8, q9, q10, hF⟩ := hS2
              have hgl : w.heap.size + 2 < w8.heap.size := hq0.lt
              have hzw : w.heap.size ≤ w8.heap.size := hF.size
              have hB := hF
              have hz1 : w1.heap.size < w8.heap.size := World.block_lt_of_cell? w8 _ q0
              have hzk8 : w3.heap.size ≤ w8.heap.size := q2.size
              have hz2 : w4.heap.size < w8.heap.size := World.block_lt_of_cell? w8 _ q4
              have hz3 : w5.heap.size < w8.heap.size := World.block_lt_of_cell? w8 _ q8
              refine ⟨(fun W => W.cell? ⟨w1.heap.size, 0, none⟩ = some (.int .i64 (x)) ∧ W.cell? ⟨w1.heap.size, 1, none⟩ = some (.int .i64 (y)) ∧ Below w.heap.size w W), ⟨hS.2.1, hS.2.2.1, hS.2.2.2.2.2.2.2.2.2.2.2.2⟩, (fun W h => h), ?_⟩
              simp only [Act.put, pa, pb, pc]
              repeat (first
                | ((refine seq_skip (by rfl) (by rfl) ?_); simp only [Act.put, pa, pb, pc])
                | ((refine seq_val (v := ?_) (by rfl) (by rfl) (fun w hS => ?_) ?_); rotate_left; (focus ((try dsimp only at hS); go_simp; (try (with_reducible rfl)); done)); simp only [Act.put, pa, pb, pc]))
              obtain ⟨w9, hw9⟩ : ∃ W, W = ((w8.setCell ⟨w5.heap.size, 0, none⟩ (.bool true)).setCell ⟨w5.heap.size, 1, none⟩ (.int .i64 a2)).setCell ⟨w5.heap.size, 2, none⟩ (.int .i64 b2) := ⟨_, rfl⟩
              obtain ⟨dd0, dd1, dd2, dd3, dd4⟩ := box3_sets q8 q9 q10 (.bool true) (.int .i64 a2) (.int .i64 b2)
              refine seq_store (w' := w9) (by rfl) (by rfl) (by rw [hw9]; go_simp; (try (with_reducible rfl)); done) ?_
              obtain ⟨dw0, dw1, dw2⟩ := s3w hw9 q8 q9 q10
              have hT := ai (s3c hw9 (by omega) hq0) <| ai (s3o hw9 (by omega) q0) <| ai (s3o hw9 (by omega) q1) <| ai (s3g hw9 (by omega) q2) <| ai (s3f hw9 f3 fr3) <| ai (s3o hw9 (by omega) q4) <| ai (s3o hw9 (by omega) q5) <| ai (s3o hw9 (by omega) q6) <| ai (s3f hw9 f7 fr7) <| ai (dw0) <| ai (dw1) <| ai (dw2) <| s3b hw9 (by omega) hF
              clear dw0 dw1 dw2
              (try clear hS)
              have hS := hT
              clear hT dd0 dd1 dd2 dd3 dd4 hw9
              have hS2 := hS
              obtain ⟨hq0, q0, q1, q2, ⟨f3, fr3⟩, q4, q5, q6, ⟨f7, fr7⟩, q8, q9, q10, hF⟩ := hS2
              have hgl : w.heap.size + 2 < w9.heap.size := hq0.lt
              have hzw : w.heap.size ≤ w9.heap.size := hF.size
              have hB := hF
              have hz1 : w1.heap.size < w9.heap.size := World.block_lt_of_cell? w9 _ q0
              have hzk9 : w3.heap.size ≤ w9.heap.size := q2.size
              have hz2 : w4.heap.size < w9.heap.size := World.block_lt_of_cell? w9 _ q4
              have hz3 : w5.heap.size < w9.heap.size := World.block_lt_of_cell? w9 _ q8
              refine ⟨(fun W => W.cell? ⟨w1.heap.size, 0, none⟩ = some (.int .i64 (x)) ∧ W.cell? ⟨w1.heap.size, 1, none⟩ = some (.int .i64 (y)) ∧ Below w.heap.size w W), ⟨hS.2.1, hS.2.2.1, hS.2.2.2.2.2.2.2.2.2.2.2.2⟩, (fun W h => h), ?_⟩
              simp only [Act.put, pa, pb, pc]
              repeat (first
                | ((refine seq_skip (by rfl) (by rfl) ?_); simp only [Act.put, pa, pb, pc])
                | ((refine seq_val (v := ?_) (by rfl) (by rfl) (fun w hS => ?_) ?_); rotate_left; (focus ((try dsimp only at hS); go_simp; (try (with_reducible rfl)); done)); simp only [Act.put, pa, pb, pc]))
              refine seq_nil ?_
              go_wp2_with fail
              go_meet
              case rel => exact ⟨w4.heap.size, w5.heap.size, a, b, a2, b2, rfl, rfl, ⟨by omega, by omega, by omega⟩, hS.1, gf (hS.2.2.2.1) (HK9.out.2.1).1 (HK9.out.2.1).2 (by omega), gc (hS.2.2.2.1) (HK9.out.2.2.1) (by omega), gc (hS.2.2.2.1) (HK9.out.2.2.2.1) (by omega), gc (hS.2.2.2.1) (HK9.out.2.2.2.2.1) (by omega), gf (hS.2.2.2.1) (HK9.out.2.2.2.2.2.1).1 (HK9.out.2.2.2.2.2.1).2 (by omega), gc (hS.2.2.2.1) (HK9.out.2.2.2.2.2.2.1) (by omega), gc (hS.2.2.2.1) (HK9.out.2.2.2.2.2.2.2.1) (by omega), gc (hS.2.2.2.1) (HK9.out.2.2.2.2.2.2.2.2.1) (by omega), hS.2.2.2.2.1, hS.2.2.2.2.2.1, hS.2.2.2.2.2.2.1, hS.2.2.2.2.2.2.2.1, hS.2.2.2.2.2.2.2.2.1, hS.2.2.2.2.2.2.2.2.2.1, hS.2.2.2.2.2.2.2.2.2.2.1, hS.2.2.2.2.2.2.2.2.2.2.2.1, hS.2.2.2.2.2.2.2.2.2.2.2.2⟩
            · refine all_seq_core [0, 2, 1, 4, 3, 5, 6, 7] (fun W => W.cell? ⟨w1.heap.size, 0, none⟩ = some (.int .i64 (x)) ∧ W.cell? ⟨w1.heap.size, 1, none⟩ = some (.int .i64 (y)) ∧ Below w.heap.size w W) (Core.trans (Core.trans (Core.trans (Core.trans (addE_core 1 4 _) (addE_core 4 3 _)) (addE_core 1 5 _)) (addE_core 4 5 _)) (addE_core 3 5 _)) (by kernel_rfl) ⟨hS.2.1, hS.2.2.1, hS.2.2.2.2⟩ ?_
              simp only [byNum, List.getElem?_cons_zero, List.getElem?_cons_succ]
              repeat (first
                | ((refine seq_skip (by rfl) (by rfl) ?_); simp only [Act.put, pa, pb, pc])
                | ((refine seq_val (v := ?_) (by rfl) (by rfl) (fun w hS => ?_) ?_); rotate_left; (focus ((try dsimp only at hS); go_simp; (try (with_reducible rfl)); done)); simp only [Act.put, pa, pb, pc]))
              refine seq_call (f := ?_) (args := ?_) (by rfl) (by rfl) ?_ ?_
              rotate_left
              rotate_left
              focus (go_simp; (constructor <;> (with_reducible rfl)); done)
              refine (l7Of_ex x y false (by omega) (by omega) _).mono ?_
              rintro e w4 ⟨a, b, rfl, hb⟩
              have hT := ai (hq0.below hb) <| ai (kc hb q0) <| ai (kc hb q1) <| ai (gb_below q2 hb) <| below_via hF hb
              clear hS hb
              have hS := hT
              clear hT
              have hS2 := hS
              obtain ⟨hq0, q0, q1, q2, hF⟩ := hS2
              have hgl : w.heap.size + 2 < w4.heap.size := hq0.lt
              have hzw : w.heap.size ≤ w4.heap.size := hF.size
              have hB := hF
              have hz1 : w1.heap.size < w4.heap.size := World.block_lt_of_cell? w4 _ q0
              have hzk4 : w3.heap.size ≤ w4.heap.size := q2.size
              refine ⟨_, rfl, (fun W => W.cell? ⟨w1.heap.size, 0, none⟩ = some (.int .i64 (x)) ∧ W.cell? ⟨w1.heap.size, 1, none⟩ = some (.int .i64 (y)) ∧ Below w.heap.size w W), ⟨hS.2.1, hS.2.2.1, hS.2.2.2.2⟩, (fun W h => h), ?_⟩
              simp only [Act.put, pa, pb, pc]
              repeat (first
                | ((refine seq_skip (by rfl) (by rfl) ?_); simp only [Act.put, pa, pb, pc])
                | ((refine seq_val (v := ?_) (by rfl) (by rfl) (fun w hS => ?_) ?_); rotate_left; (focus ((try dsimp only at hS); go_simp; (try (with_reducible rfl)); done)); simp only [Act.put, pa, pb, pc]))
              refine seq_deed (v := ?_) (w' := ?_) (by rfl) (by rfl) ?_ ?_
              rotate_left
              rotate_left
              focus (go_simp; (constructor <;> (with_reducible rfl)); done)
              generalize hgw5 : World.alloc w4 _ = w5
              have hb : Below w4.heap.size w4 w5 := by rw [← hgw5]; go_grown
              obtain ⟨n9, n0, n1, n2⟩ := al3 hgw5
              have hT := ai (hq0.below hb) <| ai (kc hb q0) <| ai (kc hb q1) <| ai (gb_below q2 hb) <| ai (n9) <| ai (n0) <| ai (n1) <| ai (n2) <| below_via (hS.2.2.2.2) hb
              clear n9 n0 n1 n2
              clear hS hb hgw5
              have hS := hT
              clear hT
              have hS2 := hS
              obtain ⟨hq0, q0, q1, q2, ⟨f3, fr3⟩, q4, q5, q6, hF⟩ := hS2
              have hgl : w.heap.size + 2 < w5.heap.size := hq0.lt
              have hzw : w.heap.size ≤ w5.heap.size := hF.size
              have hB := hF
              have hz1 : w1.heap.size < w5.heap.size := World.block_lt_of_cell? w5 _ q0
              have hzk5 : w3.heap.size ≤ w5.heap.size := q2.size
              have hz2 : w4.heap.size < w5.heap.size := World.block_lt_of_cell? w5 _ q4
              refine ⟨(fun W => W.cell? ⟨w1.heap.size, 0, none⟩ = some (.int .i64 (x)) ∧ W.cell? ⟨w1.heap.size, 1, none⟩ = some (.int .i64 (y)) ∧ Below w.heap.size w W), ⟨hS.2.1, hS.2.2.1, hS.2.2.2.2.2.2.2.2⟩, (fun W h => h), ?_⟩
              simp only [Act.put, pa, pb, pc]
              repeat (first
                | ((refine seq_skip (by rfl) (by rfl) ?_); simp only [Act.put, pa, pb, pc])
                | ((refine seq_val (v := ?_) (by rfl) (by rfl) (fun w hS => ?_) ?_); rotate_left; (focus ((try dsimp only at hS); go_simp; (try (with_reducible rfl)); done)); simp only [Act.put, pa, pb, pc]))
              refine seq_call (f := ?_) (args := ?_) (by rfl) (by rfl) ?_ ?_
              rotate_left
              rotate_left
              focus (go_simp; (constructor <;> (with_reducible rfl)); done)
              refine (l7Of_ex x y true (by omega) (by omega) _).mono ?_
              rintro e w6 ⟨a2, b2, rfl, hb⟩
              have hT := ai (hq0.below hb) <| ai (kc hb q0) <| ai (kc hb q1) <| ai (gb_below q2 hb) <| ai (kf hb f3 fr3) <| ai (kc hb q4) <| ai (kc hb q5) <| ai (kc hb q6) <| below_via hF hb
              clear hS hb
              have hS := hT
              clear hT
              have hS2 := hS
              obtain ⟨hq0, q0, q1, q2, ⟨f3, fr3⟩, q4, q5, q6, hF⟩ := hS2
              have hgl : w.heap.size + 2 < w6.heap.size := hq0.lt
              have hzw : w.heap.size ≤ w6.heap.size := hF.size
              have hB := hF
              have hz1 : w1.heap.size < w6.heap.size := World.block_lt_of_cell? w6 _ q0
              have hzk6 : w3.heap.size ≤ w6.heap.size := q2.size
              have hz2 : w4.heap.size < w6.heap.size := World.block_lt_of_cell? w6 _ q4
              refine ⟨_, rfl, (fun W => W.cell? ⟨w1.heap.size, 0, none⟩ = some (.int .i64 (x)) ∧ W.cell? ⟨w1.heap.size, 1, none⟩ = some (.int .i64 (y)) ∧ Below w.heap.size w W), ⟨hS.2.1, hS.2.2.1, hS.2.2.2.2.2.2.2.2⟩, (fun W h => h), ?_⟩
              simp only [Act.put, pa, pb, pc]
              repeat (first
                | ((refine seq_skip (by rfl) (by rfl) ?_); simp only [Act.put, pa, pb, pc])
                | ((refine seq_val (v := ?_) (by rfl) (by rfl) (fun w hS => ?_) ?_); rotate_left; (focus ((try dsimp only at hS); go_simp; (try (with_reducible rfl)); done)); simp only [Act.put, pa, pb, pc]))
              refine seq_deed (v := ?_) (w' := ?_) (by rfl) (by rfl) ?_ ?_
              rotate_left
              rotate_left
              focus (go_simp; (constructor <;> (with_reducible rfl)); done)
              generalize hgw7 : World.alloc w6 _ = w7
              have hb : Below w6.heap.size w6 w7 := by rw [← hgw7]; go_grown
              obtain ⟨n9, n0, n1, n2⟩ := al3 hgw7
              have hT := ai (hq0.below hb) <| ai (kc hb q0) <| ai (kc hb q1) <| ai (gb_below q2 hb) <| ai (kf hb f3 fr3) <| ai (kc hb q4) <| ai (kc hb q5) <| ai (kc hb q6) <| ai (n9) <| ai (n0) <| ai (n1) <| ai (n2) <| below_via (hS.2.2.2.2.2.2.2.2) hb
              clear n9 n0 n1 n2
              clear hS hb hgw7
              have hS := hT
              clear hT
              have hS2 := hS
              obtain ⟨hq0, q0, q1, q2, ⟨f3, fr3⟩, q4, q5, q6, ⟨f7, fr7⟩, q8, q9, q10, hF⟩ := hS2
              have hgl : w.heap.size + 2 < w7.heap.size := hq0.lt
              have hzw : w.heap.size ≤ w7.heap.size := hF.size
              have hB := hF
              have hz1 : w1.heap.size < w7.heap.size := World.block_lt_of_cell? w7 _ q0
              have hzk7 : w3.heap.size ≤ w7.heap.size := q2.size
              have hz2 : w4.heap.size < w7.heap.size := World.block_lt_of_cell? w7 _ q4
              have hz3 : w6.heap.size < w7.heap.size := World.block_lt_of_cell? w7 _ q8
              refine ⟨(fun W => W.cell? ⟨w1.heap.size, 0, none⟩ = some (.int .i64 (x)) ∧ W.cell? ⟨w1.heap.size, 1, none⟩ = some (.int .i64 (y)) ∧ Below w.heap.size w W), ⟨hS.2.1, hS.2.2.1, hS.2.2.2.2.2.2.2.2.2.2.2.2⟩, (fun W h => h), ?_⟩
              simp only [Act.put, pa, pb, pc]
              repeat (first
                | ((refine seq_skip (by rfl) (by rfl) ?_); simp only [Act.put, pa, pb, pc])
                | ((refine seq_val (v := ?_) (by rfl) (by rfl) (fun w hS => ?_) ?_); rotate_left; (focus ((try dsimp only at hS); go_simp; (try (with_reducible rfl)); done)); simp only [Act.put, pa, pb, pc]))
              obtain ⟨w8, hw8⟩ : ∃ W, W = ((w7.setCell ⟨w4.heap.size, 0, none⟩ (.bool false)).setCell ⟨w4.heap.size, 1, none⟩ (.int .i64 a)).setCell ⟨w4.heap.size, 2, none⟩ (.int .i64 b) := ⟨_, rfl⟩
              obtain ⟨dd0, dd1, dd2, dd3, dd4⟩ := box3_sets q4 q5 q6 (.bool false) (.int .i64 a) (.int .i64 b)
              refine seq_store (w' := w8) (by rfl) (by rfl) (by rw [hw8]; go_simp; (try (with_reducible rfl)); done) ?_
              obtain ⟨dw0, dw1, dw2⟩ := s3w hw8 q4 q5 q6
              have hT := ai (s3c hw8 (by omega) hq0) <| ai (s3o hw8 (by omega) q0) <| ai (s3o hw8 (by omega) q1) <| ai (s3g hw8 (by omega) q2) <| ai (s3f hw8 f3 fr3) <| ai (dw0) <| ai (dw1) <| ai (dw2) <| ai (s3f hw8 f7 fr7) <| ai (s3o hw8 (by omega) q8) <| ai (s3o hw8 (by omega) q9) <| ai (s3o hw8 (by omega) q10) <| s3b hw8 (by omega) hF
              clear dw0 dw1 dw2
              (try clear hS)
              have hS := hT
              clear hT dd0 dd1 dd2 dd3 dd4 hw8
              have hS2 := hS
              obtain ⟨hq0, q0, q1, q2, ⟨f3, fr3⟩, q4, q5, q6, ⟨f7, fr7⟩, q8, q9, q10, hF⟩ := hS2
              have hgl : w.heap.size + 2 < w8.heap.size := hq0.lt
              have hzw : w.heap.size ≤ w8.heap.size := hF.size
              have hB := hF
              have hz1 : w1.heap.size < w8.heap.size := World.block_lt_of_cell? w8 _ q0
              have hzk8 : w3.heap.size ≤ w8.heap.size := q2.size
              have hz2 : w4.heap.size < w8.heap.size := World.block_lt_of_cell? w8 _ q4
              have hz3 : w6.heap.size < w8.heap.size := World.block_lt_of_cell? w8 _ q8
              refine ⟨(fun W => W.cell? ⟨w1.heap.size, 0, none⟩ = some (.int .i64 (x)) ∧ W.cell? ⟨w1.heap.size, 1, none⟩ = some (.int .i64 (y)) ∧ Below w.heap.size w W), ⟨hS.2.1, hS.2.2.1, hS.2.2.2.2.2.2.2.2.2.2.2.2⟩, (fun W h => h), ?_⟩
              simp only [Act.put, pa, pb, pc]
              repeat (first
                | ((refine seq_skip (by rfl) (by rfl) ?_); simp only [Act.put, pa, pb, pc])
                | ((refine seq_val (v := ?_) (by rfl) (by rfl) (fun w hS => ?_) ?_); rotate_left; (focus ((try dsimp only at hS); go_simp; (try (with_reducible rfl)); done)); simp only [Act.put, pa, pb, pc]))
              obtain ⟨w9, hw9⟩ : ∃ W, W = ((w8.setCell ⟨w6.heap.size, 0, none⟩ (.bool true)).setCell ⟨w6.heap.size, 1, none⟩ (.int .i64 a2)).setCell ⟨w6.heap.size, 2, none⟩ (.int .i64 b2) := ⟨_, rfl⟩
              obtain ⟨dd0, dd1, dd2, dd3, dd4⟩ := box3_sets q8 q9 q10 (.bool true) (.int .i64 a2) (.int .i64 b2)
              refine seq_store (w' := w9) (by rfl) (by rfl) (by rw [hw9]; go_simp; (try (with_reducible rfl)); done) ?_
              obtain ⟨dw0, dw1, dw2⟩ := s3w hw9 q8 q9 q10
              have hT := ai (s3c hw9 (by omega) hq0) <| ai (s3o hw9 (by omega) q0) <| ai (s3o hw9 (by omega) q1) <| ai (s3g hw9 (by omega) q2) <| ai (s3f hw9 f3 fr3) <| ai (s3o hw9 (by omega) q4) <| ai (s3o hw9 (by omega) q5) <| ai (s3o hw9 (by omega) q6) <| ai (s3f hw9 f7 fr7) <| ai (dw0) <| ai (dw1) <| ai (dw2) <| s3b hw9 (by omega) hF
              clear dw0 dw1 dw2
              (try clear hS)
              have hS := hT
              clear hT dd0 dd1 dd2 dd3 dd4 hw9
              have hS2 := hS
              obtain ⟨hq0, q0, q1, q2, ⟨f3, fr3⟩, q4, q5, q6, ⟨f7, fr7⟩, q8, q9, q10, hF⟩ := hS2
              have hgl : w.heap.size + 2 < w9.heap.size := hq0.lt
              have hzw : w.heap.size ≤ w9.heap.size := hF.size
              have hB := hF
              have hz1 : w1.heap.size < w9.heap.size := World.block_lt_of_cell? w9 _ q0
              have hzk9 : w3.heap.size ≤ w9.heap.size := q2.size
              have hz2 : w4.heap.size < w9.heap.size := World.block_lt_of_cell? w9 _ q4
              have hz3 : w6.heap.size < w9.heap.size := World.block_lt_of_cell? w9 _ q8
              refine ⟨(fun W => W.cell? ⟨w1.heap.size, 0, none⟩ = some (.int .i64 (x)) ∧ W.cell? ⟨w1.heap.size, 1, none⟩ = some (.int .i64 (y)) ∧ Below w.heap.size w W), ⟨hS.2.1, hS.2.2.1, hS.2.2.2.2.2.2.2.2.2.2.2.2⟩, (fun W h => h), ?_⟩
              simp only [Act.put, pa, pb, pc]
              repeat (first
                | ((refine seq_skip (by rfl) (by rfl) ?_); simp only [Act.put, pa, pb, pc])
                | ((refine seq_val (v := ?_) (by rfl) (by rfl) (fun w hS => ?_) ?_); rotate_left; (focus ((try dsimp only at hS); go_simp; (try (with_reducible rfl)); done)); simp only [Act.put, pa, pb, pc]))
              refine seq_nil ?_
              go_wp2_with fail
              go_meet
              case rel => exact ⟨w4.heap.size, w6.heap.size, a, b, a2, b2, rfl, rfl, ⟨by omega, by omega, by omega⟩, hS.1, gf (hS.2.2.2.1) (HK9.out.2.1).1 (HK9.out.2.1).2 (by omega), gc (hS.2.2.2.1) (HK9.out.2.2.1) (by omega), gc (hS.2.2.2.1) (HK9.out.2.2.2.1) (by omega), gc (hS.2.2.2.1) (HK9.out.2.2.2.2.1) (by omega), gf (hS.2.2.2.1) (HK9.out.2.2.2.2.2.1).1 (HK9.out.2.2.2.2.2.1).2 (by omega), gc (hS.2.2.2.1) (HK9.out.2.2.2.2.2.2.1) (by omega), gc (hS.2.2.2.1) (HK9.out.2.2.2.2.2.2.2.1) (by omega), gc (hS.2.2.2.1) (HK9.out.2.2.2.2.2.2.2.2.1) (by omega), hS.2.2.2.2.1, hS.2.2.2.2.2.1, hS.2.2.2.2.2.2.1, hS.2.2.2.2.2.2.2.1, hS.2.2.2.2.2.2.2.2.1, hS.2.2.2.2.2.2.2.2.2.1, hS.2.2.2.2.2.2.2.2.2.2.1, hS.2.2.2.2.2.2.2.2.2.2.2.1, hS.2.2.2.2.2.2.2.2.2.2.2.2⟩
      · refine all_split 5 1 (by decide) ?_ ?_
        · refine all_seq_core [0, 2, 5, 1, 3, 4, 6, 7] (fun W => W.cell? ⟨w1.heap.size, 0, none⟩ = some (.int .i64 (x)) ∧ W.cell? ⟨w1.heap.size, 1, none⟩ = some (.int .i64 (y)) ∧ Below w.heap.size w W) (Core.trans (Core.trans (addE_core 1 4 _) (addE_core 3 4 _)) (addE_core 5 1 _)) (by kernel_rfl) ⟨hS.2.1, hS.2.2.1, hS.2.2.2.2⟩ ?_
          simp only [byNum, List.getElem?_cons_zero, List.getElem?_cons_succ]
          repeat (first
            | ((refine seq_skip (by rfl) (by rfl) ?_); simp only [Act.put, pa, pb, pc])
            | ((refine seq_val (v := ?_) (by rfl) (by rfl) (fun w hS => ?_) ?_); rotate_left; (focus ((try dsimp only at hS); go_simp; (try (with_reducible rfl)); done)); simp only [Act.put, pa, pb, pc]))
          refine seq_deed (v := ?_) (w' := ?_) (by rfl) (by rfl) ?_ ?_
          rotate_left
          rotate_left
          focus (go_simp; (constructor <;> (with_reducible rfl)); done)
          generalize hgw4 : World.alloc w3 _ = w4
          have hb : Below w3.heap.size w3 w4 := by rw [← hgw4]; go_grown
          obtain ⟨n9, n0, n1, n2⟩ := al3 hgw4
          have hT := ai (hq0.below hb) <| ai (kc hb q0) <| ai (kc hb q1) <| ai (gb_below q2 hb) <| ai (n9) <| ai (n0) <| ai (n1) <| ai (n2) <| below_via (hS.2.2.2.2) hb
          clear n9 n0 n1 n2
          clear hS hb hgw4
          have hS := hT
          clear hT
          have hS2 := hS
          obtain ⟨hq0, q0, q1, q2, ⟨f3, fr3⟩, q4, q5, q6, hF⟩ := hS2
          have hgl : w.heap.size + 2 < w4.heap.size := hq0.lt
          have hzw : w.heap.size ≤ w4.heap.size := hF.size
          have hB := hF
          have hz1 : w1.heap.size < w4.heap.size := World.block_lt_of_cell? w4 _ q0
          have hzk4 : w3.heap.size ≤ w4.heap.size := q2.size
          have hz2 : w3.heap.size < w4.heap.size := World.block_lt_of_cell? w4 _ q4
          refine ⟨(fun W => W.cell? ⟨w1.heap.size, 0, none⟩ = some (.int .i64 (x)) ∧ W.cell? ⟨w1.heap.size, 1, none⟩ = some (.int .i64 (y)) ∧ Below w.heap.size w W), ⟨hS.2.1, hS.2.2.1, hS.2.2.2.2.2.2.2.2⟩, (fun W h => h), ?_⟩
          simp only [Act.put, pa, pb, pc]
          repeat (first
            | ((refine seq_skip (by rfl) (by rfl) ?_); simp only [Act.put, pa, pb, pc])
            | ((refine seq_val (v := ?_) (by rfl) (by rfl) (fun w hS => ?_) ?_); rotate_left; (focus ((try dsimp only at hS); go_simp; (try (with_reducible rfl)); done)); simp only [Act.put, pa, pb, pc]))
          refine seq_call (f := ?_) (args := ?_) (by rfl) (by rfl) ?_ ?_
          rotate_left
          rotate_left
          focus (go_simp; (constructor <;> (with_reducible rfl)); done)
          refine (l7Of_ex x y false (by omega) (by omega) _).mono ?_
          rintro e w5 ⟨a, b, rfl, hb⟩
          have hT := ai (hq0.below hb) <| ai (kc hb q0) <| ai (kc hb q1) <| ai (gb_below q2 hb) <| ai (kf hb f3 fr3) <| ai (kc hb q4) <| ai (kc hb q5) <| ai (kc hb q6) <| below_via hF hb
          clear hS hb
          have hS := hT
          clear hT
          have hS2 := hS
          obtain ⟨hq0, q0, q1, q2, ⟨f3, fr3⟩, q4, q5, q6, hF⟩ := hS2
          have hgl : w.heap.size + 2 < w5.heap.size := hq0.lt
          have hzw : w.heap.size ≤ w5.heap.size := hF.size
          have hB := hF
          have hz1 : w1.heap.size < w5.heap.size := World.block_lt_of_cell? w5 _ q0
          have hzk5 : w3.heap.size ≤ w5.heap.size := q2.size
          have hz2 : w3.heap.size < w5.heap.size := World.block_lt_of_cell? w5 _ q4
          refine ⟨_, rfl, (fun W => W.cell? ⟨w1.heap.size, 0, none⟩ = some (.int .i64 (x)) ∧ W.cell? ⟨w1.heap.size, 1, none⟩ = some (.int .i64 (y)) ∧ Below w.heap.size w W), ⟨hS.2.1, hS.2.2.1, hS.2.2.2.2.2.2.2.2⟩, (fun W h => h), ?_⟩
          simp only [Act.put, pa, pb, pc]
          repeat (first
            | ((refine seq_skip (by rfl) (by rfl) ?_); simp only [Act.put, pa, pb, pc])
            | ((refine seq_val (v := ?_) (by rfl) (by rfl) (fun w hS => ?_) ?_); rotate_left; (focus ((try dsimp only at hS); go_simp; (try (with_reducible rfl)); done)); simp only [Act.put, pa, pb, pc]))
          refine seq_call (f := ?_) (args := ?_) (by rfl) (by rfl) ?_ ?_
          rotate_left
          rotate_left
          focus (go_simp; (constructor <;> (with_reducible rfl)); done)
          refine (l7Of_ex x y true (by omega) (by omega) _).mono ?_
          rintro e w6 ⟨a2, b2, rfl, hb⟩
          have hT := ai (hq0.below hb) <| ai (kc hb q0) <| ai (kc hb q1) <| ai (gb_below q2 hb) <| ai (kf hb f3 fr3) <| ai (kc hb q4) <| ai (kc hb q5) <| ai (kc hb q6) <| below_via hF hb
          clear hS hb
          have hS := hT
          clear hT
          have hS2 := hS
          obtain ⟨hq0, q0, q1, q2, ⟨f3, fr3⟩, q4, q5, q6, hF⟩ := hS2
          have hgl : w.heap.size + 2 < w6.heap.size := hq0.lt
          have hzw : w.heap.size ≤ w6.heap.size := hF.size
          have hB := hF
          have hz1 : w1.heap.size < w6.heap.size := World.block_lt_of_cell? w6 _ q0
          have hzk6 : w3.heap.size ≤ w6.heap.size := q2.size
          have hz2 : w3.heap.size < w6.heap.size := World.block_lt_of_cell? w6 _ q4
          refine ⟨_, rfl, (fun W => W.cell? ⟨w1.heap.size, 0, none⟩ = some (.int .i64 (x)) ∧ W.cell? ⟨w1.heap.size, 1, none⟩ = some (.int .i64 (y)) ∧ Below w.heap.size w W), ⟨hS.2.1, hS.2.2.1, hS.2.2.2.2.2.2.2.2⟩, (fun W h => h), ?_⟩
          simp only [Act.put, pa, pb, pc]
          repeat (first
            | ((refine seq_skip (by rfl) (by rfl) ?_); simp only [Act.put, pa, pb, pc])
            | ((refine seq_val (v := ?_) (by rfl) (by rfl) (fun w hS => ?_) ?_); rotate_left; (focus ((try dsimp only at hS); go_simp; (try (with_reducible rfl)); done)); simp only [Act.put, pa, pb, pc]))
          refine seq_deed (v := ?_) (w' := ?_) (by rfl) (by rfl) ?_ ?_
          rotate_left
          rotate_left
          focus (go_simp; (constructor <;> (with_reducible rfl)); done)
          generalize hgw7 : World.alloc w6 _ = w7
          have hb : Below w6.heap.size w6 w7 := by rw [← hgw7]; go_grown
          obtain ⟨n9, n0, n1, n2⟩ := al3 hgw7
          have hT := ai (hq0.below hb) <| ai (kc hb q0) <| ai (kc hb q1) <| ai (gb_below q2 hb) <| ai (kf hb f3 fr3) <| ai (kc hb q4) <| ai (kc hb q5) <| ai (kc hb q6) <| ai (n9) <| ai (n0) <| ai (n1) <| ai (n2) <| below_via (hS.2.2.2.2.2.2.2.2) hb
          clear n9 n0 n1 n2
          clear hS hb hgw7
          have hS := hT
          clear hT
          have hS2 := hS
          obtain ⟨hq0, q0, q1, q2, ⟨f3, fr3⟩, q4, q5, q6, ⟨f7, fr7⟩, q8, q9, q10, hF⟩ := hS2
          have hgl : w.heap.size + 2 < w7.heap.size := hq0.lt
          have hzw : w.heap.size ≤ w7.heap.size := hF.size
          have hB := hF
          have hz1 : w1.heap.size < w7.heap.size := World.block_lt_of_cell? w7 _ q0
          have hzk7 : w3.heap.size ≤ w7.heap.size := q2.size
          have hz2 : w3.heap.size < w7.heap.size := World.block_lt_of_cell? w7 _ q4
          have hz3 : w6.heap.size < w7.heap.size := World.block_lt_of_cell? w7 _ q8
          refine ⟨(fun W => W.cell? ⟨w1.heap.size, 0, none⟩ = some (.int .i64 (x)) ∧ W.cell? ⟨w1.heap.size, 1, none⟩ = some (.int .i64 (y)) ∧ Below w.heap.size w W), ⟨hS.2.1, hS.2.2.1, hS.2.2.2.2.2.2.2.2.2.2.2.2⟩, (fun W h => h), ?_⟩
          simp only [Act.put, pa, pb, pc]
          repeat (first
            | ((refine seq_skip (by rfl) (by rfl) ?_); simp only [Act.put, pa, pb, pc])
            | ((refine seq_val (v := ?_) (by rfl) (by rfl) (fun w hS => ?_) ?_); rotate_left; (focus ((try dsimp only at hS); go_simp; (try (with_reducible rfl)); done)); simp only [Act.put, pa, pb, pc]))
          obtain ⟨w8, hw8⟩ : ∃ W, W = ((w7.setCell ⟨w6.heap.size, 0, none⟩ (.bool false)).setCell ⟨w6.heap.size, 1, none⟩ (.int .i64 a)).setCell ⟨w6.heap.size, 2, none⟩ (.int .i64 b) := ⟨_, rfl⟩
          obtain ⟨dd0, dd1, dd2, dd3, dd4⟩ := box3_sets q8 q9 q10 (.bool false) (.int .i64 a) (.int .i64 b)
          refine seq_store (w' := w8) (by rfl) (by rfl) (by rw [hw8]; go_simp; (try (with_reducible rfl)); done) ?_
          obtain ⟨dw0, dw1, dw2⟩ := s3w hw8 q8 q9 q10
          have hT := ai (s3c hw8 (by omega) hq0) <| ai (s3o hw8 (by omega) q0) <| ai (s3o hw8 (by omega) q1) <| ai (s3g hw8 (by omega) q2) <| ai (s3f hw8 f3 fr3) <| ai (s3o hw8 (by omega) q4) <| ai (s3o hw8 (by omega) q5) <| ai (s3o hw8 (by omega) q6) <| ai (s3f hw8 f7 fr7) <| ai (dw0) <| ai (dw1) <| ai (dw2) <| s3b hw8 (by omega) hF
          clear dw0 dw1 dw2
          (try clear hS)
          have hS := hT
          clear hT dd0 dd1 dd2 dd3 dd4 hw8
          have hS2 := hS
          obtain ⟨hq0, q0, q1, q2, ⟨f3, fr3⟩, q4, q5, q6, ⟨f7, fr7⟩, q8, q9, q10, hF⟩ := hS2
          have hgl : w.heap.size + 2 < w8.heap.size := hq0.lt
          have hzw : w.heap.size ≤ w8.heap.size := hF.size
          have hB := hF
          have hz1 : w1.heap.size < w8.heap.size := World.block_lt_of_cell? w8 _ q0
          have hzk8 : w3.heap.size ≤ w8.heap.size := q2.size
          have hz2 : w3.heap.size < w8.heap.size := World.block_lt_of_cell? w8 _ q4
          have hz3 : w6.heap.size < w8.heap.size := World.block_lt_of_cell? w8 _ q8
          refine ⟨(fun W => W.cell? ⟨w1.heap.size, 0, none⟩ = some (.int .i64 (x)) ∧ W.cell? ⟨w1.heap.size, 1, none⟩ = some (.int .i64 (y)) ∧ Below w.heap.size w W), ⟨hS.2.1, hS.2.2.1, hS.2.2.2.2.2.2.2.2.2.2.2.2⟩, (fun W h => h), ?_⟩
          simp only [Act.put, pa, pb, pc]
          repeat (first
            | ((refine seq_skip (by rfl) (by rfl) ?_); simp only [Act.put, pa, pb, pc])
            | ((refine seq_val (v := ?_) (by rfl) (by rfl) (fun w hS => ?_) ?_); rotate_left; (focus ((try dsimp only at hS); go_simp; (try (with_reducible rfl)); done)); simp only [Act.put, pa, pb, pc]))
          obtain ⟨w9, hw9⟩ : ∃ W, W = ((w8.setCell ⟨w3.heap.size, 0, none⟩ (.bool true)).setCell ⟨w3.heap.size, 1, none⟩ (.int .i64 a2)).setCell ⟨w3.heap.size, 2, none⟩ (.int .i64 b2) := ⟨_, rfl⟩
          obtain ⟨dd0, dd1, dd2, dd3, dd4⟩ := box3_sets q4 q5 q6 (.bool true) (.int .i64 a2) (.int .i64 b2)
          refine seq_store (w' := w9) (by rfl) (by rfl) (by rw [hw9]; go_simp; (try (with_reducible rfl)); done) ?_
          obtain ⟨dw0, dw1, dw2⟩ := s3w hw9 q4 q5 q6
          have hT := ai (s3c hw9 (by omega) hq0) <| ai (s3o hw9 (by omega) q0) <| ai (s3o hw9 (by omega) q1) <| ai (s3g hw9 (by omega) q2) <| ai (s3f hw9 f3 fr3) <| ai (dw0) <| ai (dw1) <| ai (dw2) <| ai (s3f hw9 f7 fr7) <| ai (s3o hw9 (by omega) q8) <| ai (s3o hw9 (by omega) q9) <| ai (s3o hw9 (by omega) q10) <| s3b hw9 (by omega) hF
          clear dw0 dw1 dw2
          (try clear hS)
          have hS := hT
          clear hT dd0 dd1 dd2 dd3 dd4 hw9
          have hS2 := hS
          obtain ⟨hq0, q0, q1, q2, ⟨f3, fr3⟩, q4, q5, q6, ⟨f7, fr7⟩, q8, q9, q10, hF⟩ := hS2
          have hgl : w.heap.size + 2 < w9.heap.size := hq0.lt
          have hzw : w.heap.size ≤ w9.heap.size := hF.size
          have hB := hF
          have hz1 : w1.heap.size < w9.heap.size := World.block_lt_of_cell? w9 _ q0
          have hzk9 : w3.heap.size ≤ w9.heap.size := q2.size
          have hz2 : w3.heap.size < w9.heap.size := World.block_lt_of_cell? w9 _ q4
          have hz3 : w6.heap.size < w9.heap.size := World.block_lt_of_cell? w9 _ q8
          refine ⟨(fun W => W.cell? ⟨w1.heap.size, 0, none⟩ = some (.int .i64 (x)) ∧ W.cell? ⟨w1.heap.size, 1, none⟩ = some (.int .i64 (y)) ∧ Below w.heap.size w W), ⟨hS.2.1, hS.2.2.1, hS.2.2.2.2.2.2.2.2.2.2.2.2⟩, (fun W h => h), ?_⟩
          simp only [Act.put, pa, pb, pc]
          repeat (first
            | ((refine seq_skip (by rfl) (by rfl) ?_); simp only [Act.put, pa, pb, pc])
            | ((refine seq_val (v := ?_) (by rfl) (by rfl) (fun w hS => ?_) ?_); rotate_left; (focus ((try dsimp only at hS); go_simp; (try (with_reducible rfl)); done)); simp only [Act.put, pa, pb, pc]))
          refine seq_nil ?_
          go_wp2_with fail
          go_meet
          case rel => exact ⟨w6.heap.size, w3.heap.size, a, b, a2, b2, rfl, rfl, ⟨by omega, by omega, by omega⟩, hS.1, gf (hS.2.2.2.1) (HK9.out.2.1).1 (HK9.out.2.1).2 (by omega), gc (hS.2.2.2.1) (HK9.out.2.2.1) (by omega), gc (hS.2.2.2.1) (HK9.out.2.2.2.1) (by omega), gc (hS.2.2.2.1) (HK9.out.2.2.2.2.1) (by omega), gf (hS.2.2.2.1) (HK9.out.2.2.2.2.2.1).1 (HK9.out.2.2.2.2.2.1).2 (by omega), gc (hS.2.2.2.1) (HK9.out.2.2.2.2.2.2.1) (by omega), gc (hS.2.2.2.1) (HK9.out.2.2.2.2.2.2.2.1) (by omega), gc (hS.2.2.2.1) (HK9.out.2.2.2.2.2.2.2.2.1) (by omega), hS.2.2.2.2.2.2.2.2.1, hS.2.2.2.2.2.2.2.2.2.1, hS.2.2.2.2.2.2.2.2.2.2.1, hS.2.2.2.2.2.2.2.2.2.2.2.1, hS.2.2.2.2.1, hS.2.2.2.2.2.1, hS.2.2.2.2.2.2.1, hS.2.2.2.2.2.2.2.1, hS.2.2.2.2.2.2.2.2.2.2.2.2⟩
        · refine all_split 5 3 (by decide) ?_ ?_
          · refine all_seq_core [0, 2, 1, 5, 3, 4, 6, 7] (fun W => W.cell? ⟨w1.heap.size, 0, none⟩ = some (.int .i64 (x)) ∧ W.cell? ⟨w1.heap.size, 1, none⟩ = some (.int .i64 (y)) ∧ Below w.heap.size w W) (Core.trans (Core.trans (Core.trans (addE_core 1 4 _) (addE_core 3 4 _)) (addE_core 1 5 _)) (addE_core 5 3 _)) (by kernel_rfl) ⟨hS.2.1, hS.2.2.1, hS.2.2.2.2⟩ ?_
            simp only [byNum, List.getElem?_cons_zero, List.getElem?_cons_succ]
            repeat (first
              | ((refine seq_skip (by rfl) (by rfl) ?_); simp only [Act.put, pa, pb, pc])
              | ((refine seq_val (v := ?_) (by rfl) (by rfl) (fun w hS => ?_) ?_); rotate_left; (focus ((try dsimp only at hS); go_simp; (try (with_reducible rfl)); done)); simp only [Act.put, pa, pb, pc]))
            refine seq_call (f := ?_) (args := ?_) (by rfl) (by rfl) ?_ ?_
            rotate_left
            rotate_left
            focus (go_simp; (constructor <;> (with_reducible rfl)); done)
            refine (l7Of_ex x y false (by omega) (by omega) _).mono ?_
            rintro e w4 ⟨a, b, rfl, hb⟩
            have hT := ai (hq0.below hb) <| ai (kc hb q0) <| ai (kc hb q1) <| ai (gb_below q2 hb) <| below_via hF hb
            clear hS hb
            have hS := hT
            clear hT
            have hS2 := hS
            obtain ⟨hq0, q0, q1, q2, hF⟩ := hS2
            have hgl : w.heap.size + 2 < w4.heap.size := hq0.lt
            have hzw : w.heap.size ≤ w4.heap.size := hF.size
            have hB := hF
            have hz1 : w1.heap.size < w4.heap.size := World.block_lt_of_cell? w4 _ q0
            have hzk4 : w3.heap.size ≤ w4.heap.size := q2.size
            refine ⟨_, rfl, (fun W => W.cell? ⟨w1.heap.size, 0, none⟩ = some (.int .i64 (x)) ∧ W.cell? ⟨w1.heap.size, 1, none⟩ = some (.int .i64 (y)) ∧ Below w.heap.size w W), ⟨hS.2.1, hS.2.2.1, hS.2.2.2.2⟩, (fun W h => h), ?_⟩
            simp only [Act.put, pa, pb, pc]
            repeat (first
              | ((refine seq_skip (by rfl) (by rfl) ?_); simp only [Act.put, pa, pb, pc])
              | ((refine seq_val (v := ?_) (by rfl) (by rfl) (fun w hS => ?_) ?_); rotate_left; (focus ((try dsimp only at hS); go_simp; (try (with_reducible rfl)); done)); simp only [Act.put, pa, pb, pc]))
            refine seq_deed (v := ?_) (w' := ?_) (by rfl) (by rfl) ?_ ?_
            rotate_left
            rotate_left
            focus (go_simp; (constructor <;> (with_reducible rfl)); done)
            generalize hgw5 : World.alloc w4 _ = w5
            have hb : Below w4.heap.size w4 w5 := by rw [← hgw5]; go_grown
            obtain ⟨n9, n0, n1, n2⟩ := al3 hgw5
            have hT := ai (hq0.below hb) <| ai (kc hb q0) <| ai (kc hb q1) <| ai (gb_below q2 hb) <| ai (n9) <| ai (n0) <| ai (n1) <| ai (n2) <| below_via (hS.2.2.2.2) hb
            clear n9 n0 n1 n2
            clear hS hb hgw5
            have hS := hT
            clear hT
            have hS2 := hS
            obtain ⟨hq0, q0, q1, q2, ⟨f3, fr3⟩, q4, q5, q6, hF⟩ := hS2
            have hgl : w.heap.size + 2 < w5.heap.size := hq0.lt
            have hzw : w.heap.size ≤ w5.heap.size := hF.size
            have hB := hF
            have hz1 : w1.heap.size < w5.heap.size := World.block_lt_of_cell? w5 _ q0
            have hzk5 : w3.heap.size ≤ w5.heap.size := q2.size
            have hz2 : w4.heap.size < w5.heap.size := World.block_lt_of_cell? w5 _ q4
            refine ⟨(fun W => W.cell? ⟨w1.heap.size, 0, none⟩ = some (.int .i64 (x)) ∧ W.cell? ⟨w1.heap.size, 1, none⟩ = some (.int .i64 (y)) ∧ Below w.heap.size w W), ⟨hS.2.1, hS.2.2.1, hS.2.2.2.2.2.2.2.2⟩, (fun W h => h), ?_⟩
            simp only [Act.put, pa, pb, pc]
            repeat (first
              | ((refine seq_skip (by rfl) (by rfl) ?_); simp only [Act.put, pa, pb, pc])
              | ((refine seq_val (v := ?_) (by rfl) (by rfl) (fun w hS => ?_) ?_); rotate_left; (focus ((try dsimp only at hS); go_simp; (try (with_reducible rfl)); done)); simp only [Act.put, pa, pb, pc]))
            refine seq_call (f := ?_) (args := ?_) (by rfl) (by rfl) ?_ ?_
            rotate_left
            rotate_left
            focus (go_simp; (constructor <;> (with_reducible rfl)); done)
            refine (l7Of_ex x y true (by omega) (by omega) _).mono ?_
            rintro e w6 ⟨a2, b2, rfl, hb⟩
            have hT := ai (hq0.below hb) <| ai (kc hb q0) <| ai (kc hb q1) <| ai (gb_below q2 hb) <| ai (kf hb f3 fr3) <| ai (kc hb q4) <| ai (kc hb q5) <| ai (kc hb q6) <| below_via hF hb
            clear hS hb
            have hS := hT
            clear hT
            have hS2 := hS
            obtain ⟨hq0, q0, q1, q2, ⟨f3, fr3⟩, q4, q5, q6, hF⟩ := hS2
            have hgl : w.heap.size + 2 < w6.heap.size := hq0.lt
            have hzw : w.heap.size ≤ w6.heap.size := hF.size
            have hB := hF
            have hz1 : w1.heap.size < w6.heap.size := World.block_lt_of_cell? w6 _ q0
            have hzk6 : w3.heap.size ≤ w6.heap.size := q2.size
            have hz2 : w4.heap.size < w6.heap.size := World.block_lt_of_cell? w6 _ q4
            refine ⟨_, rfl, (fun W => W.cell? ⟨w1.heap.size, 0, none⟩ = some (.int .i64 (x)) ∧ W.cell? ⟨w1.heap.size, 1, none⟩ = some (.int .i64 (y)) ∧ Below w.heap.size w W), ⟨hS.2.1, hS.2.2.1, hS.2.2.2.2.2.2.2.2⟩, (fun W h => h), ?_⟩
            simp only [Act.put, pa, pb, pc]
            repeat (first
              | ((refine seq_skip (by rfl) (by rfl) ?_); simp only [Act.put, pa, pb, pc])
              | ((refine seq_val (v := ?_) (by rfl) (by rfl) (fun w hS => ?_) ?_); rotate_left; (focus ((try dsimp only at hS); go_simp; (try (with_reducible rfl)); done)); simp only [Act.put, pa, pb, pc]))
            refine seq_deed (v := ?_) (w' := ?_) (by rfl) (by rfl) ?_ ?_
            rotate_left
            rotate_left
            focus (go_simp; (constructor <;> (with_reducible rfl)); done)
            generalize hgw7 : World.alloc w6 _ = w7
            have hb : Below w6.heap.size w6 w7 := by rw [← hgw7]; go_grown
            obtain ⟨n9, n0, n1, n2⟩ := al3 hgw7
            have hT := ai (hq0.below hb) <| ai (kc hb q0) <| ai (kc hb q1) <| ai (gb_below q2 hb) <| ai (kf hb f3 fr3) <| ai (kc hb q4) <| ai (kc hb q5) <| ai (kc hb q6) <| ai (n9) <| ai (n0) <| ai (n1) <| ai (n2) <| below_via (hS.2.2.2.2.2.2.2.2) hb
            clear n9 n0 n1 n2
            clear hS hb hgw7
            have hS := hT
            clear hT
            have hS2 := hS
            obtain ⟨hq0, q0, q1, q2, ⟨f3, fr3⟩, q4, q5, q6, ⟨f7, fr7⟩, q8, q9, q10, hF⟩ := hS2
            have hgl : w.heap.size + 2 < w7.heap.size := hq0.lt
            have hzw : w.heap.size ≤ w7.heap.size := hF.size
            have hB := hF
            have hz1 : w1.heap.size < w7.heap.size := World.block_lt_of_cell? w7 _ q0
            have hzk7 : w3.heap.size ≤ w7.heap.size := q2.size
            have hz2 : w4.heap.size < w7.heap.size := World.block_lt_of_cell? w7 _ q4
            have hz3 : w6.heap.size < w7.heap.size := World.block_lt_of_cell? w7 _ q8
            refine ⟨(fun W => W.cell? ⟨w1.heap.size, 0, none⟩ = some (.int .i64 (x)) ∧ W.cell? ⟨w1.heap.size, 1, none⟩ = some (.int .i64 (y)) ∧ Below w.heap.size w W), ⟨hS.2.1, hS.2.2.1, hS.2.2.2.2.2.2.2.2.2.2.2.2⟩, (fun W h => h), ?_⟩
            simp only [Act.put, pa, pb, pc]
            repeat (first
              | ((refine seq_skip (by rfl) (by rfl) ?_); simp only [Act.put, pa, pb, pc])
              | ((refine seq_val (v := ?_) (by rfl) (by rfl) (fun w hS => ?_) ?_); rotate_left; (focus ((try dsimp only at hS); go_simp; (try (with_reducible rfl)); done)); simp only [Act.put, pa, pb, pc]))
            obtain ⟨w8, hw8⟩ : ∃ W, W = ((w7.setCell ⟨w6.heap.size, 0, none⟩ (.bool false)).setCell ⟨w6.heap.size, 1, none⟩ (.int .i64 a)).setCell ⟨w6.heap.size, 2, none⟩ (.int .i64 b) := ⟨_, rfl⟩
            obtain ⟨dd0, dd1, dd2, dd3, dd4⟩ := box3_sets q8 q9 q10 (.bool false) (.int .i64 a) (.int .i64 b)
            refine seq_store (w' := w8) (by rfl) (by rfl) (by rw [hw8]; go_simp; (try (with_reducible rfl)); done) ?_
            obtain ⟨dw0, dw1, dw2⟩ := s3w hw8 q8 q9 q10
            have hT := ai (s3c hw8 (by omega) hq0) <| ai (s3o hw8 (by omega) q0) <| ai (s3o hw8 (by omega) q1) <| ai (s3g hw8 (by omega) q2) <| ai (s3f hw8 f3 fr3) <| ai (s3o hw8 (by omega) q4) <| ai (s3o hw8 (by omega) q5) <| ai (s3o hw8 (by omega) q6) <| ai (s3f hw8 f7 fr7) <| ai (dw0) <| ai (dw1) <| ai (dw2) <| s3b hw8 (by omega) hF
            clear dw0 dw1 dw2
            (try clear hS)
            have hS := hT
            clear hT dd0 dd1 dd2 dd3 dd4 hw8
            have hS2 := hS
            obtain ⟨hq0, q0, q1, q2, ⟨f3, fr3⟩, q4, q5, q6, ⟨f7, fr7⟩, q8, q9, q10, hF⟩ := hS2
            have hgl : w.heap.size + 2 < w8.heap.size := hq0.lt
            have hzw : w.heap.size ≤ w8.heap.size := hF.size
            have hB := hF
            have hz1 : w1.heap.size < w8.heap.size := World.block_lt_of_cell? w8 _ q0
            have hzk8 : w3.heap.size ≤ w8.heap.size := q2.size
            have hz2 : w4.heap.size < w8.heap.size := World.block_lt_of_cell? w8 _ q4
            have hz3 : w6.heap.size < w8.heap.size := World.block_lt_of_cell? w8 _ q8
            refine ⟨(fun W => W.cell? ⟨w1.heap.size, 0, none⟩ = some (.int .i64 (x)) ∧ W.cell? ⟨w1.heap.size, 1, none⟩ = some (.int .i64 (y)) ∧ Below w.heap.size w W), ⟨hS.2.1, hS.2.2.1, hS.2.2.2.2.2.2.2.2.2.2.2.2⟩, (fun W h => h), ?_⟩
            simp only [Act.put, pa, pb, pc]
            repeat (first
              | ((refine seq_skip (by rfl) (by rfl) ?_); simp only [Act.put, pa, pb, pc])
              | ((refine seq_val (v := ?_) (by rfl) (by rfl) (fun w hS => ?_) ?_); rotate_left; (focus ((try dsimp only at hS); go_simp; (try (with_reducible rfl)); done)); simp only [Act.put, pa, pb, pc]))
            obtain ⟨w9, hw9⟩ : ∃ W, W = ((w8.setCell ⟨w4.heap.size, 0, none⟩ (.bool true)).setCell ⟨w4.heap.size, 1, none⟩ (.int .i64 a2)).setCell ⟨w4.heap.size, 2, none⟩ (.int .i64 b2) := ⟨_, rfl⟩
            obtain ⟨dd0, dd1, dd2, dd3, dd4⟩ := box3_sets q4 q5 q6 (.bool true) (.int .i64 a2) (.int .i64 b2)
            refine seq_store (w' := w9) (by rfl) (by rfl) (by rw [hw9]; go_simp; (try (with_reducible rfl)); done) ?_
            obtain ⟨dw0, dw1, dw2⟩ := s3w hw9 q4 q5 q6
            have hT := ai (s3c hw9 (by omega) hq0) <| ai (s3o hw9 (by omega) q0) <| ai (s3o hw9 (by omega) q1) <| ai (s3g hw9 (by omega) q2) <| ai (s3f hw9 f3 fr3) <| ai (dw0) <| ai (dw1) <| ai (dw2) <| ai (s3f hw9 f7 fr7) <| ai (s3o hw9 (by omega) q8) <| ai (s3o hw9 (by omega) q9) <| ai (s3o hw9 (by omega) q10) <| s3b hw9 (by omega) hF
            clear dw0 dw1 dw2
            (try clear hS)
            have hS := hT
            clear hT dd0 dd1 dd2 dd3 dd4 hw9
            have hS2 := hS
            obtain ⟨hq0, q0, q1, q2, ⟨f3, fr3⟩, q4, q5, q6, ⟨f7, fr7⟩, q8, q9, q10, hF⟩ := hS2
            have hgl : w.heap.size + 2 < w9.heap.size := hq0.lt
            have hzw : w.heap.size ≤ w9.heap.size := hF.size
            have hB := hF
            have hz1 : w1.heap.size < w9.heap.size := World.block_lt_of_cell? w9 _ q0
            have hzk9 : w3.heap.size ≤ w9.heap.size := q2.size
            have hz2 : w4.heap.size < w9.heap.size := World.block_lt_of_cell? w9 _ q4
            have hz3 : w6.heap.size < w9.heap.size := World.block_lt_of_cell? w9 _ q8
            refine ⟨(fun W => W.cell? ⟨w1.heap.size, 0, none⟩ = some (.int .i64 (x)) ∧ W.cell? ⟨w1.heap.size, 1, none⟩ = some (.int .i64 (y)) ∧ Below w.heap.size w W), ⟨hS.2.1, hS.2.2.1, hS.2.2.2.2.2.2.2.2.2.2.2.2⟩, (fun W h => h), ?_⟩
            simp only [Act.put, pa, pb, pc]
            repeat (first
              | ((refine seq_skip (by rfl) (by rfl) ?_); simp only [Act.put, pa, pb, pc])
              | ((refine seq_val (v := ?_) (by rfl) (by rfl) (fun w hS => ?_) ?_); rotate_left; (focus ((try dsimp only at hS); go_simp; (try (with_reducible rfl)); done)); simp only [Act.put, pa, pb, pc]))
            refine seq_nil ?_
            go_wp2_with fail
            go_meet
            case rel => exact ⟨w6.heap.size, w4.heap.size, a, b, a2, b2, rfl, rfl, ⟨by omega, by omega, by omega⟩, hS.1, gf (hS.2.2.2.1) (HK9.out.2.1).1 (HK9.out.2.1).2 (by omega), gc (hS.2.2.2.1) (HK9.out.2.2.1) (by omega), gc (hS.2.2.2.1) (HK9.out.2.2.2.1) (by omega), gc (hS.2.2.2.1) (HK9.out.2.2.2.2.1) (by omega), gf (hS.2.2.2.1) (HK9.out.2.2.2.2.2.1).1 (HK9.out.2.2.2.2.2.1).2 (by omega), gc (hS.2.2.2.1) (HK9.out.2.2.2.2.2.2.1) (by omega), gc (hS.2.2.2.1) (HK9.out.2.2.2.2.2.2.2.1) (by omega), gc (hS.2.2.2.1) (HK9.out.2.2.2.2.2.2.2.2.1) (by omega), hS.2.2.2.2.2.2.2.2.1, hS.2.2.2.2.2.2.2.2.2.1, hS.2.2.2.2.2.2.2.2.2.2.1, hS.2.2.2.2.2.2.2.2.2.2.2.1, hS.2.2.2.2.1, hS.2.2.2.2.2.1, hS.2.2.2.2.2.2.1, hS.2.2.2.2.2.2.2.1, hS.2.2.2.2.2.2.2.2.2.2.2.2⟩
          · refine all_split 5 4 (by decide) ?_ ?_
            · refine all_seq_core [0, 2, 1, 3, 5, 4, 6, 7] (fun W => W.cell? ⟨w1.heap.size, 0, none⟩ = some (.int .i64 (x)) ∧ W.cell? ⟨w1.heap.size, 1, none⟩ = some (.int .i64 (y)) ∧ Below w.heap.size w W) (Core.trans (Core.trans (Core.trans (Core.trans (addE_core 1 4 _) (addE_core 3 4 _)) (addE_core 1 5 _)) (addE_core 3 5 _)) (addE_core 5 4 _)) (by kernel_rfl) ⟨hS.2.1, hS.2.2.1, hS.2.2.2.2⟩ ?_
              simp only [byNum, List.getElem?_cons_zero, List.getElem?_cons_succ]
              repeat (first
                | ((refine seq_skip (by rfl) (by rfl) ?_); simp only [Act.put, pa, pb, pc])
                | ((refine seq_val (v := ?_) (by rfl) (by rfl) (fun w hS => ?_) ?_); rotate_left; (focus ((try dsimp only at hS); go_simp; (try (with_reducible rfl)); done)); simp only [Act.put, pa, pb, pc]))
              refine seq_call (f := ?_) (args := ?_) (by rfl) (by rfl) ?_ ?_
              rotate_left
              rotate_left
              focus (go_simp; (constructor <;> (with_reducible rfl)); done)
              refine (l7Of_ex x y false (by omega) (by omega) _).mono ?_
              rintro e w4 ⟨a, b, rfl, hb⟩
              have hT := ai (hq0.below hb) <| ai (kc hb q0) <| ai (kc hb q1) <| ai (gb_below q2 hb) <| below_via hF hb
              clear hS hb
              have hS := hT
              clear hT
              have hS2 := hS
              obtain ⟨hq0, q0, q1, q2, hF⟩ := hS2
              have hgl : w.heap.size + 2 < w4.heap.size := hq0.lt
              have hzw : w.heap.size ≤ w4.heap.size := hF.size
              have hB := hF
              have hz1 : w1.heap.size < w4.heap.size := World.block_lt_of_cell? w4 _ q0
              have hzk4 : w3.heap.size ≤ w4.heap.size := q2.size
              refine ⟨_, rfl, (fun W => W.cell? ⟨w1.heap.size, 0, none⟩ = some (.int .i64 (x)) ∧ W.cell? ⟨w1.heap.size, 1, none⟩ = some (.int .i64 (y)) ∧ Below w.heap.size w W), ⟨hS.2.1, hS.2.2.1, hS.2.2.2.2⟩, (fun W h => h), ?_⟩
              simp only [Act.put, pa, pb, pc]
              repeat (first
                | ((refine seq_skip (by rfl) (by rfl) ?_); simp only [Act.put, pa, pb, pc])
                | ((refine seq_val (v := ?_) (by rfl) (by rfl) (fun w hS => ?_) ?_); rotate_left; (focus ((try dsimp only at hS); go_simp; (try (with_reducible rfl)); done)); simp only [Act.put, pa, pb, pc]))
              refine seq_call (f := ?_) (args := ?_) (by rfl) (by rfl) ?_ ?_
              rotate_left
              rotate_left
              focus (go_simp; (constructor <;> (with_reducible rfl)); done)
              refine (l7Of_ex x y true (by omega) (by omega) _).mono ?_
              rintro e w5 ⟨a2, b2, rfl, hb⟩
              have hT := ai (hq0.below hb) <| ai (kc hb q0) <| ai (kc hb q1) <| ai (gb_below q2 hb) <| below_via hF hb
              clear hS hb
              have hS := hT
              clear hT
              have hS2 := hS
              obtain ⟨hq0, q0, q1, q2, hF⟩ := hS2
              have hgl : w.heap.size + 2 < w5.heap.size := hq0.lt
              have hzw : w.heap.size ≤ w5.heap.size := hF.size
              have hB := hF
              have hz1 : w1.heap.size < w5.heap.size := World.block_lt_of_cell? w5 _ q0
              have hzk5 : w3.heap.size ≤ w5.heap.size := q2.size
              refine ⟨_, rfl, (fun W => W.cell? ⟨w1.heap.size, 0, none⟩ = some (.int .i64 (x)) ∧ W.cell? ⟨w1.heap.size, 1, none⟩ = some (.int .i64 (y)) ∧ Below w.heap.size w W), ⟨hS.2.1, hS.2.2.1, hS.2.2.2.2⟩, (fun W h => h), ?_⟩
              simp only [Act.put, pa, pb, pc]
              repeat (first
                | ((refine seq_skip (by rfl) (by rfl) ?_); simp only [Act.put, pa, pb, pc])
                | ((refine seq_val (v := ?_) (by rfl) (by rfl) (fun w hS => ?_) ?_); rotate_left; (focus ((try dsimp only at hS); go_simp; (try (with_reducible rfl)); done)); simp only [Act.put, pa, pb, pc]))
              refine seq_deed (v := ?_) (w' := ?_) (by rfl) (by rfl) ?_ ?_
              rotate_left
              rotate_left
              focus (go_simp; (constructor <;> (with_reducible rfl)); done)
              generalize hgw6 : World.alloc w5 _ = w6
              have hb : Below w5.heap.size w5 w6 := by rw [← hgw6]; go_grown
              obtain ⟨n9, n0, n1, n2⟩ := al3 hgw6
              have hT := ai (hq0.below hb) <| ai (kc hb q0) <| ai (kc hb q1) <| ai (gb_below q2 hb) <| ai (n9) <| ai (n0) <| ai (n1) <| ai (n2) <| below_via (hS.2.2.2.2) hb
              clear n9 n0 n1 n2
              clear hS hb hgw6
              have hS := hT
              clear hT
              have hS2 := hS
              obtain ⟨hq0, q0, q1, q2, ⟨f3, fr3⟩, q4, q5, q6, hF⟩ := hS2
              have hgl : w.heap.size + 2 < w6.heap.size := hq0.lt
              have hzw : w.heap.size ≤ w6.heap.size := hF.size
              have hB := hF
              have hz1 : w1.heap.size < w6.heap.size := World.block_lt_of_cell? w6 _ q0
              have hzk6 : w3.heap.size ≤ w6.heap.size := q2.size
              have hz2 : w5.heap.size < w6.heap.size := World.block_lt_of_cell? w6 _ q4
              refine ⟨(fun W => W.cell? ⟨w1.heap.size, 0, none⟩ = some (.int .i64 (x)) ∧ W.cell? ⟨w1.heap.size, 1, none⟩ = some (.int .i64 (y)) ∧ Below w.heap.size w W), ⟨hS.2.1, hS.2.2.1, hS.2.2.2.2.2.2.2.2⟩, (fun W h => h), ?_⟩
              simp only [Act.put, pa, pb, pc]
              repeat (first
                | ((refine seq_skip (by rfl) (by rfl) ?_); simp only [Act.put, pa, pb, pc])
                | ((refine seq_val (v := ?_) (by rfl) (by rfl) (fun w hS => ?_) ?_); rotate_left; (focus ((try dsimp only at hS); go_simp; (try (with_reducible rfl)); done)); simp only [Act.put, pa, pb, pc]))
              refine seq_deed (v := ?_) (w' := ?_) (by rfl) (by rfl) ?_ ?_
              rotate_left
              rotate_left
              focus (go_simp; (constructor <;> (with_reducible rfl)); done)
              generalize hgw7 : World.alloc w6 _ = w7
              have hb : Below w6.heap.size w6 w7 := by rw [← hgw7]; go_grown
              obtain ⟨n9, n0, n1, n2⟩ := al3 hgw7
              have hT := ai (hq0.below hb) <| ai (kc hb q0) <| ai (kc hb q1) <| ai (gb_below q2 hb) <| ai (kf hb f3 fr3) <| ai (kc hb q4) <| ai (kc hb q5) <| ai (kc hb q6) <| ai (n9) <| ai (n0) <| ai (n1) <| ai (n2) <| below_via (hS.2.2.2.2.2.2.2.2) hb
              clear n9 n0 n1 n2
              clear hS hb hgw7
              have hS := hT
              clear hT
              have hS2 := hS
              obtain ⟨hq0, q0, q1, q2, ⟨f3, fr3⟩, q4, q5, q6, ⟨f7, fr7⟩, q8, q9, q10, hF⟩ := hS2
              have hgl : w.heap.size + 2 < w7.heap.size := hq0.lt
              have hzw : w.heap.size ≤ w7.heap.size := hF.size
              have hB := hF
              have hz1 : w1.heap.size < w7.heap.size := World.block_lt_of_cell? w7 _ q0
              have hzk7 : w3.heap.size ≤ w7.heap.size := q2.size
              have hz2 : w5.heap.size < w7.heap.size := World.block_lt_of_cell? w7 _ q4
              have hz3 : w6.heap.size < w7.heap.size := World.block_lt_of_cell? w7 _ q8
              refine ⟨(fun W => W.cell? ⟨w1.heap.size, 0, none⟩ = some (.int .i64 (x)) ∧ W.cell? ⟨w1.heap.size, 1, none⟩ = some (.int .i64 (y)) ∧ Below w.heap.size w W), ⟨hS.2.1, hS.2.2.1, hS.2.2.2.2.2.2.2.2.2.2.2.2⟩, (fun W h => h), ?_⟩
              simp only [Act.put, pa, pb, pc]
              repeat (first
                | ((refine seq_skip (by rfl) (by rfl) ?_); simp only [Act.put, pa, pb, pc])
                | ((refine seq_val (v := ?_) (by rfl) (by rfl) (fun w hS => ?_) ?_); rotate_left; (focus ((try dsimp only at hS); go_simp; (try (with_reducible rfl)); done)); simp only [Act.put, pa, pb, pc]))
              obtain ⟨w8, hw8⟩ : ∃ W, W = ((w7.setCell ⟨w6.heap.size, 0, none⟩ (.bool false)).setCell ⟨w6.heap.size, 1, none⟩ (.int .i64 a)).setCell ⟨w6.heap.size, 2, none⟩ (.int .i64 b) := ⟨_, rfl⟩
              obtain ⟨dd0, dd1, dd2, dd3, dd4⟩ := box3_sets q8 q9 q10 (.bool false) (.int .i64 a) (.int .i64 b)
              refine seq_store (w' := w8) (by rfl) (by rfl) (by rw [hw8]; go_simp; (try (with_reducible rfl)); done) ?_
              obtain ⟨dw0, dw1, dw2⟩ := s3w hw8 q8 q9 q10
              have hT := ai (s3c hw8 (by omega) hq0) <| ai (s3o hw8 (by omega) q0) <| ai (s3o hw8 (by omega) q1) <| ai (s3g hw8 (by omega) q2) <| ai (s3f hw8 f3 fr3) <| ai (s3o hw8 (by omega) q4) <| ai (s3o hw8 (by omega) q5) <| ai (s3o hw8 (by omega) q6) <| ai (s3f hw8 f7 fr7) <| ai (dw0) <| ai (dw1) <| ai (dw2) <| s3b hw8 (by omega) hF
              clear dw0 dw1 dw2
              (try clear hS)
              have hS := hT
              clear hT dd0 dd1 dd2 dd3 dd4 hw8
              have hS2 := hS
              obtain ⟨hq0, q0, q1, q2, ⟨f3, fr3⟩, q4, q5, q6, ⟨f7, fr7⟩, q8, q9, q10, hF⟩ := hS2
              have hgl : w.heap.size + 2 < w8.heap.size := hq0.lt
              have hzw : w.heap.size ≤ w8.heap.size := hF.size
              have hB := hF
              have hz1 : w1.heap.size < w8.heap.size := World.block_lt_of_cell? w8 _ q0
              have hzk8 : w3.heap.size ≤ w8.heap.size := q2.size
              have hz2 : w5.heap.size < w8.heap.size := World.block_lt_of_cell? w8 _ q4
              have hz3 : w6.heap.size < w8.heap.size := World.block_lt_of_cell? w8 _ q8
              refine ⟨(fun W => W.cell? ⟨w1.heap.size, 0, none⟩ = some (.int .i64 (x)) ∧ W.cell? ⟨w1.heap.size, 1, none⟩ = some (.int .i64 (y)) ∧ Below w.heap.size w W), ⟨hS.2.1, hS.2.2.1, hS.2.2.2.2.2.2.2.2.2.2.2.2⟩, (fun W h => h), ?_⟩
              simp only [Act.put, pa, pb, pc]
              repeat (first
                | ((refine seq_skip (by rfl) (by rfl) ?_); simp only [Act.put, pa, pb, pc])
                | ((refine seq_val (v := ?_) (by rfl) (by rfl) (fun w hS => ?_) ?_); rotate_left; (focus ((try dsimp only at hS); go_simp; (try (with_reducible rfl)); done)); simp only [Act.put, pa, pb, pc]))
              obtain ⟨w9, hw9⟩ : ∃ W, W = ((w8.setCell ⟨w5.heap.size, 0, none⟩ (.bool true)).setCell ⟨w5.heap.size, 1, none⟩ (.int .i64 a2)).setCell ⟨w5.heap.size, 2, none⟩ (.int .i64 b2) := ⟨_, rfl⟩
              obtain ⟨dd0, dd1, dd2, dd3, dd4⟩ := box3_sets q4 q5 q6 (.bool true) (.int .i64 a2) (.int .i64 b2)
              refine seq_store (w' := w9) (by rfl) (by rfl) (by rw [hw9]; go_simp; (try (with_reducible rfl)); done) ?_
              obtain ⟨dw0, dw1, dw2⟩ := s3w hw9 q4 q5 q6
              have hT := ai (s3c hw9 (by omega) hq0) <| ai (s3o hw9 (by omega) q0) <| ai (s3o hw9 (by omega) q1) <| ai (s3g hw9 (by omega) q2) <| ai (s3f hw9 f3 fr3) <| ai (dw0) <| ai (dw1) <| ai (dw2) <| ai (s3f hw9 f7 fr7) <| ai (s3o hw9 (by omega) q8) <| ai (s3o hw9 (by omega) q9) <| ai (s3o hw9 (by omega) q10) <| s3b hw9 (by omega) hF
              clear dw0 dw1 dw2
              (try clear hS)
              have hS := hT
              clear hT dd0 dd1 dd2 dd3 dd4 hw9
              have hS2 := hS
              obtain ⟨hq0, q0, q1, q2, ⟨f3, fr3⟩, q4, q5, q6, ⟨f7, fr7⟩, q8, q9, q10, hF⟩ := hS2
              have hgl : w.heap.size + 2 < w9.heap.size := hq0.lt
              have hzw : w.heap.size ≤ w9.heap.size := hF.size
              have hB := hF
              have hz1 : w1.heap.size < w9.heap.size := World.block_lt_of_cell? w9 _ q0
              have hzk9 : w3.heap.size ≤ w9.heap.size := q2.size
              have hz2 : w5.heap.size < w9.heap.size := World.block_lt_of_cell? w9 _ q4
              have hz3 : w6.heap.size < w9.heap.size := World.block_lt_of_cell? w9 _ q8
              refine ⟨(fun W => W.cell? ⟨w1.heap.size, 0, none⟩ = some (.int .i64 (x)) ∧ W.cell? ⟨w1.heap.size, 1, none⟩ = some (.int .i64 (y)) ∧ Below w.heap.size w W), ⟨hS.2.1, hS.2.2.1, hS.2.2.2.2.2.2.2.2.2.2.2.2⟩, (fun W h => h), ?_⟩
              simp only [Act.put, pa, pb, pc]
              repeat (first
                | ((refine seq_skip (by rfl) (by rfl) ?_); simp only [Act.put, pa, pb, pc])
                | ((refine seq_val (v := ?_) (by rfl) (by rfl) (fun w hS => ?_) ?_); rotate_left; (focus ((try dsimp only at hS); go_simp; (try (with_reducible rfl)); done)); simp only [Act.put, pa, pb, pc]))
              refine seq_nil ?_
              go_wp2_with fail
              go_meet
              case rel => exact ⟨w6.heap.size, w5.heap.size, a, b, a2, b2, rfl, rfl, ⟨by omega, by omega, by omega⟩, hS.1, gf (hS.2.2.2.1) (HK9.out.2.1).1 (HK9.out.2.1).2 (by omega), gc (hS.2.2.2.1) (HK9.out.2.2.1) (by omega), gc (hS.2.2.2.1) (HK9.out.2.2.2.1) (by omega), gc (hS.2.2.2.1) (HK9.out.2.2.2.2.1) (by omega), gf (hS.2.2.2.1) (HK9.out.2.2.2.2.2.1).1 (HK9.out.2.2.2.2.2.1).2 (by omega), gc (hS.2.2.2.1) (HK9.out.2.2.2.2.2.2.1) (by omega), gc (hS.2.2.2.1) (HK9.out.2.2.2.2.2.2.2.1) (by omega), gc (hS.2.2.2.1) (HK9.out.2.2.2.2.2.2.2.2.1) (by omega), hS.2.2.2.2.2.2.2.2.1, hS.2.2.2.2.2.2.2.2.2.1, hS.2.2.2.2.2.2.2.2.2.2.1, hS.2.2.2.2.2.2.2.2.2.2.2.1, hS.2.2.2.2.1, hS.2.2.2.2.2.1, hS.2.2.2.2.2.2.1, hS.2.2.2.2.2.2.2.1, hS.2.2.2.2.2.2.2.2.2.2.2.2⟩
            · refine all_seq_core [0, 2, 1, 3, 4, 5, 6, 7] (fun W => W.cell? ⟨w1.heap.size, 0, none⟩ = some (.int .i64 (x)) ∧ W.cell? ⟨w1.heap.size, 1, none⟩ = some (.int .i64 (y)) ∧ Below w.heap.size w W) (Core.trans (Core.trans (Core.trans (Core.trans (addE_core 1 4 _) (addE_core 3 4 _)) (addE_core 1 5 _)) (addE_core 3 5 _)) (addE_core 4 5 _)) (by kernel_rfl) ⟨hS.2.1, hS.2.2.1, hS.2.2.2.2⟩ ?_
              simp only [byNum, List.getElem?_cons_zero, List.getElem?_cons_succ]
              repeat (first
                | ((refine seq_skip (by rfl) (by rfl) ?_); simp only [Act.put, pa, pb, pc])
                | ((refine seq_val (v := ?_) (by rfl) (by rfl) (fun w hS => ?_) ?_); rotate_left; (focus ((try dsimp only at hS); go_simp; (try (with_reducible rfl)); done)); simp only [Act.put, pa, pb, pc]))
              refine seq_call (f := ?_) (args := ?_) (by rfl) (by rfl) ?_ ?_
              rotate_left
              rotate_left
              focus (go_simp; (constructor <;> (with_reducible rfl)); done)
              refine (l7Of_ex x y false (by omega) (by omega) _).mono ?_
              rintro e w4 ⟨a, b, rfl, hb⟩
              have hT := ai (hq0.below hb) <| ai (kc hb q0) <| ai (kc hb q1) <| ai (gb_below q2 hb) <| below_via hF hb
              clear hS hb
              have hS := hT
              clear hT
              have hS2 := hS
              obtain ⟨hq0, q0, q1, q2, hF⟩ := hS2
              have hgl : w.heap.size + 2 < w4.heap.size := hq0.lt
              have hzw : w.heap.size ≤ w4.heap.size := hF.size
              have hB := hF
              have hz1 : w1.heap.size < w4.heap.size := World.block_lt_of_cell? w4 _ q0
              have hzk4 : w3.heap.size ≤ w4.heap.size := q2.size
              refine ⟨_, rfl, (fun W => W.cell? ⟨w1.heap.size, 0, none⟩ = some (.int .i64 (x)) ∧ W.cell? ⟨w1.heap.size, 1, none⟩ = some (.int .i64 (y)) ∧ Below w.heap.size w W), ⟨hS.2.1, hS.2.2.1, hS.2.2.2.2⟩, (fun W h => h), ?_⟩
              simp only [Act.put, pa, pb, pc]
              repeat (first
                | ((refine seq_skip (by rfl) (by rfl) ?_); simp only [Act.put, pa, pb, pc])
                | ((refine seq_val (v := ?_) (by rfl) (by rfl) (fun w hS => ?_) ?_); rotate_left; (focus ((try dsimp only at hS); go_simp; (try (with_reducible rfl)); done)); simp only [Act.put, pa, pb, pc]))
              refine seq_call (f := ?_) (args := ?_) (by rfl) (by rfl) ?_ ?_
              rotate_left
              rotate_left
              focus (go_simp; (constructor <;> (with_reducible rfl)); done)
              refine (l7Of_ex x y true (by omega) (by omega) _).mono ?_
              rintro e w5 ⟨a2, b2, rfl, hb⟩
              have hT := ai (hq0.below hb) <| ai (kc hb q0) <| ai (kc hb q1) <| ai (gb_below q2 hb) <| below_via hF hb
              clear hS hb
              have hS := hT
              clear hT
              have hS2 := hS
              obtain ⟨hq0, q0, q1, q2, hF⟩ := hS2
              have hgl : w.heap.size + 2 < w5.heap.size := hq0.lt
              have hzw : w.heap.size ≤ w5.heap.size := hF.size
              have hB := hF
              have hz1 : w1.heap.size < w5.heap.size := World.block_lt_of_cell? w5 _ q0
              have hzk5 : w3.heap.size ≤ w5.heap.size := q2.size
              refine ⟨_, rfl, (fun W => W.cell? ⟨w1.heap.size, 0, none⟩ = some (.int .i64 (x)) ∧ W.cell? ⟨w1.heap.size, 1, none⟩ = some (.int .i64 (y)) ∧ Below w.heap.size w W), ⟨hS.2.1, hS.2.2.1, hS.2.2.2.2⟩, (fun W h => h), ?_⟩
              simp only [Act.put, pa, pb, pc]
              repeat (first
                | ((refine seq_skip (by rfl) (by rfl) ?_); simp only [Act.put, pa, pb, pc])
                | ((refine seq_val (v := ?_) (by rfl) (by rfl) (fun w hS => ?_) ?_); rotate_left; (focus ((try dsimp only at hS); go_simp; (try (with_reducible rfl)); done)); simp only [Act.put, pa, pb, pc]))
              refine seq_deed (v := ?_) (w' := ?_) (by rfl) (by rfl) ?_ ?_
              rotate_left
              rotate_left
              focus (go_simp; (constructor <;> (with_reducible rfl)); done)
              generalize hgw6 : World.alloc w5 _ = w6
              have hb : Below w5.heap.size w5 w6 := by rw [← hgw6]; go_grown
              obtain ⟨n9, n0, n1, n2⟩ := al3 hgw6
              have hT := ai (hq0.below hb) <| ai (kc hb q0) <| ai (kc hb q1) <| ai (gb_below q2 hb) <| ai (n9) <| ai (n0) <| ai (n1) <| ai (n2) <| below_via (hS.2.2.2.2) hb
              clear n9 n0 n1 n2
              clear hS hb hgw6
              have hS := hT
              clear hT
              have hS2 := hS
              obtain ⟨hq0, q0, q1, q2, ⟨f3, fr3⟩, q4, q5, q6, hF⟩ := hS2
              have hgl : w.heap.size + 2 < w6.heap.size := hq0.lt
              have hzw : w.heap.size ≤ w6.heap.size := hF.size
              have hB := hF
              have hz1 : w1.heap.size < w6.heap.size := World.block_lt_of_cell? w6 _ q0
              have hzk6 : w3.heap.size ≤ w6.heap.size := q2.size
              have hz2 : w5.heap.size < w6.heap.size := World.block_lt_of_cell? w6 _ q4
              refine ⟨(fun W => W.cell? ⟨w1.heap.size, 0, none⟩ = some (.int .i64 (x)) ∧ W.cell? ⟨w1.heap.size, 1, none⟩ = some (.int .i64 (y)) ∧ Below w.heap.size w W), ⟨hS.2.1, hS.2.2.1, hS.2.2.2.2.2.2.2.2⟩, (fun W h => h), ?_⟩
              simp only [Act.put, pa, pb, pc]
              repeat (first
                | ((refine seq_skip (by rfl) (by rfl) ?_); simp only [Act.put, pa, pb, pc])
                | ((refine seq_val (v := ?_) (by rfl) (by rfl) (fun w hS => ?_) ?_); rotate_left; (focus ((try dsimp only at hS); go_simp; (try (with_reducible rfl)); done)); simp only [Act.put, pa, pb, pc]))
              refine seq_deed (v := ?_) (w' := ?_) (by rfl) (by rfl) ?_ ?_
              rotate_left
              rotate_left
              focus (go_simp; (constructor <;> (with_reducible rfl)); done)
              generalize hgw7 : World.alloc w6 _ = w7
              have hb : Below w6.heap.size w6 w7 := by rw [← hgw7]; go_grown
              obtain ⟨n9, n0, n1, n2⟩ := al3 hgw7
              have hT := ai (hq0.below hb) <| ai (kc hb q0) <| ai (kc hb q1) <| ai (gb_below q2 hb) <| ai (kf hb f3 fr3) <| ai (kc hb q4) <| ai (kc hb q5) <| ai (kc hb q6) <| ai (n9) <| ai (n0) <| ai (n1) <| ai (n2) <| below_via (hS.2.2.2.2.2.2.2.2) hb
              clear n9 n0 n1 n2
              clear hS hb hgw7
              have hS := hT
              clear hT
              have hS2 := hS
              obtain ⟨hq0, q0, q1, q2, ⟨f3, fr3⟩, q4, q5, q6, ⟨f7, fr7⟩, q8, q9, q10, hF⟩ := hS2
              have hgl : w.heap.size + 2 < w7.heap.size := hq0.lt
              have hzw : w.heap.size ≤ w7.heap.size := hF.size
              have hB := hF
              have hz1 : w1.heap.size < w7.heap.size := World.block_lt_of_cell? w7 _ q0
              have hzk7 : w3.heap.size ≤ w7.heap.size := q2.size
              have hz2 : w5.heap.size < w7.heap.size := World.block_lt_of_cell? w7 _ q4
              have hz3 : w6.heap.size < w7.heap.size := World.block_lt_of_cell? w7 _ q8
              refine ⟨(fun W => W.cell? ⟨w1.heap.size, 0, none⟩ = some (.int .i64 (x)) ∧ W.cell? ⟨w1.heap.size, 1, none⟩ = some (.int .i64 (y)) ∧ Below w.heap.size w W), ⟨hS.2.1, hS.2.2.1, hS.2.2.2.2.2.2.2.2.2.2.2.2⟩, (fun W h => h), ?_⟩
              simp only [Act.put, pa, pb, pc]
              repeat (first
                | ((refine seq_skip (by rfl) (by rfl) ?_); simp only [Act.put, pa, pb, pc])
                | ((refine seq_val (v := ?_) (by rfl) (by rfl) (fun w hS => ?_) ?_); rotate_left; (focus ((try dsimp only at hS); go_simp; (try (with_reducible rfl)); done)); simp only [Act.put, pa, pb, pc]))
              obtain ⟨w8, hw8⟩ : ∃ W, W = ((w7.setCell ⟨w5.heap.size, 0, none⟩ (.bool false)).setCell ⟨w5.heap.size, 1, none⟩ (.int .i64 a)).setCell ⟨w5.heap.size, 2, none⟩ (.int .i64 b) := ⟨_, rfl⟩
              obtain ⟨dd0, dd1, dd2, dd3, dd4⟩ := box3_sets q4 q5 q6 (.bool false) (.int .i64 a) (.int .i64 b)
              refine seq_store (w' := w8) (by rfl) (by rfl) (by rw [hw8]; go_simp; (try (with_reducible rfl)); done) ?_
              obtain ⟨dw0, dw1, dw2⟩ := s3w hw8 q4 q5 q6
              have hT := ai (s3c hw8 (by omega) hq0) <| ai (s3o hw8 (by omega) q0) <| ai (s3o hw8 (by omega) q1) <| ai (s3g hw8 (by omega) q2) <| ai (s3f hw8 f3 fr3) <| ai (dw0) <| ai (dw1) <| ai (dw2) <| ai (s3f hw8 f7 fr7) <| ai (s3o hw8 (by omega) q8) <| ai (s3o hw8 (by omega) q9) <| ai (s3o hw8 (by omega) q10) <| s3b hw8 (by omega) hF
              clear dw0 dw1 dw2
              (try clear hS)
              have hS := hT
              clear hT dd0 dd1 dd2 dd3 dd4 hw8
              have hS2 := hS
              obtain ⟨hq0, q0, q1, q2, ⟨f3, fr3⟩, q4, q5, q6, ⟨f7, fr7⟩, q8, q9, q10, hF⟩ := hS2
              have hgl : w.heap.size + 2 < w8.heap.size := hq0.lt
              have hzw : w.heap.size ≤ w8.heap.size := hF.size
              have hB := hF
              have hz1 : w1.heap.size < w8.heap.size := World.block_lt_of_cell? w8 _ q0
              have hzk8 : w3.heap.size ≤ w8.heap.size := q2.size
              have hz2 : w5.heap.size < w8.heap.size := World.block_lt_of_cell? w8 _ q4
              have hz3 : w6.heap.size < w8.heap.size := World.block_lt_of_cell? w8 _ q8
              refine ⟨(fun W => W.cell? ⟨w1.heap.size, 0, none⟩ = some (.int .i64 (x)) ∧ W.cell? ⟨w1.heap.size, 1, none⟩ = some (.int .i64 (y)) ∧ Below w.heap.size w W), ⟨hS.2.1, hS.2.2.1, hS.2.2.2.2.2.2.2.2.2.2.2.2⟩, (fun W h => h), ?_⟩
              simp only [Act.put, pa, pb, pc]
              repeat (first
                | ((refine seq_skip (by rfl) (by rfl) ?_); simp only [Act.put, pa, pb, pc])
                | ((refine seq_val (v := ?_) (by rfl) (by rfl) (fun w hS => ?_) ?_); rotate_left; (focus ((try dsimp only at hS); go_simp; (try (with_reducible rfl)); done)); simp only [Act.put, pa, pb, pc]))
              obtain ⟨w9, hw9⟩ : ∃ W, W = ((w8.setCell ⟨w6.heap.size, 0, none⟩ (.bool true)).setCell ⟨w6.heap.size, 1, none⟩ (.int .i64 a2)).setCell ⟨w6.heap.size, 2, none⟩ (.int .i64 b2) := ⟨_, rfl⟩
              obtain ⟨dd0, dd1, dd2, dd3, dd4⟩ := box3_sets q8 q9 q10 (.bool true) (.int .i64 a2) (.int .i64 b2)
              refine seq_store (w' := w9) (by rfl) (by rfl) (by rw [hw9]; go_simp; (try (with_reducible rfl)); done) ?_
              obtain ⟨dw0, dw1, dw2⟩ := s3w hw9 q8 q9 q10
              have hT := ai (s3c hw9 (by omega) hq0) <| ai (s3o hw9 (by omega) q0) <| ai (s3o hw9 (by omega) q1) <| ai (s3g hw9 (by omega) q2) <| ai (s3f hw9 f3 fr3) <| ai (s3o hw9 (by omega) q4) <| ai (s3o hw9 (by omega) q5) <| ai (s3o hw9 (by omega) q6) <| ai (s3f hw9 f7 fr7) <| ai (dw0) <| ai (dw1) <| ai (dw2) <| s3b hw9 (by omega) hF
              clear dw0 dw1 dw2
              (try clear hS)
              have hS := hT
              clear hT dd0 dd1 dd2 dd3 dd4 hw9
              have hS2 := hS
              obtain ⟨hq0, q0, q1, q2, ⟨f3, fr3⟩, q4, q5, q6, ⟨f7, fr7⟩, q8, q9, q10, hF⟩ := hS2
              have hgl : w.heap.size + 2 < w9.heap.size := hq0.lt
              have hzw : w.heap.size ≤ w9.heap.size := hF.size
              have hB := hF
              have hz1 : w1.heap.size < w9.heap.size := World.block_lt_of_cell? w9 _ q0
              have hzk9 : w3.heap.size ≤ w9.heap.size := q2.size
              have hz2 : w5.heap.size < w9.heap.size := World.block_lt_of_cell? w9 _ q4
              have hz3 : w6.heap.size < w9.heap.size := World.block_lt_of_cell? w9 _ q8
              refine ⟨(fun W => W.cell? ⟨w1.heap.size, 0, none⟩ = some (.int .i64 (x)) ∧ W.cell? ⟨w1.heap.size, 1, none⟩ = some (.int .i64 (y)) ∧ Below w.heap.size w W), ⟨hS.2.1, hS.2.2.1, hS.2.2.2.2.2.2.2.2.2.2.2.2⟩, (fun W h => h), ?_⟩
              simp only [Act.put, pa, pb, pc]
              repeat (first
                | ((refine seq_skip (by rfl) (by rfl) ?_); simp only [Act.put, pa, pb, pc])
                | ((refine seq_val (v := ?_) (by rfl) (by rfl) (fun w hS => ?_) ?_); rotate_left; (focus ((try dsimp only at hS); go_simp; (try (with_reducible rfl)); done)); simp only [Act.put, pa, pb, pc]))
              refine seq_nil ?_
              go_wp2_with fail
              go_meet
              case rel => exact ⟨w5.heap.size, w6.heap.size, a, b, a2, b2, rfl, rfl, ⟨by omega, by omega, by omega⟩, hS.1, gf (hS.2.2.2.1) (HK9.out.2.1).1 (HK9.out.2.1).2 (by omega), gc (hS.2.2.2.1) (HK9.out.2.2.1) (by omega), gc (hS.2.2.2.1) (HK9.out.2.2.2.1) (by omega), gc (hS.2.2.2.1) (HK9.out.2.2.2.2.1) (by omega), gf (hS.2.2.2.1) (HK9.out.2.2.2.2.2.1).1 (HK9.out.2.2.2.2.2.1).2 (by omega), gc (hS.2.2.2.1) (HK9.out.2.2.2.2.2.2.1) (by omega), gc (hS.2.2.2.1) (HK9.out.2.2.2.2.2.2.2.1) (by omega), gc (hS.2.2.2.1) (HK9.out.2.2.2.2.2.2.2.2.1) (by omega), hS.2.2.2.2.1, hS.2.2.2.2.2.1, hS.2.2.2.2.2.2.1, hS.2.2.2.2.2.2.2.1, hS.2.2.2.2.2.2.2.2.1, hS.2.2.2.2.2.2.2.2.2.1, hS.2.2.2.2.2.2.2.2.2.2.1, hS.2.2.2.2.2.2.2.2.2.2.2.1, hS.2.2.2.2.2.2.2.2.2.2.2.2⟩
  obtain ⟨A, B, a, b, a2, b2, rfl, rfl, ⟨hA1, hB1, hAB⟩, hS3⟩ := hcut
  (try clear hS)
  have hS := hS3
  clear hS3
  have hS2 := hS
  obtain ⟨hq0, ⟨f0, fr0⟩, q1, q2, q3, ⟨f4, fr4⟩, q5, q6, q7, ⟨f8, fr8⟩, q9, q10, q11, ⟨f12, fr12⟩, q13, q14, q15, hF⟩ := hS2
  have hgl : w.heap.size + 2 < wc.heap.size := hq0.lt
  have hzw : w.heap.size ≤ wc.heap.size := hF.size
  have hB := hF
  have hz1 : w.heap.size < wc.heap.size := World.block_lt_of_cell? wc _ q1
  have hz2 : w.heap.size + 1 < wc.heap.size := World.block_lt_of_cell? wc _ q5
  have hz3 : A < wc.heap.size := World.block_lt_of_cell? wc _ q9
  have hz4 : B < wc.heap.size := World.block_lt_of_cell? wc _ q13
  go_wp2_with fail
  refine (one_c (4) (by omega) (w.heap.size + 2) (0 + 8) _ (hide hq0) (by omega)).mono ?_
  rintro e w61 ⟨_, rfl, ⟨z, rfl⟩, hcn, hgn⟩
  have hT := ai (hcn) <| ai (gf hgn f0 fr0 (by omega)) <| ai (gc hgn q1 (by omega)) <| ai (gc hgn q2 (by omega)) <| ai (gc hgn q3 (by omega)) <| ai (gf hgn f4 fr4 (by omega)) <| ai (gc hgn q5 (by omega)) <| ai (gc hgn q6 (by omega)) <| ai (gc hgn q7 (by omega)) <| ai (gf hgn f8 fr8 (by omega)) <| ai (gc hgn q9 (by omega)) <| ai (gc hgn q10 (by omega)) <| ai (gc hgn q11 (by omega)) <| ai (gf hgn f12 fr12 (by omega)) <| ai (gc hgn q13 (by omega)) <| ai (gc hgn q14 (by omega)) <| ai (gc hgn q15 (by omega)) <| below_gb hF hgn hF.size (by omega)
  clear hS hcn hgn
  have hS := hT
  clear hT
  have hS2 := hS
  obtain ⟨hq0, ⟨f0, fr0⟩, q1, q2, q3, ⟨f4, fr4⟩, q5, q6, q7, ⟨f8, fr8⟩, q9, q10, q11, ⟨f12, fr12⟩, q13, q14, q15, hF⟩ := hS2
  have hgl : w.heap.size + 2 < w61.heap.size := hq0.lt
  have hzw : w.heap.size ≤ w61.heap.size := hF.size
  have hB := hF
  have hz1 : w.heap.size < w61.heap.size := World.block_lt_of_cell? w61 _ q1
  have hz2 : w.heap.size + 1 < w61.heap.size := World.block_lt_of_cell? w61 _ q5
  have hz3 : A < w61.heap.size := World.block_lt_of_cell? w61 _ q9
  have hz4 : B < w61.heap.size := World.block_lt_of_cell? w61 _ q13
  rcases z with _ | _
  · go_wp2_with fail
    refine (one_c (12) (by omega) (w.heap.size + 2) (0 + 10) _ (hide hq0) (by omega)).mono ?_
    rintro e w62 ⟨_, rfl, ⟨y2, rfl⟩, hcn, hgn⟩
    have hT := ai (hcn) <| ai (gf hgn f0 fr0 (by omega)) <| ai (gc hgn q1 (by omega)) <| ai (gc hgn q2 (by omega)) <| ai (gc hgn q3 (by omega)) <| ai (gf hgn f4 fr4 (by omega)) <| ai (gc hgn q5 (by omega)) <| ai (gc hgn q6 (by omega)) <| ai (gc hgn q7 (by omega)) <| ai (gf hgn f8 fr8 (by omega)) <| ai (gc hgn q9 (by omega)) <| ai (gc hgn q10 (by omega)) <| ai (gc hgn q11 (by omega)) <| ai (gf hgn f12 fr12 (by omega)) <| ai (gc hgn q13 (by omega)) <| ai (gc hgn q14 (by omega)) <| ai (gc hgn q15 (by omega)) <| below_gb hF hgn hF.size (by omega)
    clear hS hcn hgn
    have hS := hT
    clear hT
    have hS2 := hS
    obtain ⟨hq0, ⟨f0, fr0⟩, q1, q2, q3, ⟨f4, fr4⟩, q5, q6, q7, ⟨f8, fr8⟩, q9, q10, q11, ⟨f12, fr12⟩, q13, q14, q15, hF⟩ := hS2
    have hgl : w.heap.size + 2 < w62.heap.size := hq0.lt
    have hzw : w.heap.size ≤ w62.heap.size := hF.size
    have hB := hF
    have hz1 : w.heap.size < w62.heap.size := World.block_lt_of_cell? w62 _ q1
    have hz2 : w.heap.size + 1 < w62.heap.size := World.block_lt_of_cell? w62 _ q5
    have hz3 : A < w62.heap.size := World.block_lt_of_cell? w62 _ q9
    have hz4 : B < w62.heap.size := World.block_lt_of_cell? w62 _ q13
    rcases y2 with _ | _
    · go_upto_region 8 with fail
      refine wp_region_all (by kernel_rfl) ?_
      obtain ⟨w63, hwq⟩ : ∃ W, World.drew w62 = W := ⟨_, rfl⟩
      have hb : Below w62.heap.size w62 w63 := by rw [← hwq]; go_grown
      rw [hwq]
      have hT := ai (hq0.below hb) <| ai (kf hb f0 fr0) <| ai (kc hb q1) <| ai (kc hb q2) <| ai (kc hb q3) <| ai (kf hb f4 fr4) <| ai (kc hb q5) <| ai (kc hb q6) <| ai (kc hb q7) <| ai (kf hb f8 fr8) <| ai (kc hb q9) <| ai (kc hb q10) <| ai (kc hb q11) <| ai (kf hb f12 fr12) <| ai (kc hb q13) <| ai (kc hb q14) <| ai (kc hb q15) <| below_via hF hb
      clear hS hb hwq
      have hS := hT
      clear hT
      have hS2 := hS
      obtain ⟨hq0, ⟨f0, fr0⟩, q1, q2, q3, ⟨f4, fr4⟩, q5, q6, q7, ⟨f8, fr8⟩, q9, q10, q11, ⟨f12, fr12⟩, q13, q14, q15, hF⟩ := hS2
      have hgl : w.heap.size + 2 < w63.heap.size := hq0.lt
      have hzw : w.heap.size ≤ w63.heap.size := hF.size
      have hB := hF
      have hz1 : w.heap.size < w63.heap.size := World.block_lt_of_cell? w63 _ q1
      have hz2 : w.heap.size + 1 < w63.heap.size := World.block_lt_of_cell? w63 _ q5
      have hz3 : A < w63.heap.size := World.block_lt_of_cell? w63 _ q9
      have hz4 : B < w63.heap.size := World.block_lt_of_cell? w63 _ q13
      refine all_seq_core [0, 1, 2, 3] (fun W => W.cell? ⟨A, 0, none⟩ = some (.bool false) ∧ W.cell? ⟨A, 1, none⟩ = some (.int .i64 a) ∧ W.cell? ⟨A, 2, none⟩ = some (.int .i64 b) ∧ W.cell? ⟨B, 0, none⟩ = some (.bool true) ∧ W.cell? ⟨B, 1, none⟩ = some (.int .i64 a2) ∧ W.cell? ⟨B, 2, none⟩ = some (.int .i64 b2) ∧ Below w.heap.size w W) (Core.refl _) (by kernel_rfl) ⟨hS.2.2.2.2.2.2.2.2.2.2.1, hS.2.2.2.2.2.2.2.2.2.2.2.1, hS.2.2.2.2.2.2.2.2.2.2.2.2.1, hS.2.2.2.2.2.2.2.2.2.2.2.2.2.2.1, hS.2.2.2.2.2.2.2.2.2.2.2.2.2.2.2.1, hS.2.2.2.2.2.2.2.2.2.2.2.2.2.2.2.2.1, hS.2.2.2.2.2.2.2.2.2.2.2.2.2.2.2.2.2⟩ ?_
      simp only [byNum, List.getElem?_cons_zero, List.getElem?_cons_succ]
      repeat (first
        | ((refine seq_skip (by rfl) (by rfl) ?_); simp only [Act.put, pa, pb, pc])
        | ((refine seq_val (v := ?_) (by rfl) (by rfl) (fun w hS => ?_) ?_); rotate_left; (focus ((try dsimp only at hS); go_simp; (try (with_reducible rfl)); done)); simp only [Act.put, pa, pb, pc]))
      obtain ⟨w64, hw64⟩ : ∃ W, W = ((w63.setCell ⟨w.heap.size, 0, none⟩ (.bool false)).setCell ⟨w.heap.size, 1, none⟩ (.int .i64 a)).setCell ⟨w.heap.size, 2, none⟩ (.int .i64 b) := ⟨_, rfl⟩
      obtain ⟨dd0, dd1, dd2, dd3, dd4⟩ := box3_sets q1 q2 q3 (.bool false) (.int .i64 a) (.int .i64 b)
      refine seq_store (w' := w64) (by rfl) (by rfl) (by rw [hw64]; go_simp; (try (with_reducible rfl)); done) ?_
      obtain ⟨dw0, dw1, dw2⟩ := s3w hw64 q1 q2 q3
      have hT := ai (s3f hw64 f0 fr0) <| ai (dw0) <| ai (dw1) <| ai (dw2) <| ai (s3f hw64 f4 fr4) <| ai (s3o hw64 (by omega) q5) <| ai (s3o hw64 (by omega) q6) <| ai (s3o hw64 (by omega) q7) <| ai (s3f hw64 f8 fr8) <| ai (s3o hw64 (by omega) q9) <| ai (s3o hw64 (by omega) q10) <| ai (s3o hw64 (by omega) q11) <| ai (s3f hw64 f12 fr12) <| ai (s3o hw64 (by omega) q13) <| ai (s3o hw64 (by omega) q14) <| ai (s3o hw64 (by omega) q15) <| s3b hw64 (by omega) hF
      clear dw0 dw1 dw2
      (try clear hS)
      have hS := hT
      clear hT dd0 dd1 dd2 dd3 dd4 hw64
      have hS2 := hS
      obtain ⟨⟨f0, fr0⟩, q1, q2, q3, ⟨f4, fr4⟩, q5, q6, q7, ⟨f8, fr8⟩, q9, q10, q11, ⟨f12, fr12⟩, q13, q14, q15, hF⟩ := hS2
      have hzw : w.heap.size ≤ w64.heap.size := hF.size
      have hB := hF
      have hz1 : w.heap.size < w64.heap.size := World.block_lt_of_cell? w64 _ q1
      have hz2 : w.heap.size + 1 < w64.heap.size := World.block_lt_of_cell? w64 _ q5
      have hz3 : A < w64.heap.size := World.block_lt_of_cell? w64 _ q9
      have hz4 : B < w64.heap.size := World.block_lt_of_cell? w64 _ q13
      refine ⟨(fun W => W.cell? ⟨A, 0, none⟩ = some (.bool false) ∧ W.cell? ⟨A, 1, none⟩ = some (.int .i64 a) ∧ W.cell? ⟨A, 2, none⟩ = some (.int .i64 b) ∧ W.cell? ⟨B, 0, none⟩ = some (.bool true) ∧ W.cell? ⟨B, 1, none⟩ = some (.int .i64 a2) ∧ W.cell? ⟨B, 2, none⟩ = some (.int .i64 b2) ∧ Below w.heap.size w W), ⟨hS.2.2.2.2.2.2.2.2.2.1, hS.2.2.2.2.2.2.2.2.2.2.1, hS.2.2.2.2.2.2.2.2.2.2.2.1, hS.2.2.2.2.2.2.2.2.2.2.2.2.2.1, hS.2.2.2.2.2.2.2.2.2.2.2.2.2.2.1, hS.2.2.2.2.2.2.2.2.2.2.2.2.2.2.2.1, hS.2.2.2.2.2.2.2.2.2.2.2.2.2.2.2.2⟩, (fun W h => h), ?_⟩
      simp only [Act.put, pa, pb, pc]
      repeat (first
        | ((refine seq_skip (by rfl) (by rfl) ?_); simp only [Act.put, pa, pb, pc])
        | ((refine seq_val (v := ?_) (by rfl) (by rfl) (fun w hS => ?_) ?_); rotate_left; (focus ((try dsimp only at hS); go_simp; (try (with_reducible rfl)); done)); simp only [Act.put, pa, pb, pc]))
      obtain ⟨w65, hw65⟩ : ∃ W, W = ((w64.setCell ⟨w.heap.size + 1, 0, none⟩ (.bool true)).setCell ⟨w.heap.size + 1, 1, none⟩ (.int .i64 a2)).setCell ⟨w.heap.size + 1, 2, none⟩ (.int .i64 b2) := ⟨_, rfl⟩
      obtain ⟨dd0, dd1, dd2, dd3, dd4⟩ := box3_sets q5 q6 q7 (.bool true) (.int .i64 a2) (.int .i64 b2)
      refine seq_store (w' := w65) (by rfl) (by rfl) (by rw [hw65]; go_simp; (try (with_reducible rfl)); done) ?_
      obtain ⟨dw0, dw1, dw2⟩ := s3w hw65 q5 q6 q7
      have hT := ai (s3f hw65 f0 fr0) <| ai (s3o hw65 (by omega) q1) <| ai (s3o hw65 (by omega) q2) <| ai (s3o hw65 (by omega) q3) <| ai (s3f hw65 f4 fr4) <| ai (dw0) <| ai (dw1) <| ai (dw2) <| ai (s3f hw65 f8 fr8) <| ai (s3o hw65 (by omega) q9) <| ai (s3o hw65 (by omega) q10) <| ai (s3o hw65 (by omega) q11) <| ai (s3f hw65 f12 fr12) <| ai (s3o hw65 (by omega) q13) <| ai (s3o hw65 (by omega) q14) <| ai (s3o hw65 (by omega) q15) <| s3b hw65 (by omega) hF
      clear dw0 dw1 dw2
      (try clear hS)
      have hS := hT
      clear hT dd0 dd1 dd2 dd3 dd4 hw65
      have hS2 := hS
      obtain ⟨⟨f0, fr0⟩, q1, q2, q3, ⟨f4, fr4⟩, q5, q6, q7, ⟨f8, fr8⟩, q9, q10, q11, ⟨f12, fr12⟩, q13, q14, q15, hF⟩ := hS2
      have hzw : w.heap.size ≤ w65.heap.size := hF.size
      have hB := hF
      have hz1 : w.heap.size < w65.heap.size := World.block_lt_of_cell? w65 _ q1
      have hz2 : w.heap.size + 1 < w65.heap.size := World.block_lt_of_cell? w65 _ q5
      have hz3 : A < w65.heap.size := World.block_lt_of_cell? w65 _ q9
      have hz4 : B < w65.heap.size := World.block_lt_of_cell? w65 _ q13
      refine ⟨(fun W => W.cell? ⟨A, 0, none⟩ = some (.bool false) ∧ W.cell? ⟨A, 1, none⟩ = some (.int .i64 a) ∧ W.cell? ⟨A, 2, none⟩ = some (.int .i64 b) ∧ W.cell? ⟨B, 0, none⟩ = some (.bool true) ∧ W.cell? ⟨B, 1, none⟩ = some (.int .i64 a2) ∧ W.cell? ⟨B, 2, none⟩ = some (.int .i64 b2) ∧ Below w.heap.size w W), ⟨hS.2.2.2.2.2.2.2.2.2.1, hS.2.2.2.2.2.2.2.2.2.2.1, hS.2.2.2.2.2.2.2.2.2.2.2.1, hS.2.2.2.2.2.2.2.2.2.2.2.2.2.1, hS.2.2.2.2.2.2.2.2.2.2.2.2.2.2.1, hS.2.2.2.2.2.2.2.2.2.2.2.2.2.2.2.1, hS.2.2.2.2.2.2.2.2.2.2.2.2.2.2.2.2⟩, (fun W h => h), ?_⟩
      simp only [Act.put, pa, pb, pc]
      repeat (first
        | ((refine seq_skip (by rfl) (by rfl) ?_); simp only [Act.put, pa, pb, pc])
        | ((refine seq_val (v := ?_) (by rfl) (by rfl) (fun w hS => ?_) ?_); rotate_left; (focus ((try dsimp only at hS); go_simp; (try (with_reducible rfl)); done)); simp only [Act.put, pa, pb, pc]))
      refine seq_nil ?_
      go_wp2
      refine bodyPost_ret (by simp [results, Try.results31, go_sem, q1, q2, q3, q5, q6, q7]; try rfl) rfl ?_
      exact ⟨_, _, _, _, _, _, rfl, by go_grown⟩
    · go_wp2_with fail
      refine (report_c (w.heap.size + 2) (0 + 12) _ (hide hq0) (by omega)).mono ?_
      rintro e w63 ⟨_, rfl, ⟨o5, a5, b5, rfl, ⟨a50, a51⟩, b50, b51⟩, hcn, hgn⟩
      have hT := ai (hcn) <| ai (gf hgn f0 fr0 (by omega)) <| ai (gc hgn q1 (by omega)) <| ai (gc hgn q2 (by omega)) <| ai (gc hgn q3 (by omega)) <| ai (gf hgn f4 fr4 (by omega)) <| ai (gc hgn q5 (by omega)) <| ai (gc hgn q6 (by omega)) <| ai (gc hgn q7 (by omega)) <| ai (gf hgn f8 fr8 (by omega)) <| ai (gc hgn q9 (by omega)) <| ai (gc hgn q10 (by omega)) <| ai (gc hgn q11 (by omega)) <| ai (gf hgn f12 fr12 (by omega)) <| ai (gc hgn q13 (by omega)) <| ai (gc hgn q14 (by omega)) <| ai (gc hgn q15 (by omega)) <| below_gb hF hgn hF.size (by omega)
      clear hS hcn hgn
      have hS := hT
      clear hT
      have hS2 := hS
      obtain ⟨hq0, ⟨f0, fr0⟩, q1, q2, q3, ⟨f4, fr4⟩, q5, q6, q7, ⟨f8, fr8⟩, q9, q10, q11, ⟨f12, fr12⟩, q13, q14, q15, hF⟩ := hS2
      have hgl : w.heap.size + 2 < w63.heap.size := hq0.lt
      have hzw : w.heap.size ≤ w63.heap.size := hF.size
      have hB := hF
      have hz1 : w.heap.size < w63.heap.size := World.block_lt_of_cell? w63 _ q1
      have hz2 : w.heap.size + 1 < w63.heap.size := World.block_lt_of_cell? w63 _ q5
      have hz3 : A < w63.heap.size := World.block_lt_of_cell? w63 _ q9
      have hz4 : B < w63.heap.size := World.block_lt_of_cell? w63 _ q13
      go_upto_region 8 with fail
      obtain ⟨w64, hw64⟩ : ∃ W, W = ((w63.setCell ⟨A, 0, none⟩ (.bool o5)).setCell ⟨A, 1, none⟩ (.int .i64 a5)).setCell ⟨A, 2, none⟩ (.int .i64 b5) := ⟨_, rfl⟩
      obtain ⟨dd0, dd1, dd2, dd3, dd4⟩ := box3_sets q9 q10 q11 (.bool o5) (.int .i64 a5) (.int .i64 b5)
      obtain ⟨dw0, dw1, dw2⟩ := s3w hw64 q9 q10 q11
      have hT := ai (s3c hw64 (by omega) hq0) <| ai (s3f hw64 f0 fr0) <| ai (s3o hw64 (by omega) q1) <| ai (s3o hw64 (by omega) q2) <| ai (s3o hw64 (by omega) q3) <| ai (s3f hw64 f4 fr4) <| ai (s3o hw64 (by omega) q5) <| ai (s3o hw64 (by omega) q6) <| ai (s3o hw64 (by omega) q7) <| ai (s3f hw64 f8 fr8) <| ai (dw0) <| ai (dw1) <| ai (dw2) <| ai (s3f hw64 f12 fr12) <| ai (s3o hw64 (by omega) q13) <| ai (s3o hw64 (by omega) q14) <| ai (s3o hw64 (by omega) q15) <| s3b hw64 (by omega) hF
      clear dw0 dw1 dw2
      rw [← hw64]
      clear hS dd0 dd1 dd2 dd3 dd4 hw64
      have hS := hT
      clear hT
      have hS2 := hS
      obtain ⟨hq0, ⟨f0, fr0⟩, q1, q2, q3, ⟨f4, fr4⟩, q5, q6, q7, ⟨f8, fr8⟩, q9, q10, q11, ⟨f12, fr12⟩, q13, q14, q15, hF⟩ := hS2
      have hgl : w.heap.size + 2 < w64.heap.size := hq0.lt
      have hzw : w.heap.size ≤ w64.heap.size := hF.size
      have hB := hF
      have hz1 : w.heap.size < w64.heap.size := World.block_lt_of_cell? w64 _ q1
      have hz2 : w.heap.size + 1 < w64.heap.size := World.block_lt_of_cell? w64 _ q5
      have hz3 : A < w64.heap.size := World.block_lt_of_cell? w64 _ q9
      have hz4 : B < w64.heap.size := World.block_lt_of_cell? w64 _ q13
      refine wp_region_all (by kernel_rfl) ?_
      obtain ⟨w65, hwq⟩ : ∃ W, World.drew w64 = W := ⟨_, rfl⟩
      have hb : Below w64.heap.size w64 w65 := by rw [← hwq]; go_grown
      rw [hwq]
      have hT := ai (hq0.below hb) <| ai (kf hb f0 fr0) <| ai (kc hb q1) <| ai (kc hb q2) <| ai (kc hb q3) <| ai (kf hb f4 fr4) <| ai (kc hb q5) <| ai (kc hb q6) <| ai (kc hb q7) <| ai (kf hb f8 fr8) <| ai (kc hb q9) <| ai (kc hb q10) <| ai (kc hb q11) <| ai (kf hb f12 fr12) <| ai (kc hb q13) <| ai (kc hb q14) <| ai (kc hb q15) <| below_via hF hb
      clear hS hb hwq
      have hS := hT
      clear hT
      have hS2 := hS
      obtain ⟨hq0, ⟨f0, fr0⟩, q1, q2, q3, ⟨f4, fr4⟩, q5, q6, q7, ⟨f8, fr8⟩, q9, q10, q11, ⟨f12, fr12⟩, q13, q14, q15, hF⟩ := hS2
      have hgl : w.heap.size + 2 < w65.heap.size := hq0.lt
      have hzw : w.heap.size ≤ w65.heap.size := hF.size
      have hB := hF
      have hz1 : w.heap.size < w65.heap.size := World.block_lt_of_cell? w65 _ q1
      have hz2 : w.heap.size + 1 < w65.heap.size := World.block_lt_of_cell? w65 _ q5
      have hz3 : A < w65.heap.size := World.block_lt_of_cell? w65 _ q9
      have hz4 : B < w65.heap.size := World.block_lt_of_cell? w65 _ q13
      refine all_seq_core [0, 1, 2, 3] (fun W => W.cell? ⟨A, 0, none⟩ = some (.bool o5) ∧ W.cell? ⟨A, 1, none⟩ = some (.int .i64 a5) ∧ W.cell? ⟨A, 2, none⟩ = some (.int .i64 b5) ∧ W.cell? ⟨B, 0, none⟩ = some (.bool true) ∧ W.cell? ⟨B, 1, none⟩ = some (.int .i64 a2) ∧ W.cell? ⟨B, 2, none⟩ = some (.int .i64 b2) ∧ Below w.heap.size w W) (Core.refl _) (by kernel_rfl) ⟨hS.2.2.2.2.2.2.2.2.2.2.1, hS.2.2.2.2.2.2.2.2.2.2.2.1, hS.2.2.2.2.2.2.2.2.2.2.2.2.1, hS.2.2.2.2.2.2.2.2.2.2.2.2.2.2.1, hS.2.2.2.2.2.2.2.2.2.2.2.2.2.2.2.1, hS.2.2.2.2.2.2.2.2.2.2.2.2.2.2.2.2.1, hS.2.2.2.2.2.2.2.2.2.2.2.2.2.2.2.2.2⟩ ?_
      simp only [byNum, List.getElem?_cons_zero, List.getElem?_cons_succ]
      repeat (first
        | ((refine seq_skip (by rfl) (by rfl) ?_); simp only [Act.put, pa, pb, pc])
        | ((refine seq_val (v := ?_) (by rfl) (by rfl) (fun w hS => ?_) ?_); rotate_left; (focus ((try dsimp only at hS); go_simp; (try (with_reducible rfl)); done)); simp only [Act.put, pa, pb, pc]))
      obtain ⟨w66, hw66⟩ : ∃ W, W = ((w65.setCell ⟨w.heap.size, 0, none⟩ (.bool o5)).setCell ⟨w.heap.size, 1, none⟩ (.int .i64 a5)).setCell ⟨w.heap.size, 2, none⟩ (.int .i64 b5) := ⟨_, rfl⟩
      obtain ⟨dd0, dd1, dd2, dd3, dd4⟩ := box3_sets q1 q2 q3 (.bool o5) (.int .i64 a5) (.int .i64 b5)
      refine seq_store (w' := w66) (by rfl) (by rfl) (by rw [hw66]; go_simp; (try (with_reducible rfl)); done) ?_
      obtain ⟨dw0, dw1, dw2⟩ := s3w hw66 q1 q2 q3
      have hT := ai (s3f hw66 f0 fr0) <| ai (dw0) <| ai (dw1) <| ai (dw2) <| ai (s3f hw66 f4 fr4) <| ai (s3o hw66 (by omega) q5) <| ai (s3o hw66 (by omega) q6) <| ai (s3o hw66 (by omega) q7) <| ai (s3f hw66 f8 fr8) <| ai (s3o hw66 (by omega) q9) <| ai (s3o hw66 (by omega) q10) <| ai (s3o hw66 (by omega) q11) <| ai (s3f hw66 f12 fr12) <| ai (s3o hw66 (by omega) q13) <| ai (s3o hw66 (by omega) q14) <| ai (s3o hw66 (by omega) q15) <| s3b hw66 (by omega) hF
      clear dw0 dw1 dw2
      (try clear hS)
      have hS := hT
      clear hT dd0 dd1 dd2 dd3 dd4 hw66
      have hS2 := hS
      obtain ⟨⟨f0, fr0⟩, q1, q2, q3, ⟨f4, fr4⟩, q5, q6, q7, ⟨f8, fr8⟩, q9, q10, q11, ⟨f12, fr12⟩, q13, q14, q15, hF⟩ := hS2
      have hzw : w.heap.size ≤ w66.heap.size := hF.size
      have hB := hF
      have hz1 : w.heap.size < w66.heap.size := World.block_lt_of_cell? w66 _ q1
      have hz2 : w.heap.size + 1 < w66.heap.size := World.block_lt_of_cell? w66 _ q5
      have hz3 : A < w66.heap.size := World.block_lt_of_cell? w66 _ q9
      have hz4 : B < w66.heap.size := World.block_lt_of_cell? w66 _ q13
      refine ⟨(fun W => W.cell? ⟨A, 0, none⟩ = some (.bool o5) ∧ W.cell? ⟨A, 1, none⟩ = some (.int .i64 a5) ∧ W.cell? ⟨A, 2, none⟩ = some (.int .i64 b5) ∧ W.cell? ⟨B, 0, none⟩ = some (.bool true) ∧ W.cell? ⟨B, 1, none⟩ = some (.int .i64 a2) ∧ W.cell? ⟨B, 2, none⟩ = some (.int .i64 b2) ∧ Below w.heap.size w W), ⟨hS.2.2.2.2.2.2.2.2.2.1, hS.2.2.2.2.2.2.2.2.2.2.1, hS.2.2.2.2.2.2.2.2.2.2.2.1, hS.2.2.2.2.2.2.2.2.2.2.2.2.2.1, hS.2.2.2.2.2.2.2.2.2.2.2.2.2.2.1, hS.2.2.2.2.2.2.2.2.2.2.2.2.2.2.2.1, hS.2.2.2.2.2.2.2.2.2.2.2.2.2.2.2.2⟩, (fun W h => h), ?_⟩
      simp only [Act.put, pa, pb, pc]
      repeat (first
        | ((refine seq_skip (by rfl) (by rfl) ?_); simp only [Act.put, pa, pb, pc])
        | ((refine seq_val (v := ?_) (by rfl) (by rfl) (fun w hS => ?_) ?_); rotate_left; (focus ((try dsimp only at hS); go_simp; (try (with_reducible rfl)); done)); simp only [Act.put, pa, pb, pc]))
      obtain ⟨w67, hw67⟩ : ∃ W, W = ((w66.setCell ⟨w.heap.size + 1, 0, none⟩ (.bool true)).setCell ⟨w.heap.size + 1, 1, none⟩ (.int .i64 a2)).setCell ⟨w.heap.size + 1, 2, none⟩ (.int .i64 b2) := ⟨_, rfl⟩
      obtain ⟨dd0, dd1, dd2, dd3, dd4⟩ := box3_sets q5 q6 q7 (.bool true) (.int .i64 a2) (.int .i64 b2)
      refine seq_store (w' := w67) (by rfl) (by rfl) (by rw [hw67]; go_simp; (try (with_reducible rfl)); done) ?_
      obtain ⟨dw0, dw1, dw2⟩ := s3w hw67 q5 q6 q7
      have hT := ai (s3f hw67 f0 fr0) <| ai (s3o hw67 (by omega) q1) <| ai (s3o hw67 (by omega) q2) <| ai (s3o hw67 (by omega) q3) <| ai (s3f hw67 f4 fr4) <| ai (dw0) <| ai (dw1) <| ai (dw2) <| ai (s3f hw67 f8 fr8) <| ai (s3o hw67 (by omega) q9) <| ai (s3o hw67 (by omega) q10) <| ai (s3o hw67 (by omega) q11) <| ai (s3f hw67 f12 fr12) <| ai (s3o hw67 (by omega) q13) <| ai (s3o hw67 (by omega) q14) <| ai (s3o hw67 (by omega) q15) <| s3b hw67 (by omega) hF
      clear dw0 dw1 dw2
      (try clear hS)
      have hS := hT
      clear hT dd0 dd1 dd2 dd3 dd4 hw67
      have hS2 := hS
      obtain ⟨⟨f0, fr0⟩, q1, q2, q3, ⟨f4, fr4⟩, q5, q6, q7, ⟨f8, fr8⟩, q9, q10, q11, ⟨f12, fr12⟩, q13, q14, q15, hF⟩ := hS2
      have hzw : w.heap.size ≤ w67.heap.size := hF.size
      have hB := hF
      have hz1 : w.heap.size < w67.heap.size := World.block_lt_of_cell? w67 _ q1
      have hz2 : w.heap.size + 1 < w67.heap.size := World.block_lt_of_cell? w67 _ q5
      have hz3 : A < w67.heap.size := World.block_lt_of_cell? w67 _ q9
      have hz4 : B < w67.heap.size := World.block_lt_of_cell? w67 _ q13
      refine ⟨(fun W => W.cell? ⟨A, 0, none⟩ = some (.bool o5) ∧ W.cell? ⟨A, 1, none⟩ = some (.int .i64 a5) ∧ W.cell? ⟨A, 2, none⟩ = some (.int .i64 b5) ∧ W.cell? ⟨B, 0, none⟩ = some (.bool true) ∧ W.cell? ⟨B, 1, none⟩ = some (.int .i64 a2) ∧ W.cell? ⟨B, 2, none⟩ = some (.int .i64 b2) ∧ Below w.heap.size w W), ⟨hS.2.2.2.2.2.2.2.2.2.1, hS.2.2.2.2.2.2.2.2.2.2.1, hS.2.2.2.2.2.2.2.2.2.2.2.1, hS.2.2.2.2.2.2.2.2.2.2.2.2.2.1, hS.2.2.2.2.2.2.2.2.2.2.2.2.2.2.1, hS.2.2.2.2.2.2.2.2.2.2.2.2.2.2.2.1, hS.2.2.2.2.2.2.2.2.2.2.2.2.2.2.2.2⟩, (fun W h => h), ?_⟩
      simp only [Act.put, pa, pb, pc]
      repeat (first
        | ((refine seq_skip (by rfl) (by rfl) ?_); simp only [Act.put, pa, pb, pc])
        | ((refine seq_val (v := ?_) (by rfl) (by rfl) (fun w hS => ?_) ?_); rotate_left; (focus ((try dsimp only at hS); go_simp; (try (with_reducible rfl)); done)); simp only [Act.put, pa, pb, pc]))
      refine seq_nil ?_
      go_wp2
      refine bodyPost_ret (by simp [results, Try.results31, go_sem, q1, q2, q3, q5, q6, q7]; try rfl) rfl ?_
      exact ⟨_, _, _, _, _, _, rfl, by go_grown⟩
  · go_wp2_with fail
    refine (report_c (w.heap.size + 2) (0 + 10) _ (hide hq0) (by omega)).mono ?_
    rintro e w62 ⟨_, rfl, ⟨o4, a4, b4, rfl, ⟨a40, a41⟩, b40, b41⟩, hcn, hgn⟩
    have hT := ai (hcn) <| ai (gf hgn f0 fr0 (by omega)) <| ai (gc hgn q1 (by omega)) <| ai (gc hgn q2 (by omega)) <| ai (gc hgn q3 (by omega)) <| ai (gf hgn f4 fr4 (by omega)) <| ai (gc hgn q5 (by omega)) <| ai (gc hgn q6 (by omega)) <| ai (gc hgn q7 (by omega)) <| ai (gf hgn f8 fr8 (by omega)) <| ai (gc hgn q9 (by omega)) <| ai (gc hgn q10 (by omega)) <| ai (gc hgn q11 (by omega)) <| ai (gf hgn f12 fr12 (by omega)) <| ai (gc hgn q13 (by omega)) <| ai (gc hgn q14 (by omega)) <| ai (gc hgn q15 (by omega)) <| below_gb hF hgn hF.size (by omega)
    clear hS hcn hgn
    have hS := hT
    clear hT
    have hS2 := hS
    obtain ⟨hq0, ⟨f0, fr0⟩, q1, q2, q3, ⟨f4, fr4⟩, q5, q6, q7, ⟨f8, fr8⟩, q9, q10, q11, ⟨f12, fr12⟩, q13, q14, q15, hF⟩ := hS2
    have hgl : w.heap.size + 2 < w62.heap.size := hq0.lt
    have hzw : w.heap.size ≤ w62.heap.size := hF.size
    have hB := hF
    have hz1 : w.heap.size < w62.heap.size := World.block_lt_of_cell? w62 _ q1
    have hz2 : w.heap.size + 1 < w62.heap.size := World.block_lt_of_cell? w62 _ q5
    have hz3 : A < w62.heap.size := World.block_lt_of_cell? w62 _ q9
    have hz4 : B < w62.heap.size := World.block_lt_of_cell? w62 _ q13
    go_upto_region 6 with fail
    obtain ⟨w63, hw63⟩ : ∃ W, W = ((w62.setCell ⟨B, 0, none⟩ (.bool o4)).setCell ⟨B, 1, none⟩ (.int .i64 a4)).setCell ⟨B, 2, none⟩ (.int .i64 b4) := ⟨_, rfl⟩
    obtain ⟨dd0, dd1, dd2, dd3, dd4⟩ := box3_sets q13 q14 q15 (.bool o4) (.int .i64 a4) (.int .i64 b4)
    obtain ⟨dw0, dw1, dw2⟩ := s3w hw63 q13 q14 q15
    have hT := ai (s3c hw63 (by omega) hq0) <| ai (s3f hw63 f0 fr0) <| ai (s3o hw63 (by omega) q1) <| ai (s3o hw63 (by omega) q2) <| ai (s3o hw63 (by omega) q3) <| ai (s3f hw63 f4 fr4) <| ai (s3o hw63 (by omega) q5) <| ai (s3o hw63 (by omega) q6) <| ai (s3o hw63 (by omega) q7) <| ai (s3f hw63 f8 fr8) <| ai (s3o hw63 (by omega) q9) <| ai (s3o hw63 (by omega) q10) <| ai (s3o hw63 (by omega) q11) <| ai (s3f hw63 f12 fr12) <| ai (dw0) <| ai (dw1) <| ai (dw2) <| s3b hw63 (by omega) hF
    clear dw0 dw1 dw2
    rw [← hw63]
    clear hS dd0 dd1 dd2 dd3 dd4 hw63
    have hS := hT
    clear hT
    have hS2 := hS
    obtain ⟨hq0, ⟨f0, fr0⟩, q1, q2, q3, ⟨f4, fr4⟩, q5, q6, q7, ⟨f8, fr8⟩, q9, q10, q11, ⟨f12, fr12⟩, q13, q14, q15, hF⟩ := hS2
    have hgl : w.heap.size + 2 < w63.heap.size := hq0.lt
    have hzw : w.heap.size ≤ w63.heap.size := hF.size
    have hB := hF
    have hz1 : w.heap.size < w63.heap.size := World.block_lt_of_cell? w63 _ q1
    have hz2 : w.heap.size + 1 < w63.heap.size := World.block_lt_of_cell? w63 _ q5
    have hz3 : A < w63.heap.size := World.block_lt_of_cell? w63 _ q9
    have hz4 : B < w63.heap.size := World.block_lt_of_cell? w63 _ q13
    go_wp2_with fail
    refine (one_c (12) (by omega) (w.heap.size + 2) (0 + 24) _ (hide hq0) (by omega)).mono ?_
    rintro e w64 ⟨_, rfl, ⟨y2, rfl⟩, hcn, hgn⟩
    have hT := ai (hcn) <| ai (gf hgn f0 fr0 (by omega)) <| ai (gc hgn q1 (by omega)) <| ai (gc hgn q2 (by omega)) <| ai (gc hgn q3 (by omega)) <| ai (gf hgn f4 fr4 (by omega)) <| ai (gc hgn q5 (by omega)) <| ai (gc hgn q6 (by omega)) <| ai (gc hgn q7 (by omega)) <| ai (gf hgn f8 fr8 (by omega)) <| ai (gc hgn q9 (by omega)) <| ai (gc hgn q10 (by omega)) <| ai (gc hgn q11 (by omega)) <| ai (gf hgn f12 fr12 (by omega)) <| ai (gc hgn q13 (by omega)) <| ai (gc hgn q14 (by omega)) <| ai (gc hgn q15 (by omega)) <| below_gb hF hgn hF.size (by omega)
    clear hS hcn hgn
    have hS := hT
    clear hT
    have hS2 := hS
    obtain ⟨hq0, ⟨f0, fr0⟩, q1, q2, q3, ⟨f4, fr4⟩, q5, q6, q7, ⟨f8, fr8⟩, q9, q10, q11, ⟨f12, fr12⟩, q13, q14, q15, hF⟩ := hS2
    have hgl : w.heap.size + 2 < w64.heap.size := hq0.lt
    have hzw : w.heap.size ≤ w64.heap.size := hF.size
    have hB := hF
    have hz1 : w.heap.size < w64.heap.size := World.block_lt_of_cell? w64 _ q1
    have hz2 : w.heap.size + 1 < w64.heap.size := World.block_lt_of_cell? w64 _ q5
    have hz3 : A < w64.heap.size := World.block_lt_of_cell? w64 _ q9
    have hz4 : B < w64.heap.size := World.block_lt_of_cell? w64 _ q13
    rcases y2 with _ | _
    · go_upto_region 8 with fail
      refine wp_region_all (by kernel_rfl) ?_
      obtain ⟨w65, hwq⟩ : ∃ W, World.drew w64 = W := ⟨_, rfl⟩
      have hb : Below w64.heap.size w64 w65 := by rw [← hwq]; go_grown
      rw [hwq]
      have hT := ai (hq0.below hb) <| ai (kf hb f0 fr0) <| ai (kc hb q1) <| ai (kc hb q2) <| ai (kc hb q3) <| ai (kf hb f4 fr4) <| ai (kc hb q5) <| ai (kc hb q6) <| ai (kc hb q7) <| ai (kf hb f8 fr8) <| ai (kc hb q9) <| ai (kc hb q10) <| ai (kc hb q11) <| ai (kf hb f12 fr12) <| ai (kc hb q13) <| ai (kc hb q14) <| ai (kc hb q15) <| below_via hF hb
      clear hS hb hwq
      have hS := hT
      clear hT
      have hS2 := hS
      obtain ⟨hq0, ⟨f0, fr0⟩, q1, q2, q3, ⟨f4, fr4⟩, q5, q6, q7, ⟨f8, fr8⟩, q9, q10, q11, ⟨f12, fr12⟩, q13, q14, q15, hF⟩ := hS2
      have hgl : w.heap.size + 2 < w65.heap.size := hq0.lt
      have hzw : w.heap.size ≤ w65.heap.size := hF.size
      have hB := hF
      have hz1 : w.heap.size < w65.heap.size := World.block_lt_of_cell? w65 _ q1
      have hz2 : w.heap.size + 1 < w65.heap.size := World.block_lt_of_cell? w65 _ q5
      have hz3 : A < w65.heap.size := World.block_lt_of_cell? w65 _ q9
      have hz4 : B < w65.heap.size := World.block_lt_of_cell? w65 _ q13
      refine all_seq_core [0, 1, 2, 3] (fun W => W.cell? ⟨A, 0, none⟩ = some (.bool false) ∧ W.cell? ⟨A, 1, none⟩ = some (.int .i64 a) ∧ W.cell? ⟨A, 2, none⟩ = some (.int .i64 b) ∧ W.cell? ⟨B, 0, none⟩ = some (.bool o4) ∧ W.cell? ⟨B, 1, none⟩ = some (.int .i64 a4) ∧ W.cell? ⟨B, 2, none⟩ = some (.int .i64 b4) ∧ Below w.heap.size w W) (Core.refl _) (by kernel_rfl) ⟨hS.2.2.2.2.2.2.2.2.2.2.1, hS.2.2.2.2.2.2.2.2.2.2.2.1, hS.2.2.2.2.2.2.2.2.2.2.2.2.1, hS.2.2.2.2.2.2.2.2.2.2.2.2.2.2.1, hS.2.2.2.2.2.2.2.2.2.2.2.2.2.2.2.1, hS.2.2.2.2.2.2.2.2.2.2.2.2.2.2.2.2.1, hS.2.2.2.2.2.2.2.2.2.2.2.2.2.2.2.2.2⟩ ?_
      simp only [byNum, List.getElem?_cons_zero, List.getElem?_cons_succ]
      repeat (first
        | ((refine seq_skip (by rfl) (by rfl) ?_); simp only [Act.put, pa, pb, pc])
        | ((refine seq_val (v := ?_) (by rfl) (by rfl) (fun w hS => ?_) ?_); rotate_left; (focus ((try dsimp only at hS); go_simp; (try (with_reducible rfl)); done)); simp only [Act.put, pa, pb, pc]))
      obtain ⟨w66, hw66⟩ : ∃ W, W = ((w65.setCell ⟨w.heap.size, 0, none⟩ (.bool false)).setCell ⟨w.heap.size, 1, none⟩ (.int .i64 a)).setCell ⟨w.heap.size, 2, none⟩ (.int .i64 b) := ⟨_, rfl⟩
      obtain ⟨dd0, dd1, dd2, dd3, dd4⟩ := box3_sets q1 q2 q3 (.bool false) (.int .i64 a) (.int .i64 b)
      refine seq_store (w' := w66) (by rfl) (by rfl) (by rw [hw66]; go_simp; (try (with_reducible rfl)); done) ?_
      obtain ⟨dw0, dw1, dw2⟩ := s3w hw66 q1 q2 q3
      have hT := ai (s3f hw66 f0 fr0) <| ai (dw0) <| ai (dw1) <| ai (dw2) <| ai (s3f hw66 f4 fr4) <| ai (s3o hw66 (by omega) q5) <| ai (s3o hw66 (by omega) q6) <| ai (s3o hw66 (by omega) q7) <| ai (s3f hw66 f8 fr8) <| ai (s3o hw66 (by omega) q9) <| ai (s3o hw66 (by omega) q10) <| ai (s3o hw66 (by omega) q11) <| ai (s3f hw66 f12 fr12) <| ai (s3o hw66 (by omega) q13) <| ai (s3o hw66 (by omega) q14) <| ai (s3o hw66 (by omega) q15) <| s3b hw66 (by omega) hF
      clear dw0 dw1 dw2
      (try clear hS)
      have hS := hT
      clear hT dd0 dd1 dd2 dd3 dd4 hw66
      have hS2 := hS
      obtain ⟨⟨f0, fr0⟩, q1, q2, q3, ⟨f4, fr4⟩, q5, q6, q7, ⟨f8, fr8⟩, q9, q10, q11, ⟨f12, fr12⟩, q13, q14, q15, hF⟩ := hS2
      have hzw : w.heap.size ≤ w66.heap.size := hF.size
      have hB := hF
      have hz1 : w.heap.size < w66.heap.size := World.block_lt_of_cell? w66 _ q1
      have hz2 : w.heap.size + 1 < w66.heap.size := World.block_lt_of_cell? w66 _ q5
      have hz3 : A < w66.heap.size := World.block_lt_of_cell? w66 _ q9
      have hz4 : B < w66.heap.size := World.block_lt_of_cell? w66 _ q13
      refine ⟨(fun W => W.cell? ⟨A, 0, none⟩ = some (.bool false) ∧ W.cell? ⟨A, 1, none⟩ = some (.int .i64 a) ∧ W.cell? ⟨A, 2, none⟩ = some (.int .i64 b) ∧ W.cell? ⟨B, 0, none⟩ = some (.bool o4) ∧ W.cell? ⟨B, 1, none⟩ = some (.int .i64 a4) ∧ W.cell? ⟨B, 2, none⟩ = some (.int .i64 b4) ∧ Below w.heap.size w W), ⟨hS.2.2.2.2.2.2.2.2.2.1, hS.2.2.2.2.2.2.2.2.2.2.1, hS.2.2.2.2.2.2.2.2.2.2.2.1, hS.2.2.2.2.2.2.2.2.2.2.2.2.2.1, hS.2.2.2.2.2.2.2.2.2.2.2.2.2.2.1, hS.2.2.2.2.2.2.2.2.2.2.2.2.2.2.2.1, hS.2.2.2.2.2.2.2.2.2.2.2.2.2.2.2.2⟩, (fun W h => h), ?_⟩
      simp only [Act.put, pa, pb, pc]
      repeat (first
        | ((refine seq_skip (by rfl) (by rfl) ?_); simp only [Act.put, pa, pb, pc])
        | ((refine seq_val (v := ?_) (by rfl) (by rfl) (fun w hS => ?_) ?_); rotate_left; (focus ((try dsimp only at hS); go_simp; (try (with_reducible rfl)); done)); simp only [Act.put, pa, pb, pc]))
      obtain ⟨w67, hw67⟩ : ∃ W, W = ((w66.setCell ⟨w.heap.size + 1, 0, none⟩ (.bool o4)).setCell ⟨w.heap.size + 1, 1, none⟩ (.int .i64 a4)).setCell ⟨w.heap.size + 1, 2, none⟩ (.int .i64 b4) := ⟨_, rfl⟩
      obtain ⟨dd0, dd1, dd2, dd3, dd4⟩ := box3_sets q5 q6 q7 (.bool o4) (.int .i64 a4) (.int .i64 b4)
      refine seq_store (w' := w67) (by rfl) (by rfl) (by rw [hw67]; go_simp; (try (with_reducible rfl)); done) ?_
      obtain ⟨dw0, dw1, dw2⟩ := s3w hw67 q5 q6 q7
      have hT := ai (s3f hw67 f0 fr0) <| ai (s3o hw67 (by omega) q1) <| ai (s3o hw67 (by omega) q2) <| ai (s3o hw67 (by omega) q3) <| ai (s3f hw67 f4 fr4) <| ai (dw0) <| ai (dw1) <| ai (dw2) <| ai (s3f hw67 f8 fr8) <| ai (s3o hw67 (by omega) q9) <| ai (s3o hw67 (by omega) q10) <| ai (s3o hw67 (by omega) q11) <| ai (s3f hw67 f12 fr12) <| ai (s3o hw67 (by omega) q13) <| ai (s3o hw67 (by omega) q14) <| ai (s3o hw67 (by omega) q15) <| s3b hw67 (by omega) hF
      clear dw0 dw1 dw2
      (try clear hS)
      have hS := hT
      clear hT dd0 dd1 dd2 dd3 dd4 hw67
      have hS2 := hS
      obtain ⟨⟨f0, fr0⟩, q1, q2, q3, ⟨f4, fr4⟩, q5, q6, q7, ⟨f8, fr8⟩, q9, q10, q11, ⟨f12, fr12⟩, q13, q14, q15, hF⟩ := hS2
      have hzw : w.heap.size ≤ w67.heap.size := hF.size
      have hB := hF
      have hz1 : w.heap.size < w67.heap.size := World.block_lt_of_cell? w67 _ q1
      have hz2 : w.heap.size + 1 < w67.heap.size := World.block_lt_of_cell? w67 _ q5
      have hz3 : A < w67.heap.size := World.block_lt_of_cell? w67 _ q9
      have hz4 : B < w67.heap.size := World.block_lt_of_cell? w67 _ q13
      refine ⟨(fun W => W.cell? ⟨A, 0, none⟩ = some (.bool false) ∧ W.cell? ⟨A, 1, none⟩ = some (.int .i64 a) ∧ W.cell? ⟨A, 2, none⟩ = some (.int .i64 b) ∧ W.cell? ⟨B, 0, none⟩ = some (.bool o4) ∧ W.cell? ⟨B, 1, none⟩ = some (.int .i64 a4) ∧ W.cell? ⟨B, 2, none⟩ = some (.int .i64 b4) ∧ Below w.heap.size w W), ⟨hS.2.2.2.2.2.2.2.2.2.1, hS.2.2.2.2.2.2.2.2.2.2.1, hS.2.2.2.2.2.2.2.2.2.2.2.1, hS.2.2.2.2.2.2.2.2.2.2.2.2.2.1, hS.2.2.2.2.2.2.2.2.2.2.2.2.2.2.1, hS.2.2.2.2.2.2.2.2.2.2.2.2.2.2.2.1, hS.2.2.2.2.2.2.2.2.2.2.2.2.2.2.2.2⟩, (fun W h => h), ?_⟩
      simp only [Act.put, pa, pb, pc]
      repeat (first
        | ((refine seq_skip (by rfl) (by rfl) ?_); simp only [Act.put, pa, pb, pc])
        | ((refine seq_val (v := ?_) (by rfl) (by rfl) (fun w hS => ?_) ?_); rotate_left; (focus ((try dsimp only at hS); go_simp; (try (with_reducible rfl)); done)); simp only [Act.put, pa, pb, pc]))
      refine seq_nil ?_
      go_wp2
      refine bodyPost_ret (by simp [results, Try.results31, go_sem, q1, q2, q3, q5, q6, q7]; try rfl) rfl ?_
      exact ⟨_, _, _, _, _, _, rfl, by go_grown⟩
    · go_wp2_with fail
      refine (report_c (w.heap.size + 2) (0 + 26) _ (hide hq0) (by omega)).mono ?_
      rintro e w65 ⟨_, rfl, ⟨o5, a5, b5, rfl, ⟨a50, a51⟩, b50, b51⟩, hcn, hgn⟩
      have hT := ai (hcn) <| ai (gf hgn f0 fr0 (by omega)) <| ai (gc hgn q1 (by omega)) <| ai (gc hgn q2 (by omega)) <| ai (gc hgn q3 (by omega)) <| ai (gf hgn f4 fr4 (by omega)) <| ai (gc hgn q5 (by omega)) <| ai (gc hgn q6 (by omega)) <| ai (gc hgn q7 (by omega)) <| ai (gf hgn f8 fr8 (by omega)) <| ai (gc hgn q9 (by omega)) <| ai (gc hgn q10 (by omega)) <| ai (gc hgn q11 (by omega)) <| ai (gf hgn f12 fr12 (by omega)) <| ai (gc hgn q13 (by omega)) <| ai (gc hgn q14 (by omega)) <| ai (gc hgn q15 (by omega)) <| below_gb hF hgn hF.size (by omega)
      clear hS hcn hgn
      have hS := hT
      clear hT
      have hS2 := hS
      obtain ⟨hq0, ⟨f0, fr0⟩, q1, q2, q3, ⟨f4, fr4⟩, q5, q6, q7, ⟨f8, fr8⟩, q9, q10, q11, ⟨f12, fr12⟩, q13, q14, q15, hF⟩ := hS2
      have hgl : w.heap.size + 2 < w65.heap.size := hq0.lt
      have hzw : w.heap.size ≤ w65.heap.size := hF.size
      have hB := hF
      have hz1 : w.heap.size < w65.heap.size := World.block_lt_of_cell? w65 _ q1
      have hz2 : w.heap.size + 1 < w65.heap.size := World.block_lt_of_cell? w65 _ q5
      have hz3 : A < w65.heap.size := World.block_lt_of_cell? w65 _ q9
      have hz4 : B < w65.heap.size := World.block_lt_of_cell? w65 _ q13
      go_upto_region 8 with fail
      obtain ⟨w66, hw66⟩ : ∃ W, W = ((w65.setCell ⟨A, 0, none⟩ (.bool o5)).setCell ⟨A, 1, none⟩ (.int .i64 a5)).setCell ⟨A, 2, none⟩ (.int .i64 b5) := ⟨_, rfl⟩
      obtain ⟨dd0, dd1, dd2, dd3, dd4⟩ := box3_sets q9 q10 q11 (.bool o5) (.int .i64 a5) (.int .i64 b5)
      obtain ⟨dw0, dw1, dw2⟩ := s3w hw66 q9 q10 q11
      have hT := ai (s3c hw66 (by omega) hq0) <| ai (s3f hw66 f0 fr0) <| ai (s3o hw66 (by omega) q1) <| ai (s3o hw66 (by omega) q2) <| ai (s3o hw66 (by omega) q3) <| ai (s3f hw66 f4 fr4) <| ai (s3o hw66 (by omega) q5) <| ai (s3o hw66 (by omega) q6) <| ai (s3o hw66 (by omega) q7) <| ai (s3f hw66 f8 fr8) <| ai (dw0) <| ai (dw1) <| ai (dw2) <| ai (s3f hw66 f12 fr12) <| ai (s3o hw66 (by omega) q13) <| ai (s3o hw66 (by omega) q14) <| ai (s3o hw66 (by omega) q15) <| s3b hw66 (by omega) hF
      clear dw0 dw1 dw2
      rw [← hw66]
      clear hS dd0 dd1 dd2 dd3 dd4 hw66
      have hS := hT
      clear hT
      have hS2 := hS
      obtain ⟨hq0, ⟨f0, fr0⟩, q1, q2, q3, ⟨f4, fr4⟩, q5, q6, q7, ⟨f8, fr8⟩, q9, q10, q11, ⟨f12, fr12⟩, q13, q14, q15, hF⟩ := hS2
      have hgl : w.heap.size + 2 < w66.heap.size := hq0.lt
      have hzw : w.heap.size ≤ w66.heap.size := hF.size
      have hB := hF
      have hz1 : w.heap.size < w66.heap.size := World.block_lt_of_cell? w66 _ q1
      have hz2 : w.heap.size + 1 < w66.heap.size := World.block_lt_of_cell? w66 _ q5
      have hz3 : A < w66.heap.size := World.block_lt_of_cell? w66 _ q9
      have hz4 : B < w66.heap.size := World.block_lt_of_cell? w66 _ q13
      refine wp_region_all (by kernel_rfl) ?_
      obtain ⟨w67, hwq⟩ : ∃ W, World.drew w66 = W := ⟨_, rfl⟩
      have hb : Below w66.heap.size w66 w67 := by rw [← hwq]; go_grown
      rw [hwq]
      have hT := ai (hq0.below hb) <| ai (kf hb f0 fr0) <| ai (kc hb q1) <| ai (kc hb q2) <| ai (kc hb q3) <| ai (kf hb f4 fr4) <| ai (kc hb q5) <| ai (kc hb q6) <| ai (kc hb q7) <| ai (kf hb f8 fr8) <| ai (kc hb q9) <| ai (kc hb q10) <| ai (kc hb q11) <| ai (kf hb f12 fr12) <| ai (kc hb q13) <| ai (kc hb q14) <| ai (kc hb q15) <| below_via hF hb
      clear hS hb hwq
      have hS := hT
      clear hT
      have hS2 := hS
      obtain ⟨hq0, ⟨f0, fr0⟩, q1, q2, q3, ⟨f4, fr4⟩, q5, q6, q7, ⟨f8, fr8⟩, q9, q10, q11, ⟨f12, fr12⟩, q13, q14, q15, hF⟩ := hS2
      have hgl : w.heap.size + 2 < w67.heap.size := hq0.lt
      have hzw : w.heap.size ≤ w67.heap.size := hF.size
      have hB := hF
      have hz1 : w.heap.size < w67.heap.size := World.block_lt_of_cell? w67 _ q1
      have hz2 : w.heap.size + 1 < w67.heap.size := World.block_lt_of_cell? w67 _ q5
      have hz3 : A < w67.heap.size := World.block_lt_of_cell? w67 _ q9
      have hz4 : B < w67.heap.size := World.block_lt_of_cell? w67 _ q13
      refine all_seq_core [0, 1, 2, 3] (fun W => W.cell? ⟨A, 0, none⟩ = some (.bool o5) ∧ W.cell? ⟨A, 1, none⟩ = some (.int .i64 a5) ∧ W.cell? ⟨A, 2, none⟩ = some (.int .i64 b5) ∧ W.cell? ⟨B, 0, none⟩ = some (.bool o4) ∧ W.cell? ⟨B, 1, none⟩ = some (.int .i64 a4) ∧ W.cell? ⟨B, 2, none⟩ = some (.int .i64 b4) ∧ Below w.heap.size w W) (Core.refl _) (by kernel_rfl) ⟨hS.2.2.2.2.2.2.2.2.2.2.1, hS.2.2.2.2.2.2.2.2.2.2.2.1, hS.2.2.2.2.2.2.2.2.2.2.2.2.1, hS.2.2.2.2.2.2.2.2.2.2.2.2.2.2.1, hS.2.2.2.2.2.2.2.2.2.2.2.2.2.2.2.1, hS.2.2.2.2.2.2.2.2.2.2.2.2.2.2.2.2.1, hS.2.2.2.2.2.2.2.2.2.2.2.2.2.2.2.2.2⟩ ?_
      simp only [byNum, List.getElem?_cons_zero, List.getElem?_cons_succ]
      repeat (first
        | ((refine seq_skip (by rfl) (by rfl) ?_); simp only [Act.put, pa, pb, pc])
        | ((refine seq_val (v := ?_) (by rfl) (by rfl) (fun w hS => ?_) ?_); rotate_left; (focus ((try dsimp only at hS); go_simp; (try (with_reducible rfl)); done)); simp only [Act.put, pa, pb, pc]))
      obtain ⟨w68, hw68⟩ : ∃ W, W = ((w67.setCell ⟨w.heap.size, 0, none⟩ (.bool o5)).setCell ⟨w.heap.size, 1, none⟩ (.int .i64 a5)).setCell ⟨w.heap.size, 2, none⟩ (.int .i64 b5) := ⟨_, rfl⟩
      obtain ⟨dd0, dd1, dd2, dd3, dd4⟩ := box3_sets q1 q2 q3 (.bool o5) (.int .i64 a5) (.int .i64 b5)
      refine seq_store (w' := w68) (by rfl) (by rfl) (by rw [hw68]; go_simp; (try (with_reducible rfl)); done) ?_
      obtain ⟨dw0, dw1, dw2⟩ := s3w hw68 q1 q2 q3
      have hT := ai (s3f hw68 f0 fr0) <| ai (dw0) <| ai (dw1) <| ai (dw2) <| ai (s3f hw68 f4 fr4) <| ai (s3o hw68 (by omega) q5) <| ai (s3o hw68 (by omega) q6) <| ai (s3o hw68 (by omega) q7) <| ai (s3f hw68 f8 fr8) <| ai (s3o hw68 (by omega) q9) <| ai (s3o hw68 (by omega) q10) <| ai (s3o hw68 (by omega) q11) <| ai (s3f hw68 f12 fr12) <| ai (s3o hw68 (by omega) q13) <| ai (s3o hw68 (by omega) q14) <| ai (s3o hw68 (by omega) q15) <| s3b hw68 (by omega) hF
      clear dw0 dw1 dw2
      (try clear hS)
      have hS := hT
      clear hT dd0 dd1 dd2 dd3 dd4 hw68
      have hS2 := hS
      obtain ⟨⟨f0, fr0⟩, q1, q2, q3, ⟨f4, fr4⟩, q5, q6, q7, ⟨f8, fr8⟩, q9, q10, q11, ⟨f12, fr12⟩, q13, q14, q15, hF⟩ := hS2
      have hzw : w.heap.size ≤ w68.heap.size := hF.size
      have hB := hF
      have hz1 : w.heap.size < w68.heap.size := World.block_lt_of_cell? w68 _ q1
      have hz2 : w.heap.size + 1 < w68.heap.size := World.block_lt_of_cell? w68 _ q5
      have hz3 : A < w68.heap.size := World.block_lt_of_cell? w68 _ q9
      have hz4 : B < w68.heap.size := World.block_lt_of_cell? w68 _ q13
      refine ⟨(fun W => W.cell? ⟨A, 0, none⟩ = some (.bool o5) ∧ W.cell? ⟨A, 1, none⟩ = some (.int .i64 a5) ∧ W.cell? ⟨A, 2, none⟩ = some (.int .i64 b5) ∧ W.cell? ⟨B, 0, none⟩ = some (.bool o4) ∧ W.cell? ⟨B, 1, none⟩ = some (.int .i64 a4) ∧ W.cell? ⟨B, 2, none⟩ = some (.int .i64 b4) ∧ Below w.heap.size w W), ⟨hS.2.2.2.2.2.2.2.2.2.1, hS.2.2.2.2.2.2.2.2.2.2.1, hS.2.2.2.2.2.2.2.2.2.2.2.1, hS.2.2.2.2.2.2.2.2.2.2.2.2.2.1, hS.2.2.2.2.2.2.2.2.2.2.2.2.2.2.1, hS.2.2.2.2.2.2.2.2.2.2.2.2.2.2.2.1, hS.2.2.2.2.2.2.2.2.2.2.2.2.2.2.2.2⟩, (fun W h => h), ?_⟩
      simp only [Act.put, pa, pb, pc]
      repeat (first
        | ((refine seq_skip (by rfl) (by rfl) ?_); simp only [Act.put, pa, pb, pc])
        | ((refine seq_val (v := ?_) (by rfl) (by rfl) (fun w hS => ?_) ?_); rotate_left; (focus ((try dsimp only at hS); go_simp; (try (with_reducible rfl)); done)); simp only [Act.put, pa, pb, pc]))
      obtain ⟨w69, hw69⟩ : ∃ W, W = ((w68.setCell ⟨w.heap.size + 1, 0, none⟩ (.bool o4)).setCell ⟨w.heap.size + 1, 1, none⟩ (.int .i64 a4)).setCell ⟨w.heap.size + 1, 2, none⟩ (.int .i64 b4) := ⟨_, rfl⟩
      obtain ⟨dd0, dd1, dd2, dd3, dd4⟩ := box3_sets q5 q6 q7 (.bool o4) (.int .i64 a4) (.int .i64 b4)
      refine seq_store (w' := w69) (by rfl) (by rfl) (by rw [hw69]; go_simp; (try (with_reducible rfl)); done) ?_
      obtain ⟨dw0, dw1, dw2⟩ := s3w hw69 q5 q6 q7
      have hT := ai (s3f hw69 f0 fr0) <| ai (s3o hw69 (by omega) q1) <| ai (s3o hw69 (by omega) q2) <| ai (s3o hw69 (by omega) q3) <| ai (s3f hw69 f4 fr4) <| ai (dw0) <| ai (dw1) <| ai (dw2) <| ai (s3f hw69 f8 fr8) <| ai (s3o hw69 (by omega) q9) <| ai (s3o hw69 (by omega) q10) <| ai (s3o hw69 (by omega) q11) <| ai (s3f hw69 f12 fr12) <| ai (s3o hw69 (by omega) q13) <| ai (s3o hw69 (by omega) q14) <| ai (s3o hw69 (by omega) q15) <| s3b hw69 (by omega) hF
      clear dw0 dw1 dw2
      (try clear hS)
      have hS := hT
      clear hT dd0 dd1 dd2 dd3 dd4 hw69
      have hS2 := hS
      obtain ⟨⟨f0, fr0⟩, q1, q2, q3, ⟨f4, fr4⟩, q5, q6, q7, ⟨f8, fr8⟩, q9, q10, q11, ⟨f12, fr12⟩, q13, q14, q15, hF⟩ := hS2
      have hzw : w.heap.size ≤ w69.heap.size := hF.size
      have hB := hF
      have hz1 : w.heap.size < w69.heap.size := World.block_lt_of_cell? w69 _ q1
      have hz2 : w.heap.size + 1 < w69.heap.size := World.block_lt_of_cell? w69 _ q5
      have hz3 : A < w69.heap.size := World.block_lt_of_cell? w69 _ q9
      have hz4 : B < w69.heap.size := World.block_lt_of_cell? w69 _ q13
      refine ⟨(fun W => W.cell? ⟨A, 0, none⟩ = some (.bool o5) ∧ W.cell? ⟨A, 1, none⟩ = some (.int .i64 a5) ∧ W.cell? ⟨A, 2, none⟩ = some (.int .i64 b5) ∧ W.cell? ⟨B, 0, none⟩ = some (.bool o4) ∧ W.cell? ⟨B, 1, none⟩ = some (.int .i64 a4) ∧ W.cell? ⟨B, 2, none⟩ = some (.int .i64 b4) ∧ Below w.heap.size w W), ⟨hS.2.2.2.2.2.2.2.2.2.1, hS.2.2.2.2.2.2.2.2.2.2.1, hS.2.2.2.2.2.2.2.2.2.2.2.1, hS.2.2.2.2.2.2.2.2.2.2.2.2.2.1, hS.2.2.2.2.2.2.2.2.2.2.2.2.2.2.1, hS.2.2.2.2.2.2.2.2.2.2.2.2.2.2.2.1, hS.2.2.2.2.2.2.2.2.2.2.2.2.2.2.2.2⟩, (fun W h => h), ?_⟩
      simp only [Act.put, pa, pb, pc]
      repeat (first
        | ((refine seq_skip (by rfl) (by rfl) ?_); simp only [Act.put, pa, pb, pc])
        | ((refine seq_val (v := ?_) (by rfl) (by rfl) (fun w hS => ?_) ?_); rotate_left; (focus ((try dsimp only at hS); go_simp; (try (with_reducible rfl)); done)); simp only [Act.put, pa, pb, pc]))
      refine seq_nil ?_
      go_wp2
      refine bodyPost_ret (by simp [results, Try.results31, go_sem, q1, q2, q3, q5, q6, q7]; try rfl) rfl ?_
      exact ⟨_, _, _, _, _, _, rfl, by go_grown⟩
end Go.Proofs.Ytpabfkodlgglcaa
