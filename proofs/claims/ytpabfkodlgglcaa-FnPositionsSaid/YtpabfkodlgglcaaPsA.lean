/- Contracts: a pair of reports that is drawn. -/
import Derived.Test.YtpabfkodlgglcaaPsA0
namespace Go.Proofs.Ytpabfkodlgglcaa
open Go.RowKit

set_option maxHeartbeats 20000000 in
theorem pair_c (g k : Nat) (w : World) (hc : Hid (Cur w g k)) (hk : k ≤ 1000)  : Calls Try.prog 61 #[.pointer (some ⟨g, 0, none⟩)] w (CurG w g (k + 30) IsRep2) := by
  have hgw : g < w.heap.size := hc.out.lt
  go_enter Try.func61, Try.ntmps61
  go_wp2_with fail
  refine (place_c (g) (k) _ (hide (by repeat' (first | (with_reducible exact hc.out) | (with_reducible refine Cur.drew ?_) | (with_reducible refine Cur.alloc ?_ _) | (with_reducible refine Cur.setc ?_ (by first | omega | (simp; done) | (simp; omega)) _)))) (by omega)).mono ?_
  rintro e w1 ⟨_, rfl, ⟨x, y, rfl, ⟨x0, x1⟩, y0, y1⟩, hcn, hgn⟩
  have hT : Cur w1 (g) (k + 8) ∧ (w.heap.size < w1.heap.size ∧ ∀ i, w1.frozen? ⟨w.heap.size, i, none⟩ = false) ∧ w1.cell? ⟨w.heap.size, 0, none⟩ = some (.bool (false)) ∧ w1.cell? ⟨w.heap.size, 1, none⟩ = some (.int .i64 (0)) ∧ w1.cell? ⟨w.heap.size, 2, none⟩ = some (.int .i64 (0)) ∧ (w.heap.size + 1 < w1.heap.size ∧ ∀ i, w1.frozen? ⟨w.heap.size + 1, i, none⟩ = false) ∧ w1.cell? ⟨w.heap.size + 1, 0, none⟩ = some (.bool (false)) ∧ w1.cell? ⟨w.heap.size + 1, 1, none⟩ = some (.int .i64 (0)) ∧ w1.cell? ⟨w.heap.size + 1, 2, none⟩ = some (.int .i64 (0)) ∧ w.grownBy w1 (some g) := (fun W h hgn => ⟨hcn, fre_gb (h.2.1) hgn (by intro e; injection e with e; (try dsimp only at e); omega), hgn.cell (h.2.2.1) (by intro e; injection e with e; (try dsimp only at e); omega), hgn.cell (h.2.2.2.1) (by intro e; injection e with e; (try dsimp only at e); omega), hgn.cell (h.2.2.2.2.1) (by intro e; injection e with e; (try dsimp only at e); omega), fre_gb (h.2.2.2.2.2.1) hgn (by intro e; injection e with e; (try dsimp only at e); omega), hgn.cell (h.2.2.2.2.2.2.1) (by intro e; injection e with e; (try dsimp only at e); omega), hgn.cell (h.2.2.2.2.2.2.2.1) (by intro e; injection e with e; (try dsimp only at e); omega), hgn.cell (h.2.2.2.2.2.2.2.2.1) (by intro e; injection e with e; (try dsimp only at e); omega), grown_trans (h.2.2.2.2.2.2.2.2.2) hgn⟩ : ∀ W : World, (Cur W (g) (k) ∧ (w.heap.size < W.heap.size ∧ ∀ i, W.frozen? ⟨w.heap.size, i, none⟩ = false) ∧ W.cell? ⟨w.heap.size, 0, none⟩ = some (.bool (false)) ∧ W.cell? ⟨w.heap.size, 1, none⟩ = some (.int .i64 (0)) ∧ W.cell? ⟨w.heap.size, 2, none⟩ = some (.int .i64 (0)) ∧ (w.heap.size + 1 < W.heap.size ∧ ∀ i, W.frozen? ⟨w.heap.size + 1, i, none⟩ = false) ∧ W.cell? ⟨w.heap.size + 1, 0, none⟩ = some (.bool (false)) ∧ W.cell? ⟨w.heap.size + 1, 1, none⟩ = some (.int .i64 (0)) ∧ W.cell? ⟨w.heap.size + 1, 2, none⟩ = some (.int .i64 (0)) ∧ w.grownBy W (some g)) → W.grownBy w1 (some (g)) → (Cur w1 (g) (k + 8) ∧ (w.heap.size < w1.heap.size ∧ ∀ i, w1.frozen? ⟨w.heap.size, i, none⟩ = false) ∧ w1.cell? ⟨w.heap.size, 0, none⟩ = some (.bool (false)) ∧ w1.cell? ⟨w.heap.size, 1, none⟩ = some (.int .i64 (0)) ∧ w1.cell? ⟨w.heap.size, 2, none⟩ = some (.int .i64 (0)) ∧ (w.heap.size + 1 < w1.heap.size ∧ ∀ i, w1.frozen? ⟨w.heap.size + 1, i, none⟩ = false) ∧ w1.cell? ⟨w.heap.size + 1, 0, none⟩ = some (.bool (false)) ∧ w1.cell? ⟨w.heap.size + 1, 1, none⟩ = some (.int .i64 (0)) ∧ w1.cell? ⟨w.heap.size + 1, 2, none⟩ = some (.int .i64 (0)) ∧ w.grownBy w1 (some g))) _ ⟨(by repeat' (first | (with_reducible exact hc.out) | (with_reducible refine Cur.drew ?_) | (with_reducible refine Cur.alloc ?_ _) | (with_reducible refine Cur.setc ?_ (by first | omega | (simp; done) | (simp; omega)) _))), (by first | (with_reducible assumption) | (simp [go_sem]; done) | (refine keep_fre ?_ ⟨by with_reducible assumption, by with_reducible assumption⟩; go_grown; done) | (simp [go_sem, *]; done)), (by first | (with_reducible assumption) | (simp [go_sem]; done) | ((simp only [go_sem]); (with_reducible assumption)) | ((refine keep_cell ?_ (by with_reducible assumption)); go_grown; done) | (simp [go_sem, *]; done) | (rw [World.cell?_setCell_other _ _ _ _ (by simp; omega)]; with_reducible assumption) | (rw [World.cell?_setCell_other _ _ _ _ (by simp; omega), World.cell?_setCell_other _ _ _ _ (by simp; omega)]; with_reducible assumption)), (by first | (with_reducible assumption) | (simp [go_sem]; done) | ((simp only [go_sem]); (with_reducible assumption)) | ((refine keep_cell ?_ (by with_reducible assumption)); go_grown; done) | (simp [go_sem, *]; done) | (rw [World.cell?_setCell_other _ _ _ _ (by simp; omega)]; with_reducible assumption) | (rw [World.cell?_setCell_other _ _ _ _ (by simp; omega), World.cell?_setCell_other _ _ _ _ (by simp; omega)]; with_reducible assumption)), (by first | (with_reducible assumption) | (simp [go_sem]; done) | ((simp only [go_sem]); (with_reducible assumption)) | ((refine keep_cell ?_ (by with_reducible assumption)); go_grown; done) | (simp [go_sem, *]; done) | (rw [World.cell?_setCell_other _ _ _ _ (by simp; omega)]; with_reducible assumption) | (rw [World.cell?_setCell_other _ _ _ _ (by simp; omega), World.cell?_setCell_other _ _ _ _ (by simp; omega)]; with_reducible assumption)), (by first | (with_reducible assumption) | (simp [go_sem]; done) | (refine keep_fre ?_ ⟨by with_reducible assumption, by with_reducible assumption⟩; go_grown; done) | (simp [go_sem, *]; done)), (by first | (with_reducible assumption) | (simp [go_sem]; done) | ((simp only [go_sem]); (with_reducible assumption)) | ((refine keep_cell ?_ (by with_reducible assumption)); go_grown; done) | (simp [go_sem, *]; done) | (rw [World.cell?_setCell_other _ _ _ _ (by simp; omega)]; with_reducible assumption) | (rw [World.cell?_setCell_other _ _ _ _ (by simp; omega), World.cell?_setCell_other _ _ _ _ (by simp; omega)]; with_reducible assumption)), (by first | (with_reducible assumption) | (simp [go_sem]; done) | ((simp only [go_sem]); (with_reducible assumption)) | ((refine keep_cell ?_ (by with_reducible assumption)); go_grown; done) | (simp [go_sem, *]; done) | (rw [World.cell?_setCell_other _ _ _ _ (by simp; omega)]; with_reducible assumption) | (rw [World.cell?_setCell_other _ _ _ _ (by simp; omega), World.cell?_setCell_other _ _ _ _ (by simp; omega)]; with_reducible assumption)), (by first | (with_reducible assumption) | (simp [go_sem]; done) | ((simp only [go_sem]); (with_reducible assumption)) | ((refine keep_cell ?_ (by with_reducible assumption)); go_grown; done) | (simp [go_sem, *]; done) | (rw [World.cell?_setCell_other _ _ _ _ (by simp; omega)]; with_reducible assumption) | (rw [World.cell?_setCell_other _ _ _ _ (by simp; omega), World.cell?_setCell_other _ _ _ _ (by simp; omega)]; with_reducible assumption)), (by repeat' (first | (with_reducible assumption) | (with_reducible exact gb_refl _ _) | (with_reducible refine gb_drew ?_) | (with_reducible refine gb_alloc ?_ _) | (with_reducible refine gb_seta ?_ (by first | omega | (simp; done) | (simp; omega)) _)))⟩ hgn
  (try clear hS)
  have hS := hT
  clear hT hcn hgn
  have hS2 := hS
  obtain ⟨hq0, ⟨f0, fr0⟩, q1, q2, q3, ⟨f4, fr4⟩, q5, q6, q7, hF⟩ := hS2
  have hgl : g < w1.heap.size := hq0.lt
  have hzw : w.heap.size ≤ w1.heap.size := hF.size
  have hz1 : w.heap.size < w1.heap.size := World.block_lt_of_cell? w1 _ q1
  have hz2 : w.heap.size + 1 < w1.heap.size := World.block_lt_of_cell? w1 _ q5
  go_upto_region 2 with fail
  generalize hgw2 : World.alloc w1 _ = w2
  have hb : Below w1.heap.size w1 w2 := by rw [← hgw2]; go_grown
  obtain ⟨n9, n0, n1⟩ := al2 hgw2
  have hT := ai (hq0.below hb) <| ai (kf hb f0 fr0) <| ai (kc hb q1) <| ai (kc hb q2) <| ai (kc hb q3) <| ai (kf hb f4 fr4) <| ai (kc hb q5) <| ai (kc hb q6) <| ai (kc hb q7) <| ai (n9) <| ai (n0) <| ai (n1) <| gb_below (hS.2.2.2.2.2.2.2.2.2) hb
  clear n9 n0 n1
  clear hS hb hgw2
  have hS := hT
  clear hT
  have hS2 := hS
  obtain ⟨hq0, ⟨f0, fr0⟩, q1, q2, q3, ⟨f4, fr4⟩, q5, q6, q7, ⟨f8, fr8⟩, q9, q10, hF⟩ := hS2
  have hgl : g < w2.heap.size := hq0.lt
  have hzw : w.heap.size ≤ w2.heap.size := hF.size
  have hz1 : w.heap.size < w2.heap.size := World.block_lt_of_cell? w2 _ q1
  have hz2 : w.heap.size + 1 < w2.heap.size := World.block_lt_of_cell? w2 _ q5
  have hz3 : w1.heap.size < w2.heap.size := World.block_lt_of_cell? w2 _ q9
  go_cut [5] (fun s wx => ∃ (T : Nat) (u v : Int), s = .pointer (some ⟨T, 0, none⟩) ∧ (w.heap.size + 1 < T ∧ (0 ≤ u ∧ u ≤ 9899) ∧ 0 ≤ v ∧ v ≤ 9899) ∧ (Cur wx g (k + 12) ∧ (w.heap.size < wx.heap.size ∧ ∀ i, wx.frozen? ⟨w.heap.size, i, none⟩ = false) ∧ wx.cell? ⟨w.heap.size, 0, none⟩ = some (.bool (false)) ∧ wx.cell? ⟨w.heap.size, 1, none⟩ = some (.int .i64 (0)) ∧ wx.cell? ⟨w.heap.size, 2, none⟩ = some (.int .i64 (0)) ∧ (w.heap.size + 1 < wx.heap.size ∧ ∀ i, wx.frozen? ⟨w.heap.size + 1, i, none⟩ = false) ∧ wx.cell? ⟨w.heap.size + 1, 0, none⟩ = some (.bool (false)) ∧ wx.cell? ⟨w.heap.size + 1, 1, none⟩ = some (.int .i64 (0)) ∧ wx.cell? ⟨w.heap.size + 1, 2, none⟩ = some (.int .i64 (0)) ∧ wx.cell? ⟨w1.heap.size, 0, none⟩ = some (.int .i64 (x)) ∧ wx.cell? ⟨w1.heap.size, 1, none⟩ = some (.int .i64 (y)) ∧ wx.cell? ⟨T, 0, none⟩ = some (.int .i64 (u)) ∧ wx.cell? ⟨T, 1, none⟩ = some (.int .i64 (v)) ∧ w.grownBy wx (some g)))
  case first =>
    refine wp_region_all (by kernel_rfl) ?_
    obtain ⟨w3, hwq⟩ : ∃ W, World.drew w2 = W := ⟨_, rfl⟩
    have hb : Below w2.heap.size w2 w3 := by rw [← hwq]; go_grown
    rw [hwq]
    have hT := ai (hq0.below hb) <| ai (kf hb f0 fr0) <| ai (kc hb q1) <| ai (kc hb q2) <| ai (kc hb q3) <| ai (kf hb f4 fr4) <| ai (kc hb q5) <| ai (kc hb q6) <| ai (kc hb q7) <| ai (kf hb f8 fr8) <| ai (kc hb q9) <| ai (kc hb q10) <| gb_below hF hb
    clear hS hb hwq
    have hS := hT
    clear hT
    have hS2 := hS
    obtain ⟨hq0, ⟨f0, fr0⟩, q1, q2, q3, ⟨f4, fr4⟩, q5, q6, q7, ⟨f8, fr8⟩, q9, q10, hF⟩ := hS2
    have hgl : g < w3.heap.size := hq0.lt
    have hzw : w.heap.size ≤ w3.heap.size := hF.size
    have hz1 : w.heap.size < w3.heap.size := World.block_lt_of_cell? w3 _ q1
    have hz2 : w.heap.size + 1 < w3.heap.size := World.block_lt_of_cell? w3 _ q5
    have hz3 : w1.heap.size < w3.heap.size := World.block_lt_of_cell? w3 _ q9
    have HK9 := hide hS
    have hT : Cur w3 (g) (k + 8) ∧ w3.cell? ⟨w1.heap.size, 0, none⟩ = some (.int .i64 (x)) ∧ w3.cell? ⟨w1.heap.size, 1, none⟩ = some (.int .i64 (y)) ∧ w3.grownBy w3 (some (g)) ∧ w.grownBy w3 (some g) := ⟨hS.1, hS.2.2.2.2.2.2.2.2.2.2.1, hS.2.2.2.2.2.2.2.2.2.2.2.1, gb_refl _ _, hS.2.2.2.2.2.2.2.2.2.2.2.2⟩
    clear hS
    have hS := hT
    clear hT
    have hS2 := hS
    obtain ⟨hq0, q0, q1, q2, hF⟩ := hS2
    have hgl : g < w3.heap.size := hq0.lt
    have hzw : w.heap.size ≤ w3.heap.size := hF.size
    have hz1 : w1.heap.size < w3.heap.size := World.block_lt_of_cell? w3 _ q0
    have hzk3 : w3.heap.size ≤ w3.heap.size := q2.size
    refine all_split 13 3 (by decide) ?_ ?_
    · refine all_seq_core [0, 1, 2, 6, 7, 8, 13, 3, 4, 5, 9, 10, 11, 12, 14] (fun W => W.cell? ⟨w1.heap.size, 0, none⟩ = some (.int .i64 (x)) ∧ W.cell? ⟨w1.heap.size, 1, none⟩ = some (.int .i64 (y)) ∧ w.grownBy W (some g)) (addE_core 13 3 _) (by kernel_rfl) ⟨hS.2.1, hS.2.2.1, hS.2.2.2.2⟩ ?_
      simp only [byNum, List.getElem?_cons_zero, List.getElem?_cons_succ]
      repeat (first
        | ((refine seq_skip (by rfl) (by rfl) ?_); simp only [Act.put, pa, pb, pc])
        | ((refine seq_val (v := ?_) (by rfl) (by rfl) (fun w hS => ?_) ?_); rotate_left; (focus ((try dsimp only at hS); go_simp; (try (with_reducible rfl)); done)); simp only [Act.put, pa, pb, pc]))
      refine seq_deed (v := ?_) (w' := ?_) (by rfl) (by rfl) ?_ ?_
      rotate_left
      rotate_left
      focus (go_simp; (constructor <;> (with_reducible rfl)); done)
      generalize hgw4 : World.alloc w3 _ = w4
      have hb : Below w3.heap.size w3 w4 := by rw [← hgw4]; go_grown
      obtain ⟨n9, n0, n1⟩ := al2 hgw4
      have hT := ai (hq0.below hb) <| ai (kc hb q0) <| ai (kc hb q1) <| ai (gb_below q2 hb) <| ai (n9) <| ai (n0) <| ai (n1) <| gb_below (hS.2.2.2.2) hb
      clear n9 n0 n1
      clear hS hb hgw4
      have hS := hT
      clear hT
      have hS2 := hS
      obtain ⟨hq0, q0, q1, q2, ⟨f3, fr3⟩, q4, q5, hF⟩ := hS2
      have hgl : g < w4.heap.size := hq0.lt
      have hzw : w.heap.size ≤ w4.heap.size := hF.size
      have hz1 : w1.heap.size < w4.heap.size := World.block_lt_of_cell? w4 _ q0
      have hzk4 : w3.heap.size ≤ w4.heap.size := q2.size
      have hz2 : w3.heap.size < w4.heap.size := World.block_lt_of_cell? w4 _ q4
      refine ⟨(fun W => W.cell? ⟨w1.heap.size, 0, none⟩ = some (.int .i64 (x)) ∧ W.cell? ⟨w1.heap.size, 1, none⟩ = some (.int .i64 (y)) ∧ w.grownBy W (some g)), ⟨hS.2.1, hS.2.2.1, hS.2.2.2.2.2.2.2⟩, (fun W h => h), ?_⟩
      simp only [Act.put, pa, pb, pc]
      repeat (first
        | ((refine seq_skip (by rfl) (by rfl) ?_); simp only [Act.put, pa, pb, pc])
        | ((refine seq_val (v := ?_) (by rfl) (by rfl) (fun w hS => ?_) ?_); rotate_left; (focus ((try dsimp only at hS); go_simp; (try (with_reducible rfl)); done)); simp only [Act.put, pa, pb, pc]))
      refine seq_call (f := ?_) (args := ?_) (by rfl) (by rfl) ?_ ?_
      rotate_left
      rotate_left
      focus (go_simp; (constructor <;> (with_reducible rfl)); done)
      refine (pick_c 4 (by omega) (g) (k + 8) _ (hide hq0) (by omega)).mono ?_
      rintro e w5 ⟨_, rfl, ⟨p, rfl, p0, p1⟩, hcn, hgn⟩
      have hT := ai (hcn) <| ai (gc hgn q0 (by omega)) <| ai (gc hgn q1 (by omega)) <| ai (grown_trans q2 hgn) <| ai (gf hgn f3 fr3 (by omega)) <| ai (gc hgn q4 (by omega)) <| ai (gc hgn q5 (by omega)) <| grown_trans hF hgn
      clear hS hcn hgn
      have hS := hT
      clear hT
      have hS2 := hS
      obtain ⟨hq0, q0, q1, q2, ⟨f3, fr3⟩, q4, q5, hF⟩ := hS2
      have hgl : g < w5.heap.size := hq0.lt
      have hzw : w.heap.size ≤ w5.heap.size := hF.size
      have hz1 : w1.heap.size < w5.heap.size := World.block_lt_of_cell? w5 _ q0
      have hzk5 : w3.heap.size ≤ w5.heap.size := q2.size
      have hz2 : w3.heap.size < w5.heap.size := World.block_lt_of_cell? w5 _ q4
      have hp9 : p ≤ 3 := by omega
      have ewp : IntKind.i64.wrap (x + p) = x + p := IntWalk.i64_in _ (by omega)
      refine ⟨_, rfl, (fun W => W.cell? ⟨w1.heap.size, 0, none⟩ = some (.int .i64 (x)) ∧ W.cell? ⟨w1.heap.size, 1, none⟩ = some (.int .i64 (y)) ∧ w.grownBy W (some g)), ⟨hS.2.1, hS.2.2.1, hS.2.2.2.2.2.2.2⟩, (fun W h => h), ?_⟩
      simp only [Act.put, pa, pb, pc]
      repeat (first
        | ((refine seq_skip (by rfl) (by rfl) ?_); simp only [Act.put, pa, pb, pc])
        | ((refine seq_val (v := ?_) (by rfl) (by rfl) (fun w hS => ?_) ?_); rotate_left; (focus ((try dsimp only at hS); go_simp; (try (with_reducible rfl)); done)); simp only [Act.put, pa, pb, pc]))
      refine seq_call (f := ?_) (args := ?_) (by rfl) (by rfl) ?_ ?_
      rotate_left
      rotate_left
      focus (go_simp; (constructor <;> (with_reducible rfl)); done)
      refine (least_ex (x + p) 9899 (by omega) (by omega) _).mono ?_
      rintro e wz ⟨u, rfl, ⟨u0, u1⟩, rfl⟩
      refine ⟨_, rfl, (fun W => W.cell? ⟨w1.heap.size, 0, none⟩ = some (.int .i64 (x)) ∧ W.cell? ⟨w1.heap.size, 1, none⟩ = some (.int .i64 (y)) ∧ w.grownBy W (some g)), ⟨hS.2.1, hS.2.2.1, hS.2.2.2.2.2.2.2⟩, (fun W h => h), ?_⟩
      simp only [Act.put, pa, pb, pc]
      repeat (first
        | ((refine seq_skip (by rfl) (by rfl) ?_); simp only [Act.put, pa, pb, pc])
        | ((refine seq_val (v := ?_) (by rfl) (by rfl) (fun w hS => ?_) ?_); rotate_left; (focus ((try dsimp only at hS); go_simp; (try (with_reducible rfl)); done)); simp only [Act.put, pa, pb, pc]))
      refine seq_call (f := ?_) (args := ?_) (by rfl) (by rfl) ?_ ?_
      rotate_left
      rotate_left
      focus (go_simp; (constructor <;> (with_reducible rfl)); done)
      refine (pick_c 4 (by omega) (g) (k + 10) _ (hide hq0) (by omega)).mono ?_
      rintro e w6 ⟨_, rfl, ⟨q, rfl, qa, qb⟩, hcn, hgn⟩
      have hT := ai (hcn) <| ai (gc hgn q0 (by omega)) <| ai (gc hgn q1 (by omega)) <| ai (grown_trans q2 hgn) <| ai (gf hgn f3 fr3 (by omega)) <| ai (gc hgn q4 (by omega)) <| ai (gc hgn q5 (by omega)) <| grown_trans hF hgn
      clear hS hcn hgn
      have hS := hT
      clear hT
      have hS2 := hS
      obtain ⟨hq0, q0, q1, q2, ⟨f3, fr3⟩, q4, q5, hF⟩ := hS2
      have hgl : g < w6.heap.size := hq0.lt
      have hzw : w.heap.size ≤ w6.heap.size := hF.size
      have hz1 : w1.heap.size < w6.heap.size := World.block_lt_of_cell? w6 _ q0
      have hzk6 : w3.heap.size ≤ w6.heap.size := q2.size
      have hz2 : w3.heap.size < w6.heap.size := World.block_lt_of_cell? w6 _ q4
      have hq9 : q ≤ 3 := by omega
      have ewq : IntKind.i64.wrap (y - q) = y - q := IntWalk.i64_in _ (by omega)
      refine ⟨_, rfl, (fun W => W.cell? ⟨w1.heap.size, 0, none⟩ = some (.int .i64 (x)) ∧ W.cell? ⟨w1.heap.size, 1, none⟩ = some (.int .i64 (y)) ∧ w.grownBy W (some g)), ⟨hS.2.1, hS.2.2.1, hS.2.2.2.2.2.2.2⟩, (fun W h => h), ?_⟩
      simp only [Act.put, pa, pb, pc]
      repeat (first
        | ((refine seq_skip (by rfl) (by rfl) ?_); simp only [Act.put, pa, pb, pc])
        | ((refine seq_val (v := ?_) (by rfl) (by rfl) (fun w hS => ?_) ?_); rotate_left; (focus ((try dsimp only at hS); go_simp; (try (with_reducible rfl)); done)); simp only [Act.put, pa, pb, pc]))
      refine seq_call (f := ?_) (args := ?_) (by rfl) (by rfl) ?_ ?_
      rotate_left
      rotate_left
      focus (go_simp; (constructor <;> (with_reducible rfl)); done)
      refine (most_ex (y - q) 0 (by omega) (by omega) (by omega) _).mono ?_
      rintro e wz ⟨v, rfl, ⟨v0, v1⟩, rfl⟩
      refine ⟨_, rfl, (fun W => W.cell? ⟨w1.heap.size, 0, none⟩ = some (.int .i64 (x)) ∧ W.cell? ⟨w1.heap.size, 1, none⟩ = some (.int .i64 (y)) ∧ w.grownBy W (some g)), ⟨hS.2.1, hS.2.2.1, hS.2.2.2.2.2.2.2⟩, (fun W h => h), ?_⟩
      simp only [Act.put, pa, pb, pc]
      repeat (first
        | ((refine seq_skip (by rfl) (by rfl) ?_); simp only [Act.put, pa, pb, pc])
        | ((refine seq_val (v := ?_) (by rfl) (by rfl) (fun w hS => ?_) ?_); rotate_left; (focus ((try dsimp only at hS); go_simp; (try (with_reducible rfl)); done)); simp only [Act.put, pa, pb, pc]))
      obtain ⟨w7, hw7⟩ : ∃ W, W = (w6.setCell ⟨w3.heap.size, 0, none⟩ (.int .i64 (u))).setCell ⟨w3.heap.size, 1, none⟩ (.int .i64 (v)) := ⟨_, rfl⟩
      obtain ⟨dd0, dd1, dd2, dd3⟩ := box2_sets q4 q5 (.int .i64 (u)) (.int .i64 (v))
      refine seq_store (w' := w7) (by rfl) (by rfl) (by rw [hw7]; go_simp; (try (with_reducible rfl)); done) ?_
      obtain ⟨dw0, dw1⟩ := s2w hw7 q4 q5
      have hT := ai (s2c hw7 (by omega) hq0) <| ai (s2o hw7 (by omega) q0) <| ai (s2o hw7 (by omega) q1) <| ai (s2g hw7 (by omega) q2) <| ai (s2f hw7 f3 fr3) <| ai (dw0) <| ai (dw1) <| s2g hw7 (by omega) hF
      clear dw0 dw1
      (try clear hS)
      have hS := hT
      clear hT dd0 dd1 dd2 dd3 hw7
      have hS2 := hS
      obtain ⟨hq0, q0, q1, q2, ⟨f3, fr3⟩, q4, q5, hF⟩ := hS2
      have hgl : g < w7.heap.size := hq0.lt
      have hzw : w.heap.size ≤ w7.heap.size := hF.size
      have hz1 : w1.heap.size < w7.heap.size := World.block_lt_of_cell? w7 _ q0
      have hzk7 : w3.heap.size ≤ w7.heap.size := q2.size
      have hz2 : w3.heap.size < w7.heap.size := World.block_lt_of_cell? w7 _ q4
      refine ⟨(fun W => W.cell? ⟨w1.heap.size, 0, none⟩ = some (.int .i64 (x)) ∧ W.cell? ⟨w1.heap.size, 1, none⟩ = some (.int .i64 (y)) ∧ w.grownBy W (some g)), ⟨hS.2.1, hS.2.2.1, hS.2.2.2.2.2.2.2⟩, (fun W h => h), ?_⟩
      simp only [Act.put, pa, pb, pc]
      repeat (first
        | ((refine seq_skip (by rfl) (by rfl) ?_); simp only [Act.put, pa, pb, pc])
        | ((refine seq_val (v := ?_) (by rfl) (by rfl) (fun w hS => ?_) ?_); rotate_left; (focus ((try dsimp only at hS); go_simp; (try (with_reducible rfl)); done)); simp only [Act.put, pa, pb, pc]))
      refine seq_nil ?_
      go_wp2_with fail
      go_meet
      case rel => exact ⟨w3.heap.size, u, v, rfl, ⟨by omega, ⟨u0, u1⟩, v0, v1⟩, hS.1, gf (hS.2.2.2.1) (HK9.out.2.1).1 (HK9.out.2.1).2 (by omega), gc (hS.2.2.2.1) (HK9.out.2.2.1) (by omega), gc (hS.2.2.2.1) (HK9.out.2.2.2.1) (by omega), gc (hS.2.2.2.1) (HK9.out.2.2.2.2.1) (by omega), gf (hS.2.2.2.1) (HK9.out.2.2.2.2.2.1).1 (HK9.out.2.2.2.2.2.1).2 (by omega), gc (hS.2.2.2.1) (HK9.out.2.2.2.2.2.2.1) (by omega), gc (hS.2.2.2.1) (HK9.out.2.2.2.2.2.2.2.1) (by omega), gc (hS.2.2.2.1) (HK9.out.2.2.2.2.2.2.2.2.1) (by omega), hS.2.1, hS.2.2.1, hS.2.2.2.2.2.1, hS.2.2.2.2.2.2.1, hS.2.2.2.2.2.2.2⟩
    · refine all_split 13 5 (by decide) ?_ ?_
      · refine all_seq_core [0, 1, 2, 6, 7, 8, 3, 4, 13, 5, 9, 10, 11, 12, 14] (fun W => W.cell? ⟨w1.heap.size, 0, none⟩ = some (.int .i64 (x)) ∧ W.cell? ⟨w1.heap.size, 1, none⟩ = some (.int .i64 (y)) ∧ w.grownBy W (some g)) (Core.trans (addE_core 3 13 _) (addE_core 13 5 _)) (by kernel_rfl) ⟨hS.2.1, hS.2.2.1, hS.2.2.2.2⟩ ?_
        simp only [byNum, List.getElem?_cons_zero, List.getElem?_cons_succ]
        repeat (first
          | ((refine seq_skip (by rfl) (by rfl) ?_); simp only [Act.put, pa, pb, pc])
          | ((refine seq_val (v := ?_) (by rfl) (by rfl) (fun w hS => ?_) ?_); rotate_left; (focus ((try dsimp only at hS); go_simp; (try (with_reducible rfl)); done)); simp only [Act.put, pa, pb, pc]))
        refine seq_call (f := ?_) (args := ?_) (by rfl) (by rfl) ?_ ?_
        rotate_left
        rotate_left
        focus (go_simp; (constructor <;> (with_reducible rfl)); done)
        refine (pick_c 4 (by omega) (g) (k + 8) _ (hide hq0) (by omega)).mono ?_
        rintro e w4 ⟨_, rfl, ⟨p, rfl, p0, p1⟩, hcn, hgn⟩
        have hT := ai (hcn) <| ai (gc hgn q0 (by omega)) <| ai (gc hgn q1 (by omega)) <| ai (grown_trans q2 hgn) <| grown_trans hF hgn
        clear hS hcn hgn
        have hS := hT
        clear hT
        have hS2 := hS
        obtain ⟨hq0, q0, q1, q2, hF⟩ := hS2
        have hgl : g < w4.heap.size := hq0.lt
        have hzw : w.heap.size ≤ w4.heap.size := hF.size
        have hz1 : w1.heap.size < w4.heap.size := World.block_lt_of_cell? w4 _ q0
        have hzk4 : w3.heap.size ≤ w4.heap.size := q2.size
        have hp9 : p ≤ 3 := by omega
        have ewp : IntKind.i64.wrap (x + p) = x + p := IntWalk.i64_in _ (by omega)
        refine ⟨_, rfl, (fun W => W.cell? ⟨w1.heap.size, 0, none⟩ = some (.int .i64 (x)) ∧ W.cell? ⟨w1.heap.size, 1, none⟩ = some (.int .i64 (y)) ∧ w.grownBy W (some g)), ⟨hS.2.1, hS.2.2.1, hS.2.2.2.2⟩, (fun W h => h), ?_⟩
        simp only [Act.put, pa, pb, pc]
        repeat (first
          | ((refine seq_skip (by rfl) (by rfl) ?_); simp only [Act.put, pa, pb, pc])
          | ((refine seq_val (v := ?_) (by rfl) (by rfl) (fun w hS => ?_) ?_); rotate_left; (focus ((try dsimp only at hS); go_simp; (try (with_reducible rfl)); done)); simp only [Act.put, pa, pb, pc]))
        refine seq_deed (v := ?_) (w' := ?_) (by rfl) (by rfl) ?_ ?_
        rotate_left
        rotate_left
        focus (go_simp; (constructor <;> (with_reducible rfl)); done)
        generalize hgw5 : World.alloc w4 _ = w5
        have hb : Below w4.heap.size w4 w5 := by rw [← hgw5]; go_grown
        obtain ⟨n9, n0, n1⟩ := al2 hgw5
        have hT := ai (hq0.below hb) <| ai (kc hb q0) <| ai (kc hb q1) <| ai (gb_below q2 hb) <| ai (n9) <| ai (n0) <| ai (n1) <| gb_below (hS.2.2.2.2) hb
        clear n9 n0 n1
        clear hS hb hgw5
        have hS := hT
        clear hT
        have hS2 := hS
        obtain ⟨hq0, q0, q1, q2, ⟨f3, fr3⟩, q4, q5, hF⟩ := hS2
        have hgl : g < w5.heap.size := hq0.lt
        have hzw : w.heap.size ≤ w5.heap.size := hF.size
        have hz1 : w1.heap.size < w5.heap.size := World.block_lt_of_cell? w5 _ q0
        have hzk5 : w3.heap.size ≤ w5.heap.size := q2.size
        have hz2 : w4.heap.size < w5.heap.size := World.block_lt_of_cell? w5 _ q4
        refine ⟨(fun W => W.cell? ⟨w1.heap.size, 0, none⟩ = some (.int .i64 (x)) ∧ W.cell? ⟨w1.heap.size, 1, none⟩ = some (.int .i64 (y)) ∧ w.grownBy W (some g)), ⟨hS.2.1, hS.2.2.1, hS.2.2.2.2.2.2.2⟩, (fun W h => h), ?_⟩
        simp only [Act.put, pa, pb, pc]
        repeat (first
          | ((refine seq_skip (by rfl) (by rfl) ?_); simp only [Act.put, pa, pb, pc])
          | ((refine seq_val (v := ?_) (by rfl) (by rfl) (fun w hS => ?_) ?_); rotate_left; (focus ((try dsimp only at hS); go_simp; (try (with_reducible rfl)); done)); simp only [Act.put, pa, pb, pc]))
        refine seq_call (f := ?_) (args := ?_) (by rfl) (by rfl) ?_ ?_
        rotate_left
        rotate_left
        focus (go_simp; (constructor <;> (with_reducible rfl)); done)
        refine (least_ex (x + p) 9899 (by omega) (by omega) _).mono ?_
        rintro e wz ⟨u, rfl, ⟨u0, u1⟩, rfl⟩
        refine ⟨_, rfl, (fun W => W.cell? ⟨w1.heap.size, 0, none⟩ = some (.int .i64 (x)) ∧ W.cell? ⟨w1.heap.size, 1, none⟩ = some (.int .i64 (y)) ∧ w.grownBy W (some g)), ⟨hS.2.1, hS.2.2.1, hS.2.2.2.2.2.2.2⟩, (fun W h => h), ?_⟩
        simp only [Act.put, pa, pb, pc]
        repeat (first
          | ((refine seq_skip (by rfl) (by rfl) ?_); simp only [Act.put, pa, pb, pc])
          | ((refine seq_val (v := ?_) (by rfl) (by rfl) (fun w hS => ?_) ?_); rotate_left; (focus ((try dsimp only at hS); go_simp; (try (with_reducible rfl)); done)); simp only [Act.put, pa, pb, pc]))
        refine seq_call (f := ?_) (args := ?_) (by rfl) (by rfl) ?_ ?_
        rotate_left
        rotate_left
        focus (go_simp; (constructor <;> (with_reducible rfl)); done)
        refine (pick_c 4 (by omega) (g) (k + 10) _ (hide hq0) (by omega)).mono ?_
        rintro e w6 ⟨_, rfl, ⟨q, rfl, qa, qb⟩, hcn, hgn⟩
        have hT := ai (hcn) <| ai (gc hgn q0 (by omega)) <| ai (gc hgn q1 (by omega)) <| ai (grown_trans q2 hgn) <| ai (gf hgn f3 fr3 (by omega)) <| ai (gc hgn q4 (by omega)) <| ai (gc hgn q5 (by omega)) <| grown_trans hF hgn
        clear hS hcn hgn
        have hS := hT
        clear hT
        have hS2 := hS
        obtain ⟨hq0, q0, q1, q2, ⟨f3, fr3⟩, q4, q5, hF⟩ := hS2
        have hgl : g < w6.heap.size := hq0.lt
        have hzw : w.heap.size ≤ w6.heap.size := hF.size
        have hz1 : w1.heap.size < w6.heap.size := World.block_lt_of_cell? w6 _ q0
        have hzk6 : w3.heap.size ≤ w6.heap.size := q2.size
        have hz2 : w4.heap.size < w6.heap.size := World.block_lt_of_cell? w6 _ q4
        have hq9 : q ≤ 3 := by omega
        have ewq : IntKind.i64.wrap (y - q) = y - q := IntWalk.i64_in _ (by omega)
        refine ⟨_, rfl, (fun W => W.cell? ⟨w1.heap.size, 0, none⟩ = some (.int .i64 (x)) ∧ W.cell? ⟨w1.heap.size, 1, none⟩ = some (.int .i64 (y)) ∧ w.grownBy W (some g)), ⟨hS.2.1, hS.2.2.1, hS.2.2.2.2.2.2.2⟩, (fun W h => h), ?_⟩
        simp only [Act.put, pa, pb, pc]
        repeat (first
          | ((refine seq_skip (by rfl) (by rfl) ?_); simp only [Act.put, pa, pb, pc])
          | ((refine seq_val (v := ?_) (by rfl) (by rfl) (fun w hS => ?_) ?_); rotate_left; (focus ((try dsimp only at hS); go_simp; (try (with_reducible rfl)); done)); simp only [Act.put, pa, pb, pc]))
        refine seq_call (f := ?_) (args := ?_) (by rfl) (by rfl) ?_ ?_
        rotate_left
        rotate_left
        focus (go_simp; (constructor <;> (with_reducible rfl)); done)
        refine (most_ex (y - q) 0 (by omega) (by omega) (by omega) _).mono ?_
        rintro e wz ⟨v, rfl, ⟨v0, v1⟩, rfl⟩
        refine ⟨_, rfl, (fun W => W.cell? ⟨w1.heap.size, 0, none⟩ = some (.int .i64 (x)) ∧ W.cell? ⟨w1.heap.size, 1, none⟩ = some (.int .i64 (y)) ∧ w.grownBy W (some g)), ⟨hS.2.1, hS.2.2.1, hS.2.2.2.2.2.2.2⟩, (fun W h => h), ?_⟩
        simp only [Act.put, pa, pb, pc]
        repeat (first
          | ((refine seq_skip (by rfl) (by rfl) ?_); simp only [Act.put, pa, pb, pc])
          | ((refine seq_val (v := ?_) (by rfl) (by rfl) (fun w hS => ?_) ?_); rotate_left; (focus ((try dsimp only at hS); go_simp; (try (with_reducible rfl)); done)); simp only [Act.put, pa, pb, pc]))
        obtain ⟨w7, hw7⟩ : ∃ W, W = (w6.setCell ⟨w4.heap.size, 0, none⟩ (.int .i64 (u))).setCell ⟨w4.heap.size, 1, none⟩ (.int .i64 (v)) := ⟨_, rfl⟩
        obtain ⟨dd0, dd1, dd2, dd3⟩ := box2_sets q4 q5 (.int .i64 (u)) (.int .i64 (v))
        refine seq_store (w' := w7) (by rfl) (by rfl) (by rw [hw7]; go_simp; (try (with_reducible rfl)); done) ?_
        obtain ⟨dw0, dw1⟩ := s2w hw7 q4 q5
        have hT := ai (s2c hw7 (by omega) hq0) <| ai (s2o hw7 (by omega) q0) <| ai (s2o hw7 (by omega) q1) <| ai (s2g hw7 (by omega) q2) <| ai (s2f hw7 f3 fr3) <| ai (dw0) <| ai (dw1) <| s2g hw7 (by omega) hF
        clear dw0 dw1
        (try clear hS)
        have hS := hT
        clear hT dd0 dd1 dd2 dd3 hw7
        have hS2 := hS
        obtain ⟨hq0, q0, q1, q2, ⟨f3, fr3⟩, q4, q5, hF⟩ := hS2
        have hgl : g < w7.heap.size := hq0.lt
        have hzw : w.heap.size ≤ w7.heap.size := hF.size
        have hz1 : w1.heap.size < w7.heap.size := World.block_lt_of_cell? w7 _ q0
        have hzk7 : w3.heap.size ≤ w7.heap.size := q2.size
        have hz2 : w4.heap.size < w7.heap.size := World.block_lt_of_cell? w7 _ q4
        refine ⟨(fun W => W.cell? ⟨w1.heap.size, 0, none⟩ = some (.int .i64 (x)) ∧ W.cell? ⟨w1.heap.size, 1, none⟩ = some (.int .i64 (y)) ∧ w.grownBy W (some g)), ⟨hS.2.1, hS.2.2.1, hS.2.2.2.2.2.2.2⟩, (fun W h => h), ?_⟩
        simp only [Act.put, pa, pb, pc]
        repeat (first
          | ((refine seq_skip (by rfl) (by rfl) ?_); simp only [Act.put, pa, pb, pc])
          | ((refine seq_val (v := ?_) (by rfl) (by rfl) (fun w hS => ?_) ?_); rotate_left; (focus ((try dsimp only at hS); go_simp; (try (with_reducible rfl)); done)); simp only [Act.put, pa, pb, pc]))
        refine seq_nil ?_
        go_wp2_with fail
        go_meet
        case rel => exact ⟨w4.heap.size, u, v, rfl, ⟨by omega, ⟨u0, u1⟩, v0, v1⟩, hS.1, gf (hS.2.2.2.1) (HK9.out.2.1).1 (HK9.out.2.1).2 (by omega), gc (hS.2.2.2.1) (HK9.out.2.2.1) (by omega), gc (hS.2.2.2.1) (HK9.out.2.2.2.1) (by omega), gc (hS.2.2.2.1) (HK9.out.2.2.2.2.1) (by omega), gf (hS.2.2.2.1) (HK9.out.2.2.2.2.2.1).1 (HK9.out.2.2.2.2.2.1).2 (by omega), gc (hS.2.2.2.1) (HK9.out.2.2.2.2.2.2.1) (by omega), gc (hS.2.2.2.1) (HK9.out.2.2.2.2.2.2.2.1) (by omega), gc (hS.2.2.2.1) (HK9.out.2.2.2.2.2.2.2.2.1) (by omega), hS.2.1, hS.2.2.1, hS.2.2.2.2.2.1, hS.2.2.2.2.2.2.1, hS.2.2.2.2.2.2.2⟩
      · refine all_split 13 9 (by decide) ?_ ?_
        · refine all_seq_core [0, 1, 2, 6, 7, 8, 3, 4, 5, 13, 9, 10, 11, 12, 14] (fun W => W.cell? ⟨w1.heap.size, 0, none⟩ = some (.int .i64 (x)) ∧ W.cell? ⟨w1.heap.size, 1, none⟩ = some (.int .i64 (y)) ∧ w.grownBy W (some g)) (Core.trans (Core.trans (addE_core 3 13 _) (addE_core 5 13 _)) (addE_core 13 9 _)) (by kernel_rfl) ⟨hS.2.1, hS.2.2.1, hS.2.2.2.2⟩ ?_
          simp only [byNum, List.getElem?_cons_zero, List.getElem?_cons_succ]
          repeat (first
            | ((refine seq_skip (by rfl) (by rfl) ?_); simp only [Act.put, pa, pb, pc])
            | ((refine seq_val (v := ?_) (by rfl) (by rfl) (fun w hS => ?_) ?_); rotate_left; (focus ((try dsimp only at hS); go_simp; (try (with_reducible rfl)); done)); simp only [Act.put, pa, pb, pc]))
          refine seq_call (f := ?_) (args := ?_) (by rfl) (by rfl) ?_ ?_
          rotate_left
          rotate_left
          focus (go_simp; (constructor <;> (with_reducible rfl)); done)
          refine (pick_c 4 (by omega) (g) (k + 8) _ (hide hq0) (by omega)).mono ?_
          rintro e w4 ⟨_, rfl, ⟨p, rfl, p0, p1⟩, hcn, hgn⟩
          have hT := ai (hcn) <| ai (gc hgn q0 (by omega)) <| ai (gc hgn q1 (by omega)) <| ai (grown_trans q2 hgn) <| grown_trans hF hgn
          clear hS hcn hgn
          have hS := hT
          clear hT
          have hS2 := hS
          obtain ⟨hq0, q0, q1, q2, hF⟩ := hS2
          have hgl : g < w4.heap.size := hq0.lt
          have hzw : w.heap.size ≤ w4.heap.size := hF.size
          have hz1 : w1.heap.size < w4.heap.size := World.block_lt_of_cell? w4 _ q0
          have hzk4 : w3.heap.size ≤ w4.heap.size := q2.size
          have hp9 : p ≤ 3 := by omega
          have ewp : IntKind.i64.wrap (x + p) = x + p := IntWalk.i64_in _ (by omega)
          refine ⟨_, rfl, (fun W => W.cell? ⟨w1.heap.size, 0, none⟩ = some (.int .i64 (x)) ∧ W.cell? ⟨w1.heap.size, 1, none⟩ = some (.int .i64 (y)) ∧ w.grownBy W (some g)), ⟨hS.2.1, hS.2.2.1, hS.2.2.2.2⟩, (fun W h => h), ?_⟩
          simp only [Act.put, pa, pb, pc]
          repeat (first
            | ((refine seq_skip (by rfl) (by rfl) ?_); simp only [Act.put, pa, pb, pc])
            | ((refine seq_val (v := ?_) (by rfl) (by rfl) (fun w hS => ?_) ?_); rotate_left; (focus ((try dsimp only at hS); go_simp; (try (with_reducible rfl)); done)); simp only [Act.put, pa, pb, pc]))
          refine seq_call (f := ?_) (args := ?_) (by rfl) (by rfl) ?_ ?_
          rotate_left
          rotate_left
          focus (go_simp; (constructor <;> (with_reducible rfl)); done)
          refine (least_ex (x + p) 9899 (by omega) (by omega) _).mono ?_
          rintro e wz ⟨u, rfl, ⟨u0, u1⟩, rfl⟩
          refine ⟨_, rfl, (fun W => W.cell? ⟨w1.heap.size, 0, none⟩ = some (.int .i64 (x)) ∧ W.cell? ⟨w1.heap.size, 1, none⟩ = some (.int .i64 (y)) ∧ w.grownBy W (some g)), ⟨hS.2.1, hS.2.2.1, hS.2.2.2.2⟩, (fun W h => h), ?_⟩
          simp only [Act.put, pa, pb, pc]
          repeat (first
            | ((refine seq_skip (by rfl) (by rfl) ?_); simp only [Act.put, pa, pb, pc])
            | ((refine seq_val (v := ?_) (by rfl) (by rfl) (fun w hS => ?_) ?_); rotate_left; (focus ((try dsimp only at hS); go_simp; (try (with_reducible rfl)); done)); simp only [Act.put, pa, pb, pc]))
          refine seq_deed (v := ?_) (w' := ?_) (by rfl) (by rfl) ?_ ?_
          rotate_left
          rotate_left
          focus (go_simp; (constructor <;> (with_reducible rfl)); done)
          generalize hgw5 : World.alloc w4 _ = w5
          have hb : Below w4.heap.size w4 w5 := by rw [← hgw5]; go_grown
          obtain ⟨n9, n0, n1⟩ := al2 hgw5
          have hT := ai (hq0.below hb) <| ai (kc hb q0) <| ai (kc hb q1) <| ai (gb_below q2 hb) <| ai (n9) <| ai (n0) <| ai (n1) <| gb_below (hS.2.2.2.2) hb
          clear n9 n0 n1
          clear hS hb hgw5
          have hS := hT
          clear hT
          have hS2 := hS
          obtain ⟨hq0, q0, q1, q2, ⟨f3, fr3⟩, q4, q5, hF⟩ := hS2
          have hgl : g < w5.heap.size := hq0.lt
          have hzw : w.heap.size ≤ w5.heap.size := hF.size
          have hz1 : w1.heap.size < w5.heap.size := World.block_lt_of_cell? w5 _ q0
          have hzk5 : w3.heap.size ≤ w5.heap.size := q2.size
          have hz2 : w4.heap.size < w5.heap.size := World.block_lt_of_cell? w5 _ q4
          refine ⟨(fun W => W.cell? ⟨w1.heap.size, 0, none⟩ = some (.int .i64 (x)) ∧ W.cell? ⟨w1.heap.size, 1, none⟩ = some (.int .i64 (y)) ∧ w.grownBy W (some g)), ⟨hS.2.1, hS.2.2.1, hS.2.2.2.2.2.2.2⟩, (fun W h => h), ?_⟩
          simp only [Act.put, pa, pb, pc]
          repeat (first
            | ((refine seq_skip (by rfl) (by rfl) ?_); simp only [Act.put, pa, pb, pc])
            | ((refine seq_val (v := ?_) (by rfl) (by rfl) (fun w hS => ?_) ?_); rotate_left; (focus ((try dsimp only at hS); go_simp; (try (with_reducible rfl)); done)); simp only [Act.put, pa, pb, pc]))
          refine seq_call (f := ?_) (args := ?_) (by rfl) (by rfl) ?_ ?_
          rotate_left
          rotate_left
          focus (go_simp; (constructor <;> (with_reducible rfl)); done)
          refine (pick_c 4 (by omega) (g) (k + 10) _ (hide hq0) (by omega)).mono ?_
          rintro e w6 ⟨_, rfl, ⟨q, rfl, qa, qb⟩, hcn, hgn⟩
          have hT := ai (hcn) <| ai (gc hgn q0 (by omega)) <| ai (gc hgn q1 (by omega)) <| ai (grown_trans q2 hgn) <| ai (gf hgn f3 fr3 (by omega)) <| ai (gc hgn q4 (by omega)) <| ai (gc hgn q5 (by omega)) <| grown_trans hF hgn
          clear hS hcn hgn
          have hS := hT
          clear hT
          have hS2 := hS
          obtain ⟨hq0, q0, q1, q2, ⟨f3, fr3⟩, q4, q5, hF⟩ := hS2
          have hgl : g < w6.heap.size := hq0.lt
          have hzw : w.heap.size ≤ w6.heap.size := hF.size
          have hz1 : w1.heap.size < w6.heap.size := World.block_lt_of_cell? w6 _ q0
          have hzk6 : w3.heap.size ≤ w6.heap.size := q2.size
          have hz2 : w4.heap.size < w6.heap.size := World.block_lt_of_cell? w6 _ q4
          have hq9 : q ≤ 3 := by omega
          have ewq : IntKind.i64.wrap (y - q) = y - q := IntWalk.i64_in _ (by omega)
          refine ⟨_, rfl, (fun W => W.cell? ⟨w1.heap.size, 0, none⟩ = some (.int .i64 (x)) ∧ W.cell? ⟨w1.heap.size, 1, none⟩ = some (.int .i64 (y)) ∧ w.grownBy W (some g)), ⟨hS.2.1, hS.2.2.1, hS.2.2.2.2.2.2.2⟩, (fun W h => h), ?_⟩
          simp only [Act.put, pa, pb, pc]
          repeat (first
            | ((refine seq_skip (by rfl) (by rfl) ?_); simp only [Act.put, pa, pb, pc])
            | ((refine seq_val (v := ?_) (by rfl) (by rfl) (fun w hS => ?_) ?_); rotate_left; (focus ((try dsimp only at hS); go_simp; (try (with_reducible rfl)); done)); simp only [Act.put, pa, pb, pc]))
          refine seq_call (f := ?_) (args := ?_) (by rfl) (by rfl) ?_ ?_
          rotate_left
          rotate_left
          focus (go_simp; (constructor <;> (with_reducible rfl)); done)
          refine (most_ex (y - q) 0 (by omega) (by omega) (by omega) _).mono ?_
          rintro e wz ⟨v, rfl, ⟨v0, v1⟩, rfl⟩
          refine ⟨_, rfl, (fun W => W.cell? ⟨w1.heap.size, 0, none⟩ = some (.int .i64 (x)) ∧ W.cell? ⟨w1.heap.size, 1, none⟩ = some (.int .i64 (y)) ∧ w.grownBy W (some g)), ⟨hS.2.1, hS.2.2.1, hS.2.2.2.2.2.2.2⟩, (fun W h => h), ?_⟩
          simp only [Act.put, pa, pb, pc]
          repeat (first
            | ((refine seq_skip (by rfl) (by rfl) ?_); simp only [Act.put, pa, pb, pc])
            | ((refine seq_val (v := ?_) (by rfl) (by rfl) (fun w hS => ?_) ?_); rotate_left; (focus ((try dsimp only at hS); go_simp; (try (with_reducible rfl)); done)); simp only [Act.put, pa, pb, pc]))
          obtain ⟨w7, hw7⟩ : ∃ W, W = (w6.setCell ⟨w4.heap.size, 0, none⟩ (.int .i64 (u))).setCell ⟨w4.heap.size, 1, none⟩ (.int .i64 (v)) := ⟨_, rfl⟩
          obtain ⟨dd0, dd1, dd2, dd3⟩ := box2_sets q4 q5 (.int .i64 (u)) (.int .i64 (v))
          refine seq_store (w' := w7) (by rfl) (by rfl) (by rw [hw7]; go_simp; (try (with_reducible rfl)); done) ?_
          obtain ⟨dw0, dw1⟩ := s2w hw7 q4 q5
          have hT := ai (s2c hw7 (by omega) hq0) <| ai (s2o hw7 (by omega) q0) <| ai (s2o hw7 (by omega) q1) <| ai (s2g hw7 (by omega) q2) <| ai (s2f hw7 f3 fr3) <| ai (dw0) <| ai (dw1) <| s2g hw7 (by omega) hF
          clear dw0 dw1
          (try clear hS)
          have hS := hT
          clear hT dd0 dd1 dd2 dd3 hw7
          have hS2 := hS
          obtain ⟨hq0, q0, q1, q2, ⟨f3, fr3⟩, q4, q5, hF⟩ := hS2
          have hgl : g < w7.heap.size := hq0.lt
          have hzw : w.heap.size ≤ w7.heap.size := hF.size
          have hz1 : w1.heap.size < w7.heap.size := World.block_lt_of_cell? w7 _ q0
          have hzk7 : w3.heap.size ≤ w7.heap.size := q2.size
          have hz2 : w4.heap.size < w7.heap.size := World.block_lt_of_cell? w7 _ q4
          refine ⟨(fun W => W.cell? ⟨w1.heap.size, 0, none⟩ = some (.int .i64 (x)) ∧ W.cell? ⟨w1.heap.size, 1, none⟩ = some (.int .i64 (y)) ∧ w.grownBy W (some g)), ⟨hS.2.1, hS.2.2.1, hS.2.2.2.2.2.2.2⟩, (fun W h => h), ?_⟩
          simp only [Act.put, pa, pb, pc]
          repeat (first
            | ((refine seq_skip (by rfl) (by rfl) ?_); simp only [Act.put, pa, pb, pc])
            | ((refine seq_val (v := ?_) (by rfl) (by rfl) (fun w hS => ?_) ?_); rotate_left; (focus ((try dsimp only at hS); go_simp; (try (with_reducible rfl)); done)); simp only [Act.put, pa, pb, pc]))
          refine seq_nil ?_
          go_wp2_with fail
          go_meet
          case rel => exact ⟨w4.heap.size, u, v, rfl, ⟨by omega, ⟨u0, u1⟩, v0, v1⟩, hS.1, gf (hS.2.2.2.1) (HK9.out.2.1).1 (HK9.out.2.1).2 (by omega), gc (hS.2.2.2.1) (HK9.out.2.2.1) (by omega), gc (hS.2.2.2.1) (HK9.out.2.2.2.1) (by omega), gc (hS.2.2.2.1) (HK9.out.2.2.2.2.1) (by omega), gf (hS.2.2.2.1) (HK9.out.2.2.2.2.2.1).1 (HK9.out.2.2.2.2.2.1).2 (by omega), gc (hS.2.2.2.1) (HK9.out.2.2.2.2.2.2.1) (by omega), gc (hS.2.2.2.1) (HK9.out.2.2.2.2.2.2.2.1) (by omega), gc (hS.2.2.2.1) (HK9.out.2.2.2.2.2.2.2.2.1) (by omega), hS.2.1, hS.2.2.1, hS.2.2.2.2.2.1, hS.2.2.2.2.2.2.1, hS.2.2.2.2.2.2.2⟩
        · refine all_split 13 11 (by decide) ?_ ?_
          · refine all_seq_core [0, 1, 2, 6, 7, 8, 3, 4, 5, 9, 10, 13, 11, 12, 14] (fun W => W.cell? ⟨w1.heap.size, 0, none⟩ = some (.int .i64 (x)) ∧ W.cell? ⟨w1.heap.size, 1, none⟩ = some (.int .i64 (y)) ∧ w.grownBy W (some g)) (Core.trans (Core.trans (Core.trans (addE_core 3 13 _) (addE_core 5 13 _)) (addE_core 9 13 _)) (addE_core 13 11 _)) (by kernel_rfl) ⟨hS.2.1, hS.2.2.1, hS.2.2.2.2⟩ ?_
            simp only [byNum, List.getElem?_cons_zero, List.getElem?_cons_succ]
            repeat (first
              | ((refine seq_skip (by rfl) (by rfl) ?_); simp only [Act.put, pa, pb, pc])
              | ((refine seq_val (v := ?_) (by rfl) (by rfl) (fun w hS => ?_) ?_); rotate_left; (focus ((try dsimp only at hS); go_simp; (try (with_reducible rfl)); done)); simp only [Act.put, pa, pb, pc]))
            refine seq_call (f := ?_) (args := ?_) (by rfl) (by rfl) ?_ ?_
            rotate_left
            rotate_left
            focus (go_simp; (constructor <;> (with_reducible rfl)); done)
            refine (pick_c 4 (by omega) (g) (k + 8) _ (hide hq0) (by omega)).mono ?_
            rintro e w4 ⟨_, rfl, ⟨p, rfl, p0, p1⟩, hcn, hgn⟩
            have hT := ai (hcn) <| ai (gc hgn q0 (by omega)) <| ai (gc hgn q1 (by omega)) <| ai (grown_trans q2 hgn) <| grown_trans hF hgn
            clear hS hcn hgn
            have hS := hT
            clear hT
            have hS2 := hS
            obtain ⟨hq0, q0, q1, q2, hF⟩ := hS2
            have hgl : g < w4.heap.size := hq0.lt
            have hzw : w.heap.size ≤ w4.heap.size := hF.size
            have hz1 : w1.heap.size < w4.heap.size := World.block_lt_of_cell? w4 _ q0
            have hzk4 : w3.heap.size ≤ w4.heap.size := q2.size
            have hp9 : p ≤ 3 := by omega
            have ewp : IntKind.i64.wrap (x + p) = x + p := IntWalk.i64_in _ (by omega)
            refine ⟨_, rfl, (fun W => W.cell? ⟨w1.heap.size, 0, none⟩ = some (.int .i64 (x)) ∧ W.cell? ⟨w1.heap.size, 1, none⟩ = some (.int .i64 (y)) ∧ w.grownBy W (some g)), ⟨hS.2.1, hS.2.2.1, hS.2.2.2.2⟩, (fun W h => h), ?_⟩
            simp only [Act.put, pa, pb, pc]
            repeat (first
              | ((refine seq_skip (by rfl) (by rfl) ?_); simp only [Act.put, pa, pb, pc])
              | ((refine seq_val (v := ?_) (by rfl) (by rfl) (fun w hS => ?_) ?_); rotate_left; (focus ((try dsimp only at hS); go_simp; (try (with_reducible rfl)); done)); simp only [Act.put, pa, pb, pc]))
            refine seq_call (f := ?_) (args := ?_) (by rfl) (by rfl) ?_ ?_
            rotate_left
            rotate_left
            focus (go_simp; (constructor <;> (with_reducible rfl)); done)
            refine (least_ex (x + p) 9899 (by omega) (by omega) _).mono ?_
            rintro e wz ⟨u, rfl, ⟨u0, u1⟩, rfl⟩
            refine ⟨_, rfl, (fun W => W.cell? ⟨w1.heap.size, 0, none⟩ = some (.int .i64 (x)) ∧ W.cell? ⟨w1.heap.size, 1, none⟩ = some (.int .i64 (y)) ∧ w.grownBy W (some g)), ⟨hS.2.1, hS.2.2.1, hS.2.2.2.2⟩, (fun W h => h), ?_⟩
            simp only [Act.put, pa, pb, pc]
            repeat (first
              | ((refine seq_skip (by rfl) (by rfl) ?_); simp only [Act.put, pa, pb, pc])
              | ((refine seq_val (v := ?_) (by rfl) (by rfl) (fun w hS => ?_) ?_); rotate_left; (focus ((try dsimp only at hS); go_simp; (try (with_reducible rfl)); done)); simp only [Act.put, pa, pb, pc]))
            refine seq_call (f := ?_) (args := ?_) (by rfl) (by rfl) ?_ ?_
            rotate_left
            rotate_left
            focus (go_simp; (constructor <;> (with_reducible rfl)); done)
            refine (pick_c 4 (by omega) (g) (k + 10) _ (hide hq0) (by omega)).mono ?_
            rintro e w5 ⟨_, rfl, ⟨q, rfl, qa, qb⟩, hcn, hgn⟩
            have hT := ai (hcn) <| ai (gc hgn q0 (by omega)) <| ai (gc hgn q1 (by omega)) <| ai (grown_trans q2 hgn) <| grown_trans hF hgn
            clear hS hcn hgn
            have hS := hT
            clear hT
            have hS2 := hS
            obtain ⟨hq0, q0, q1, q2, hF⟩ := hS2
            have hgl : g < w5.heap.size := hq0.lt
            have hzw : w.heap.size ≤ w5.heap.size := hF.size
            have hz1 : w1.heap.size < w5.heap.size := World.block_lt_of_cell? w5 _ q0
            have hzk5 : w3.heap.size ≤ w5.heap.size := q2.size
            have hq9 : q ≤ 3 := by omega
            have ewq : IntKind.i64.wrap (y - q) = y - q := IntWalk.i64_in _ (by omega)
            refine ⟨_, rfl, (fun W => W.cell? ⟨w1.heap.size, 0, none⟩ = some (.int .i64 (x)) ∧ W.cell? ⟨w1.heap.size, 1, none⟩ = some (.int .i64 (y)) ∧ w.grownBy W (some g)), ⟨hS.2.1, hS.2.2.1, hS.2.2.2.2⟩, (fun W h => h), ?_⟩
            simp only [Act.put, pa, pb, pc]
            repeat (first
              | ((refine seq_skip (by rfl) (by rfl) ?_); simp only [Act.put, pa, pb, pc])
              | ((refine seq_val (v := ?_) (by rfl) (by rfl) (fun w hS => ?_) ?_); rotate_left; (focus ((try dsimp only at hS); go_simp; (try (with_reducible rfl)); done)); simp only [Act.put, pa, pb, pc]))
            refine seq_deed (v := ?_) (w' := ?_) (by rfl) (by rfl) ?_ ?_
            rotate_left
            rotate_left
            focus (go_simp; (constructor <;> (with_reducible rfl)); done)
            generalize hgw6 : World.alloc w5 _ = w6
            have hb : Below w5.heap.size w5 w6 := by rw [← hgw6]; go_grown
            obtain ⟨n9, n0, n1⟩ := al2 hgw6
            have hT := ai (hq0.below hb) <| ai (kc hb q0) <| ai (kc hb q1) <| ai (gb_below q2 hb) <| ai (n9) <| ai (n0) <| ai (n1) <| gb_below (hS.2.2.2.2) hb
            clear n9 n0 n1
            clear hS hb hgw6
            have hS := hT
            clear hT
            have hS2 := hS
            obtain ⟨hq0, q0, q1, q2, ⟨f3, fr3⟩, q4, q5, hF⟩ := hS2
            have hgl : g < w6.heap.size := hq0.lt
            have hzw : w.heap.size ≤ w6.heap.size := hF.size
            have hz1 : w1.heap.size < w6.heap.size := World.block_lt_of_cell? w6 _ q0
            have hzk6 : w3.heap.size ≤ w6.heap.size := q2.size
            have hz2 : w5.heap.size < w6.heap.size := World.block_lt_of_cell? w6 _ q4
            refine ⟨(fun W => W.cell? ⟨w1.heap.size, 0, none⟩ = some (.int .i64 (x)) ∧ W.cell? ⟨w1.heap.size, 1, none⟩ = some (.int .i64 (y)) ∧ w.grownBy W (some g)), ⟨hS.2.1, hS.2.2.1, hS.2.2.2.2.2.2.2⟩, (fun W h => h), ?_⟩
            simp only [Act.put, pa, pb, pc]
            repeat (first
              | ((refine seq_skip (by rfl) (by rfl) ?_); simp only [Act.put, pa, pb, pc])
              | ((refine seq_val (v := ?_) (by rfl) (by rfl) (fun w hS => ?_) ?_); rotate_left; (focus ((try dsimp only at hS); go_simp; (try (with_reducible rfl)); done)); simp only [Act.put, pa, pb, pc]))
            refine seq_call (f := ?_) (args := ?_) (by rfl) (by rfl) ?_ ?_
            rotate_left
            rotate_left
            focus (go_simp; (constructor <;> (with_reducible rfl)); done)
            refine (most_ex (y - q) 0 (by omega) (by omega) (by omega) _).mono ?_
            rintro e wz ⟨v, rfl, ⟨v0, v1⟩, rfl⟩
            refine ⟨_, rfl, (fun W => W.cell? ⟨w1.heap.size, 0, none⟩ = some (.int .i64 (x)) ∧ W.cell? ⟨w1.heap.size, 1, none⟩ = some (.int .i64 (y)) ∧ w.grownBy W (some g)), ⟨hS.2.1, hS.2.2.1, hS.2.2.2.2.2.2.2⟩, (fun W h => h), ?_⟩
            simp only [Act.put, pa, pb, pc]
            repeat (first
              | ((refine seq_skip (by rfl) (by rfl) ?_); simp only [Act.put, pa, pb, pc])
              | ((refine seq_val (v := ?_) (by rfl) (by rfl) (fun w hS => ?_) ?_); rotate_left; (focus ((try dsimp only at hS); go_simp; (try (with_reducible rfl)); done)); simp only [Act.put, pa, pb, pc]))
            obtain ⟨w7, hw7⟩ : ∃ W, W = (w6.setCell ⟨w5.heap.size, 0, none⟩ (.int .i64 (u))).setCell ⟨w5.heap.size, 1, none⟩ (.int .i64 (v)) := ⟨_, rfl⟩
            obtain ⟨dd0, dd1, dd2, dd3⟩ := box2_sets q4 q5 (.int .i64 (u)) (.int .i64 (v))
            refine seq_store (w' := w7) (by rfl) (by rfl) (by rw [hw7]; go_simp; (try (with_reducible rfl)); done) ?_
            obtain ⟨dw0, dw1⟩ := s2w hw7 q4 q5
            have hT := ai (s2c hw7 (by omega) hq0) <| ai (s2o hw7 (by omega) q0) <| ai (s2o hw7 (by omega) q1) <| ai (s2g hw7 (by omega) q2) <| ai (s2f hw7 f3 fr3) <| ai (dw0) <| ai (dw1) <| s2g hw7 (by omega) hF
            clear dw0 dw1
            (try clear hS)
            have hS := hT
            clear hT dd0 dd1 dd2 dd3 hw7
            have hS2 := hS
            obtain ⟨hq0, q0, q1, q2, ⟨f3, fr3⟩, q4, q5, hF⟩ := hS2
            have hgl : g < w7.heap.size := hq0.lt
            have hzw : w.heap.size ≤ w7.heap.size := hF.size
            have hz1 : w1.heap.size < w7.heap.size := World.block_lt_of_cell? w7 _ q0
            have hzk7 : w3.heap.size ≤ w7.heap.size := q2.size
            have hz2 : w5.heap.size < w7.heap.size := World.block_lt_of_cell? w7 _ q4
            refine ⟨(fun W => W.cell? ⟨w1.heap.size, 0, none⟩ = some (.int .i64 (x)) ∧ W.cell? ⟨w1.heap.size, 1, none⟩ = some (.int .i64 (y)) ∧ w.grownBy W (some g)), ⟨hS.2.1, hS.2.2.1, hS.2.2.2.2.2.2.2⟩, (fun W h => h), ?_⟩
            simp only [Act.put, pa, pb, pc]
            repeat (first
              | ((refine seq_skip (by rfl) (by rfl) ?_); simp only [Act.put, pa, pb, pc])
              | ((refine seq_val (v := ?_) (by rfl) (by rfl) (fun w hS => ?_) ?_); rotate_left; (focus ((try dsimp only at hS); go_simp; (try (with_reducible rfl)); done)); simp only [Act.put, pa, pb, pc]))
            refine seq_nil ?_
            go_wp2_with fail
            go_meet
            case rel => exact ⟨w5.heap.size, u, v, rfl, ⟨by omega, ⟨u0, u1⟩, v0, v1⟩, hS.1, gf (hS.2.2.2.1) (HK9.out.2.1).1 (HK9.out.2.1).2 (by omega), gc (hS.2.2.2.1) (HK9.out.2.2.1) (by omega), gc (hS.2.2.2.1) (HK9.out.2.2.2.1) (by omega), gc (hS.2.2.2.1) (HK9.out.2.2.2.2.1) (by omega), gf (hS.2.2.2.1) (HK9.out.2.2.2.2.2.1).1 (HK9.out.2.2.2.2.2.1).2 (by omega), gc (hS.2.2.2.1) (HK9.out.2.2.2.2.2.2.1) (by omega), gc (hS.2.2.2.1) (HK9.out.2.2.2.2.2.2.2.1) (by omega), gc (hS.2.2.2.1) (HK9.out.2.2.2.2.2.2.2.2.1) (by omega), hS.2.1, hS.2.2.1, hS.2.2.2.2.2.1, hS.2.2.2.2.2.2.1, hS.2.2.2.2.2.2.2⟩
          · refine all_seq_core [0, 1, 2, 6, 7, 8, 3, 4, 5, 9, 10, 11, 12, 13, 14] (fun W => W.cell? ⟨w1.heap.size, 0, none⟩ = some (.int .i64 (x)) ∧ W.cell? ⟨w1.heap.size, 1, none⟩ = some (.int .i64 (y)) ∧ w.grownBy W (some g)) (Core.trans (Core.trans (Core.trans (addE_core 3 13 _) (addE_core 5 13 _)) (addE_core 9 13 _)) (addE_core 11 13 _)) (by kernel_rfl) ⟨hS.2.1, hS.2.2.1, hS.2.2.2.2⟩ ?_
            simp only [byNum, List.getElem?_cons_zero, List.getElem?_cons_succ]
            repeat (first
              | ((refine seq_skip (by rfl) (by rfl) ?_); simp only [Act.put, pa, pb, pc])
              | ((refine seq_val (v := ?_) (by rfl) (by rfl) (fun w hS => ?_) ?_); rotate_left; (focus ((try dsimp only at hS); go_simp; (try (with_reducible rfl)); done)); simp only [Act.put, pa, pb, pc]))
            refine seq_call (f := ?_) (args := ?_) (by rfl) (by rfl) ?_ ?_
            rotate_left
            rotate_left
            focus (go_simp; (constructor <;> (with_reducible rfl)); done)
            refine (pick_c 4 (by omega) (g) (k + 8) _ (hide hq0) (by omega)).mono ?_
            rintro e w4 ⟨_, rfl, ⟨p, rfl, p0, p1⟩, hcn, hgn⟩
            have hT := ai (hcn) <| ai (gc hgn q0 (by omega)) <| ai (gc hgn q1 (by omega)) <| ai (grown_trans q2 hgn) <| grown_trans hF hgn
            clear hS hcn hgn
            have hS := hT
            clear hT
            have hS2 := hS
            obtain ⟨hq0, q0, q1, q2, hF⟩ := hS2
            have hgl : g < w4.heap.size := hq0.lt
            have hzw : w.heap.size ≤ w4.heap.size := hF.size
            have hz1 : w1.heap.size < w4.heap.size := World.block_lt_of_cell? w4 _ q0
            have hzk4 : w3.heap.size ≤ w4.heap.size := q2.size
            have hp9 : p ≤ 3 := by omega
            have ewp : IntKind.i64.wrap (x + p) = x + p := IntWalk.i64_in _ (by omega)
            refine ⟨_, rfl, (fun W => W.cell? ⟨w1.heap.size, 0, none⟩ = some (.int .i64 (x)) ∧ W.cell? ⟨w1.heap.size, 1, none⟩ = some (.int .i64 (y)) ∧ w.grownBy W (some g)), ⟨hS.2.1, hS.2.2.1, hS.2.2.2.2⟩, (fun W h => h), ?_⟩
            simp only [Act.put, pa, pb, pc]
            repeat (first
              | ((refine seq_skip (by rfl) (by rfl) ?_); simp only [Act.put, pa, pb, pc])
              | ((refine seq_val (v := ?_) (by rfl) (by rfl) (fun w hS => ?_) ?_); rotate_left; (focus ((try dsimp only at hS); go_simp; (try (with_reducible rfl)); done)); simp only [Act.put, pa, pb, pc]))
            refine seq_call (f := ?_) (args := ?_) (by rfl) (by rfl) ?_ ?_
            rotate_left
            rotate_left
            focus (go_simp; (constructor <;> (with_reducible rfl)); done)
            refine (least_ex (x + p) 9899 (by omega) (by omega) _).mono ?_
            rintro e wz ⟨u, rfl, ⟨u0, u1⟩, rfl⟩
            refine ⟨_, rfl, (fun W => W.cell? ⟨w1.heap.size, 0, none⟩ = some (.int .i64 (x)) ∧ W.cell? ⟨w1.heap.size, 1, none⟩ = some (.int .i64 (y)) ∧ w.grownBy W (some g)), ⟨hS.2.1, hS.2.2.1, hS.2.2.2.2⟩, (fun W h => h), ?_⟩
            simp only [Act.put, pa, pb, pc]
            repeat (first
              | ((refine seq_skip (by rfl) (by rfl) ?_); simp only [Act.put, pa, pb, pc])
              | ((refine seq_val (v := ?_) (by rfl) (by rfl) (fun w hS => ?_) ?_); rotate_left; (focus ((try dsimp only at hS); go_simp; (try (with_reducible rfl)); done)); simp only [Act.put, pa, pb, pc]))
            refine seq_call (f := ?_) (args := ?_) (by rfl) (by rfl) ?_ ?_
            rotate_left
            rotate_left
            focus (go_simp; (constructor <;> (with_reducible rfl)); done)
            refine (pick_c 4 (by omega) (g) (k + 10) _ (hide hq0) (by omega)).mono ?_
            rintro e w5 ⟨_, rfl, ⟨q, rfl, qa, qb⟩, hcn, hgn⟩
            have hT := ai (hcn) <| ai (gc hgn q0 (by omega)) <| ai (gc hgn q1 (by omega)) <| ai (grown_trans q2 hgn) <| grown_trans hF hgn
            clear hS hcn hgn
            have hS := hT
            clear hT
            have hS2 := hS
            obtain ⟨hq0, q0, q1, q2, hF⟩ := hS2
            have hgl : g < w5.heap.size := hq0.lt
            have hzw : w.heap.size ≤ w5.heap.size := hF.size
            have hz1 : w1.heap.size < w5.heap.size := World.block_lt_of_cell? w5 _ q0
            have hzk5 : w3.heap.size ≤ w5.heap.size := q2.size
            have hq9 : q ≤ 3 := by omega
            have ewq : IntKind.i64.wrap (y - q) = y - q := IntWalk.i64_in _ (by omega)
            refine ⟨_, rfl, (fun W => W.cell? ⟨w1.heap.size, 0, none⟩ = some (.int .i64 (x)) ∧ W.cell? ⟨w1.heap.size, 1, none⟩ = some (.int .i64 (y)) ∧ w.grownBy W (some g)), ⟨hS.2.1, hS.2.2.1, hS.2.2.2.2⟩, (fun W h => h), ?_⟩
            simp only [Act.put, pa, pb, pc]
            repeat (first
              | ((refine seq_skip (by rfl) (by rfl) ?_); simp only [Act.put, pa, pb, pc])
              | ((refine seq_val (v := ?_) (by rfl) (by rfl) (fun w hS => ?_) ?_); rotate_left; (focus ((try dsimp only at hS); go_simp; (try (with_reducible rfl)); done)); simp only [Act.put, pa, pb, pc]))
            refine seq_call (f := ?_) (args := ?_) (by rfl) (by rfl) ?_ ?_
            rotate_left
            rotate_left
            focus (go_simp; (constructor <;> (with_reducible rfl)); done)
            refine (most_ex (y - q) 0 (by omega) (by omega) (by omega) _).mono ?_
            rintro e wz ⟨v, rfl, ⟨v0, v1⟩, rfl⟩
            refine ⟨_, rfl, (fun W => W.cell? ⟨w1.heap.size, 0, none⟩ = some (.int .i64 (x)) ∧ W.cell? ⟨w1.heap.size, 1, none⟩ = some (.int .i64 (y)) ∧ w.grownBy W (some g)), ⟨hS.2.1, hS.2.2.1, hS.2.2.2.2⟩, (fun W h => h), ?_⟩
            simp only [Act.put, pa, pb, pc]
            repeat (first
              | ((refine seq_skip (by rfl) (by rfl) ?_); simp only [Act.put, pa, pb, pc])
              | ((refine seq_val (v := ?_) (by rfl) (by rfl) (fun w hS => ?_) ?_); rotate_left; (focus ((try dsimp only at hS); go_simp; (try (with_reducible rfl)); done)); simp only [Act.put, pa, pb, pc]))
            refine seq_deed (v := ?_) (w' := ?_) (by rfl) (by rfl) ?_ ?_
            rotate_left
            rotate_left
            focus (go_simp; (constructor <;> (with_reducible rfl)); done)
            generalize hgw6 : World.alloc w5 _ = w6
            have hb : Below w5.heap.size w5 w6 := by rw [← hgw6]; go_grown
            obtain ⟨n9, n0, n1⟩ := al2 hgw6
            have hT := ai (hq0.below hb) <| ai (kc hb q0) <| ai (kc hb q1) <| ai (gb_below q2 hb) <| ai (n9) <| ai (n0) <| ai (n1) <| gb_below (hS.2.2.2.2) hb
            clear n9 n0 n1
            clear hS hb hgw6
            have hS := hT
            clear hT
            have hS2 := hS
            obtain ⟨hq0, q0, q1, q2, ⟨f3, fr3⟩, q4, q5, hF⟩ := hS2
            have hgl : g < w6.heap.size := hq0.lt
            have hzw : w.heap.size ≤ w6.heap.size := hF.size
            have hz1 : w1.heap.size < w6.heap.size := World.block_lt_of_cell? w6 _ q0
            have hzk6 : w3.heap.size ≤ w6.heap.size := q2.size
            have hz2 : w5.heap.size < w6.heap.size := World.block_lt_of_cell? w6 _ q4
            refine ⟨(fun W => W.cell? ⟨w1.heap.size, 0, none⟩ = some (.int .i64 (x)) ∧ W.cell? ⟨w1.heap.size, 1, none⟩ = some (.int .i64 (y)) ∧ w.grownBy W (some g)), ⟨hS.2.1, hS.2.2.1, hS.2.2.2.2.2.2.2⟩, (fun W h => h), ?_⟩
            simp only [Act.put, pa, pb, pc]
            repeat (first
              | ((refine seq_skip (by rfl) (by rfl) ?_); simp only [Act.put, pa, pb, pc])
              | ((refine seq_val (v := ?_) (by rfl) (by rfl) (fun w hS => ?_) ?_); rotate_left; (focus ((try dsimp only at hS); go_simp; (try (with_reducible rfl)); done)); simp only [Act.put, pa, pb, pc]))
            obtain ⟨w7, hw7⟩ : ∃ W, W = (w6.setCell ⟨w5.heap.size, 0, none⟩ (.int .i64 (u))).setCell ⟨w5.heap.size, 1, none⟩ (.int .i64 (v)) := ⟨_, rfl⟩
            obtain ⟨dd0, dd1, dd2, dd3⟩ := box2_sets q4 q5 (.int .i64 (u)) (.int .i64 (v))
            refine seq_store (w' := w7) (by rfl) (by rfl) (by rw [hw7]; go_simp; (try (with_reducible rfl)); done) ?_
            obtain ⟨dw0, dw1⟩ := s2w hw7 q4 q5
            have hT := ai (s2c hw7 (by omega) hq0) <| ai (s2o hw7 (by omega) q0) <| ai (s2o hw7 (by omega) q1) <| ai (s2g hw7 (by omega) q2) <| ai (s2f hw7 f3 fr3) <| ai (dw0) <| ai (dw1) <| s2g hw7 (by omega) hF
            clear dw0 dw1
            (try clear hS)
            have hS := hT
            clear hT dd0 dd1 dd2 dd3 hw7
            have hS2 := hS
            obtain ⟨hq0, q0, q1, q2, ⟨f3, fr3⟩, q4, q5, hF⟩ := hS2
            have hgl : g < w7.heap.size := hq0.lt
            have hzw : w.heap.size ≤ w7.heap.size := hF.size
            have hz1 : w1.heap.size < w7.heap.size := World.block_lt_of_cell? w7 _ q0
            have hzk7 : w3.heap.size ≤ w7.heap.size := q2.size
            have hz2 : w5.heap.size < w7.heap.size := World.block_lt_of_cell? w7 _ q4
            refine ⟨(fun W => W.cell? ⟨w1.heap.size, 0, none⟩ = some (.int .i64 (x)) ∧ W.cell? ⟨w1.heap.size, 1, none⟩ = some (.int .i64 (y)) ∧ w.grownBy W (some g)), ⟨hS.2.1, hS.2.2.1, hS.2.2.2.2.2.2.2⟩, (fun W h => h), ?_⟩
            simp only [Act.put, pa, pb, pc]
            repeat (first
              | ((refine seq_skip (by rfl) (by rfl) ?_); simp only [Act.put, pa, pb, pc])
              | ((refine seq_val (v := ?_) (by rfl) (by rfl) (fun w hS => ?_) ?_); rotate_left; (focus ((try dsimp only at hS); go_simp; (try (with_reducible rfl)); done)); simp only [Act.put, pa, pb, pc]))
            refine seq_nil ?_
            go_wp2_with fail
            go_meet
            case rel => exact ⟨w5.heap.size, u, v, rfl, ⟨by omega, ⟨u0, u1⟩, v0, v1⟩, hS.1, gf (hS.2.2.2.1) (HK9.out.2.1).1 (HK9.out.2.1).2 (by omega), gc (hS.2.2.2.1) (HK9.out.2.2.1) (by omega), gc (hS.2.2.2.1) (HK9.out.2.2.2.1) (by omega), gc (hS.2.2.2.1) (HK9.out.2.2.2.2.1) (by omega), gf (hS.2.2.2.1) (HK9.out.2.2.2.2.2.1).1 (HK9.out.2.2.2.2.2.1).2 (by omega), gc (hS.2.2.2.1) (HK9.out.2.2.2.2.2.2.1) (by omega), gc (hS.2.2.2.1) (HK9.out.2.2.2.2.2.2.2.1) (by omega), gc (hS.2.2.2.1) (HK9.out.2.2.2.2.2.2.2.2.1) (by omega), hS.2.1, hS.2.2.1, hS.2.2.2.2.2.1, hS.2.2.2.2.2.2.1, hS.2.2.2.2.2.2.2⟩
  obtain ⟨T, u, v, rfl, ⟨hTT, ⟨u0, u1⟩, v0, v1⟩, hS3⟩ := hcut
  (try clear hS)
  have hS := hS3
  clear hS3
  have hS2 := hS
  obtain ⟨hq0, ⟨f0, fr0⟩, q1, q2, q3, ⟨f4, fr4⟩, q5, q6, q7, q8, q9, q10, q11, hF⟩ := hS2
  have hgl : g < wc.heap.size := hq0.lt
  have hzw : w.heap.size ≤ wc.heap.size := hF.size
  have hz1 : w.heap.size < wc.heap.size := World.block_lt_of_cell? wc _ q1
  have hz2 : w.heap.size + 1 < wc.heap.size := World.block_lt_of_cell? wc _ q5
  have hz3 : w1.heap.size < wc.heap.size := World.block_lt_of_cell? wc _ q8
  have hz4 : T < wc.heap.size := World.block_lt_of_cell? wc _ q10
  go_wp2_with fail
  refine (one_c (2) (by omega) (g) (k + 12) _ (hide hq0) (by omega)).mono ?_
  rintro e w31 ⟨_, rfl, ⟨o, rfl⟩, hcn, hgn⟩
  have hT := ai (hcn) <| ai (gf hgn f0 fr0 (by omega)) <| ai (gc hgn q1 (by omega)) <| ai (gc hgn q2 (by omega)) <| ai (gc hgn q3 (by omega)) <| ai (gf hgn f4 fr4 (by omega)) <| ai (gc hgn q5 (by omega)) <| ai (gc hgn q6 (by omega)) <| ai (gc hgn q7 (by omega)) <| ai (gc hgn q8 (by omega)) <| ai (gc hgn q9 (by omega)) <| ai (gc hgn q10 (by omega)) <| ai (gc hgn q11 (by omega)) <| grown_trans hF hgn
  clear hS hcn hgn
  have hS := hT
  clear hT
  have hS2 := hS
  obtain ⟨hq0, ⟨f0, fr0⟩, q1, q2, q3, ⟨f4, fr4⟩, q5, q6, q7, q8, q9, q10, q11, hF⟩ := hS2
  have hgl : g < w31.heap.size := hq0.lt
  have hzw : w.heap.size ≤ w31.heap.size := hF.size
  have hz1 : w.heap.size < w31.heap.size := World.block_lt_of_cell? w31 _ q1
  have hz2 : w.heap.size + 1 < w31.heap.size := World.block_lt_of_cell? w31 _ q5
  have hz3 : w1.heap.size < w31.heap.size := World.block_lt_of_cell? w31 _ q8
  have hz4 : T < w31.heap.size := World.block_lt_of_cell? w31 _ q10
  go_upto_region 4 with fail
  go_cut [7, 8] (fun s t wx => ∃ (A B : Nat) (a b a2 b2 : Int), s = .pointer (some ⟨A, 0, none⟩) ∧ t = .pointer (some ⟨B, 0, none⟩) ∧ (w.heap.size + 1 < A ∧ w.heap.size + 1 < B ∧ (A < B ∨ B < A)) ∧ (Cur wx g (k + 14) ∧ (w.heap.size < wx.heap.size ∧ ∀ i, wx.frozen? ⟨w.heap.size, i, none⟩ = false) ∧ wx.cell? ⟨w.heap.size, 0, none⟩ = some (.bool (false)) ∧ wx.cell? ⟨w.heap.size, 1, none⟩ = some (.int .i64 (0)) ∧ wx.cell? ⟨w.heap.size, 2, none⟩ = some (.int .i64 (0)) ∧ (w.heap.size + 1 < wx.heap.size ∧ ∀ i, wx.frozen? ⟨w.heap.size + 1, i, none⟩ = false) ∧ wx.cell? ⟨w.heap.size + 1, 0, none⟩ = some (.bool (false)) ∧ wx.cell? ⟨w.heap.size + 1, 1, none⟩ = some (.int .i64 (0)) ∧ wx.cell? ⟨w.heap.size + 1, 2, none⟩ = some (.int .i64 (0)) ∧ (A < wx.heap.size ∧ ∀ i, wx.frozen? ⟨A, i, none⟩ = false) ∧ wx.cell? ⟨A, 0, none⟩ = some (.bool o) ∧ wx.cell? ⟨A, 1, none⟩ = some (.int .i64 a) ∧ wx.cell? ⟨A, 2, none⟩ = some (.int .i64 b) ∧ (B < wx.heap.size ∧ ∀ i, wx.frozen? ⟨B, i, none⟩ = false) ∧ wx.cell? ⟨B, 0, none⟩ = some (.bool (!o)) ∧ wx.cell? ⟨B, 1, none⟩ = some (.int .i64 a2) ∧ wx.cell? ⟨B, 2, none⟩ = some (.int .i64 b2) ∧ w.grownBy wx (some g)))
  case first =>
    refine wp_region_all (by kernel_rfl) ?_
    obtain ⟨w32, hwq⟩ : ∃ W, World.drew w31 = W := ⟨_, rfl⟩
    have hb : Below w31.heap.size w31 w32 := by rw [← hwq]; go_grown
    rw [hwq]
    have hT := ai (hq0.below hb) <| ai (kf hb f0 fr0) <| ai (kc hb q1) <| ai (kc hb q2) <| ai (kc hb q3) <| ai (kf hb f4 fr4) <| ai (kc hb q5) <| ai (kc hb q6) <| ai (kc hb q7) <| ai (kc hb q8) <| ai (kc hb q9) <| ai (kc hb q10) <| ai (kc hb q11) <| gb_below hF hb
    clear hS hb hwq
    have hS := hT
    clear hT
    have hS2 := hS
    obtain ⟨hq0, ⟨f0, fr0⟩, q1, q2, q3, ⟨f4, fr4⟩, q5, q6, q7, q8, q9, q10, q11, hF⟩ := hS2
    have hgl : g < w32.heap.size := hq0.lt
    have hzw : w.heap.size ≤ w32.heap.size := hF.size
    have hz1 : w.heap.size < w32.heap.size := World.block_lt_of_cell? w32 _ q1
    have hz2 : w.heap.size + 1 < w32.heap.size := World.block_lt_of_cell? w32 _ q5
    have hz3 : w1.heap.size < w32.heap.size := World.block_lt_of_cell? w32 _ q8
    have hz4 : T < w32.heap.size := World.block_lt_of_cell? w32 _ q10
    have HK9 := hide hS
    have hT : Cur w32 (g) (k + 14) ∧ w32.cell? ⟨w1.heap.size, 0, none⟩ = some (.int .i64 (x)) ∧ w32.cell? ⟨w1.heap.size, 1, none⟩ = some (.int .i64 (y)) ∧ w32.cell? ⟨T, 0, none⟩ = some (.int .i64 (u)) ∧ w32.cell? ⟨T, 1, none⟩ = some (.int .i64 (v)) ∧ w32.grownBy w32 (some (g)) ∧ w.grownBy w32 (some g) := ⟨hS.1, hS.2.2.2.2.2.2.2.2.2.1, hS.2.2.2.2.2.2.2.2.2.2.1, hS.2.2.2.2.2.2.2.2.2.2.2.1, hS.2.2.2.2.2.2.2.2.2.2.2.2.1, gb_refl _ _, hS.2.2.2.2.2.2.2.2.2.2.2.2.2⟩
    clear hS
    have hS := hT
    clear hT
    have hS2 := hS
    obtain ⟨hq0, q0, q1, q2, q3, q4, hF⟩ := hS2
    have hgl : g < w32.heap.size := hq0.lt
    have hzw : w.heap.size ≤ w32.heap.size := hF.size
    have hz1 : w1.heap.size < w32.heap.size := World.block_lt_of_cell? w32 _ q0
    have hz2 : T < w32.heap.size := World.block_lt_of_cell? w32 _ q2
    have hzk32 : w32.heap.size ≤ w32.heap.size := q4.size
    refine all_split 7 2 (by decide) ?_ ?_
    · refine all_split 8 7 (by decide) ?_ ?_
      · refine all_seq_core [0, 1, 3, 4, 5, 8, 7, 2, 6, 9, 10] (fun W => W.cell? ⟨w1.heap.size, 0, none⟩ = some (.int .i64 (x)) ∧ W.cell? ⟨w1.heap.size, 1, none⟩ = some (.int .i64 (y)) ∧ W.cell? ⟨T, 0, none⟩ = some (.int .i64 (u)) ∧ W.cell? ⟨T, 1, none⟩ = some (.int .i64 (v)) ∧ w.grownBy W (some g)) (Core.trans (addE_core 7 2 _) (addE_core 8 7 _)) (by kernel_rfl) ⟨hS.2.1, hS.2.2.1, hS.2.2.2.1, hS.2.2.2.2.1, hS.2.2.2.2.2.2⟩ ?_
        simp only [byNum, List.getElem?_cons_zero, List.getElem?_cons_succ]
        repeat (first
          | ((refine seq_skip (by rfl) (by rfl) ?_); simp only [Act.put, pa, pb, pc])
          | ((refine seq_val (v := ?_) (by rfl) (by rfl) (fun w hS => ?_) ?_); rotate_left; (focus ((try dsimp only at hS); go_simp; (try (with_reducible rfl)); done)); simp only [Act.put, pa, pb, pc]))
        refine seq_deed (v := ?_) (w' := ?_) (by rfl) (by rfl) ?_ ?_
        rotate_left
        rotate_left
        focus (go_simp; (constructor <;> (with_reducible rfl)); done)
        generalize hgw33 : World.alloc w32 _ = w33
        have hb : Below w32.heap.size w32 w33 := by rw [← hgw33]; go_grown
        obtain ⟨n9, n0, n1, n2⟩ := al3 hgw33
        have hT := ai (hq0.below hb) <| ai (kc hb q0) <| ai (kc hb q1) <| ai (kc hb q2) <| ai (kc hb q3) <| ai (gb_below q4 hb) <| ai (n9) <| ai (n0) <| ai (n1) <| ai (n2) <| gb_below (hS.2.2.2.2.2.2) hb
        clear n9 n0 n1 n2
        clear hS hb hgw33
        have hS := hT
        clear hT
        have hS2 := hS
        obtain ⟨hq0, q0, q1, q2, q3, q4, ⟨f5, fr5⟩, q6, q7, q8, hF⟩ := hS2
        have hgl : g < w33.heap.size := hq0.lt
        have hzw : w.heap.size ≤ w33.heap.size := hF.size
        have hz1 : w1.heap.size < w33.heap.size := World.block_lt_of_cell? w33 _ q0
        have hz2 : T < w33.heap.size := World.block_lt_of_cell? w33 _ q2
        have hzk33 : w32.heap.size ≤ w33.heap.size := q4.size
        have hz3 : w32.heap.size < w33.heap.size := World.block_lt_of_cell? w33 _ q6
        refine ⟨(fun W => W.cell? ⟨w1.heap.size, 0, none⟩ = some (.int .i64 (x)) ∧ W.cell? ⟨w1.heap.size, 1, none⟩ = some (.int .i64 (y)) ∧ W.cell? ⟨T, 0, none⟩ = some (.int .i64 (u)) ∧ W.cell? ⟨T, 1, none⟩ = some (.int .i64 (v)) ∧ w.grownBy W (some g)), ⟨hS.2.1, hS.2.2.1, hS.2.2.2.1, hS.2.2.2.2.1, hS.2.2.2.2.2.2.2.2.2.2⟩, (fun W h => h), ?_⟩
        simp only [Act.put, pa, pb, pc]
        repeat (first
          | ((refine seq_skip (by rfl) (by rfl) ?_); simp only [Act.put, pa, pb, pc])
          | ((refine seq_val (v := ?_) (by rfl) (by rfl) (fun w hS => ?_) ?_); rotate_left; (focus ((try dsimp only at hS); go_simp; (try (with_reducible rfl)); done)); simp only [Act.put, pa, pb, pc]))
        refine seq_deed (v := ?_) (w' := ?_) (by rfl) (by rfl) ?_ ?_
        rotate_left
        rotate_left
        focus (go_simp; (constructor <;> (with_reducible rfl)); done)
        generalize hgw34 : World.alloc w33 _ = w34
        have hb : Below w33.heap.size w33 w34 := by rw [← hgw34]; go_grown
        obtain ⟨n9, n0, n1, n2⟩ := al3 hgw34
        have hT := ai (hq0.below hb) <| ai (kc hb q0) <| ai (kc hb q1) <| ai (kc hb q2) <| ai (kc hb q3) <| ai (gb_below q4 hb) <| ai (kf hb f5 fr5) <| ai (kc hb q6) <| ai (kc hb q7) <| ai (kc hb q8) <| ai (n9) <| ai (n0) <| ai (n1) <| ai (n2) <| gb_below (hS.2.2.2.2.2.2.2.2.2.2) hb
        clear n9 n0 n1 n2
        clear hS hb hgw34
        have hS := hT
        clear hT
        have hS2 := hS
        obtain ⟨hq0, q0, q1, q2, q3, q4, ⟨f5, fr5⟩, q6, q7, q8, ⟨f9, fr9⟩, q10, q11, q12, hF⟩ := hS2
        have hgl : g < w34.heap.size := hq0.lt
        have hzw : w.heap.size ≤ w34.heap.size := hF.size
        have hz1 : w1.heap.size < w34.heap.size := World.block_lt_of_cell? w34 _ q0
        have hz2 : T < w34.heap.size := World.block_lt_of_cell? w34 _ q2
        have hzk34 : w32.heap.size ≤ w34.heap.size := q4.size
        have hz3 : w32.heap.size < w34.heap.size := World.block_lt_of_cell? w34 _ q6
        have hz4 : w33.heap.size < w34.heap.size := World.block_lt_of_cell? w34 _ q10
        refine ⟨(fun W => W.cell? ⟨w1.heap.size, 0, none⟩ = some (.int .i64 (x)) ∧ W.cell? ⟨w1.heap.size, 1, none⟩ = some (.int .i64 (y)) ∧ W.cell? ⟨T, 0, none⟩ = some (.int .i64 (u)) ∧ W.cell? ⟨T, 1, none⟩ = some (.int .i64 (v)) ∧ w.grownBy W (some g)), ⟨hS.2.1, hS.2.2.1, hS.2.2.2.1, hS.2.2.2.2.1, hS.2.2.2.2.2.2.2.2.2.2.2.2.2.2⟩, (fun W h => h), ?_⟩
        simp only [Act.put, pa, pb, pc]
        repeat (first
          | ((refine seq_skip (by rfl) (by rfl) ?_); simp only [Act.put, pa, pb, pc])
          | ((refine seq_val (v := ?_) (by rfl) (by rfl) (fun w hS => ?_) ?_); rotate_left; (focus ((try dsimp only at hS); go_simp; (try (with_reducible rfl)); done)); simp only [Act.put, pa, pb, pc]))
        refine seq_call (f := ?_) (args := ?_) (by rfl) (by rfl) ?_ ?_
        rotate_left
        rotate_left
        focus (go_simp; (constructor <;> (with_reducible rfl)); done)
        refine (l7Of_ex x y o (by omega) (by omega) _).mono ?_
        rintro e w35 ⟨a, b, rfl, hb⟩
        have hT := ai (hq0.below hb) <| ai (kc hb q0) <| ai (kc hb q1) <| ai (kc hb q2) <| ai (kc hb q3) <| ai (gb_below q4 hb) <| ai (kf hb f5 fr5) <| ai (kc hb q6) <| ai (kc hb q7) <| ai (kc hb q8) <| ai (kf hb f9 fr9) <| ai (kc hb q10) <| ai (kc hb q11) <| ai (kc hb q12) <| gb_below hF hb
        clear hS hb
        have hS := hT
        clear hT
        have hS2 := hS
        obtain ⟨hq0, q0, q1, q2, q3, q4, ⟨f5, fr5⟩, q6, q7, q8, ⟨f9, fr9⟩, q10, q11, q12, hF⟩ := hS2
        have hgl : g < w35.heap.size := hq0.lt
        have hzw : w.heap.size ≤ w35.heap.size := hF.size
        have hz1 : w1.heap.size < w35.heap.size := World.block_lt_of_cell? w35 _ q0
        have hz2 : T < w35.heap.size := World.block_lt_of_cell? w35 _ q2
        have hzk35 : w32.heap.size ≤ w35.heap.size := q4.size
        have hz3 : w32.heap.size < w35.heap.size := World.block_lt_of_cell? w35 _ q6
        have hz4 : w33.heap.size < w35.heap.size := World.block_lt_of_cell? w35 _ q10
        refine ⟨_, rfl, (fun W => W.cell? ⟨w1.heap.size, 0, none⟩ = some (.int .i64 (x)) ∧ W.cell? ⟨w1.heap.size, 1, none⟩ = some (.int .i64 (y)) ∧ W.cell? ⟨T, 0, none⟩ = some (.int .i64 (u)) ∧ W.cell? ⟨T, 1, none⟩ = some (.int .i64 (v)) ∧ w.grownBy W (some g)), ⟨hS.2.1, hS.2.2.1, hS.2.2.2.1, hS.2.2.2.2.1, hS.2.2.2.2.2.2.2.2.2.2.2.2.2.2⟩, (fun W h => h), ?_⟩
        simp only [Act.put, pa, pb, pc]
        repeat (first
          | ((refine seq_skip (by rfl) (by rfl) ?_); simp only [Act.put, pa, pb, pc])
          | ((refine seq_val (v := ?_) (by rfl) (by rfl) (fun w hS => ?_) ?_); rotate_left; (focus ((try dsimp only at hS); go_simp; (try (with_reducible rfl)); done)); simp only [Act.put, pa, pb, pc]))
        refine seq_call (f := ?_) (args := ?_) (by rfl) (by rfl) ?_ ?_
        rotate_left
        rotate_left
        focus (go_simp; (constructor <;> (with_reducible rfl)); done)
        refine (l7Of_ex u v (!o) (by omega) (by omega) _).mono ?_
        rintro e w36 ⟨a2, b2, rfl, hb⟩
        have hT := ai (hq0.below hb) <| ai (kc hb q0) <| ai (kc hb q1) <| ai (kc hb q2) <| ai (kc hb q3) <| ai (gb_below q4 hb) <| ai (kf hb f5 fr5) <| ai (kc hb q6) <| ai (kc hb q7) <| ai (kc hb q8) <| ai (kf hb f9 fr9) <| ai (kc hb q10) <| ai (kc hb q11) <| ai (kc hb q12) <| gb_below hF hb
        clear hS hb
        have hS := hT
        clear hT
        have hS2 := hS
        obtain ⟨hq0, q0, q1, q2, q3, q4, ⟨f5, fr5⟩, q6, q7, q8, ⟨f9, fr9⟩, q10, q11, q12, hF⟩ := hS2
        have hgl : g < w36.heap.size := hq0.lt
        have hzw : w.heap.size ≤ w36.heap.size := hF.size
        have hz1 : w1.heap.size < w36.heap.size := World.block_lt_of_cell? w36 _ q0
        have hz2 : T < w36.heap.size := World.block_lt_of_cell? w36 _ q2
        have hzk36 : w32.heap.size ≤ w36.heap.size := q4.size
        have hz3 : w32.heap.size < w36.heap.size := World.block_lt_of_cell? w36 _ q6
        have hz4 : w33.heap.size < w36.heap.size := World.block_lt_of_cell? w36 _ q10
        refine ⟨_, rfl, (fun W => W.cell? ⟨w1.heap.size, 0, none⟩ = some (.int .i64 (x)) ∧ W.cell? ⟨w1.heap.size, 1, none⟩ = some (.int .i64 (y)) ∧ W.cell? ⟨T, 0, none⟩ = some (.int .i64 (u)) ∧ W.cell? ⟨T, 1, none⟩ = some (.int .i64 (v)) ∧ w.grownBy W (some g)), ⟨hS.2.1, hS.2.2.1, hS.2.2.2.1, hS.2.2.2.2.1, hS.2.2.2.2.2.2.2.2.2.2.2.2.2.2⟩, (fun W h => h), ?_⟩
        simp only [Act.put, pa, pb, pc]
        repeat (first
          | ((refine seq_skip (by rfl) (by rfl) ?_); simp only [Act.put, pa, pb, pc])
          | ((refine seq_val (v := ?_) (by rfl) (by rfl) (fun w hS => ?_) ?_); rotate_left; (focus ((try dsimp only at hS); go_simp; (try (with_reducible rfl)); done)); simp only [Act.put, pa, pb, pc]))
        obtain ⟨w37, hw37⟩ : ∃ W, W = ((w36.setCell ⟨w33.heap.size, 0, none⟩ (.bool o)).setCell ⟨w33.heap.size, 1, none⟩ (.int .i64 a)).setCell ⟨w33.heap.size, 2, none⟩ (.int .i64 b) := ⟨_, rfl⟩
        obtain ⟨dd0, dd1, dd2, dd3, dd4⟩ := box3_sets q10 q11 q12 (.bool o) (.int .i64 a) (.int .i64 b)
        refine seq_store (w' := w37) (by rfl) (by rfl) (by rw [hw37]; go_simp; (try (with_reducible rfl)); done) ?_
        obtain ⟨dw0, dw1, dw2⟩ := s3w hw37 q10 q11 q12
        have hT := ai (s3c hw37 (by omega) hq0) <| ai (s3o hw37 (by omega) q0) <| ai (s3o hw37 (by omega) q1) <| ai (s3o hw37 (by omega) q2) <| ai (s3o hw37 (by omega) q3) <| ai (s3g hw37 (by omega) q4) <| ai (s3f hw37 f5 fr5) <| ai (s3o hw37 (by omega) q6) <| ai (s3o hw37 (by omega) q7) <| ai (s3o hw37 (by omega) q8) <| ai (s3f hw37 f9 fr9) <| ai (dw0) <| ai (dw1) <| ai (dw2) <| s3g hw37 (by omega) hF
        clear dw0 dw1 dw2
        (try clear hS)
        have hS := hT
        clear hT dd0 dd1 dd2 dd3 dd4 hw37
        have hS2 := hS
        obtain ⟨hq0, q0, q1, q2, q3, q4, ⟨f5, fr5⟩, q6, q7, q8, ⟨f9, fr9⟩, q10, q11, q12, hF⟩ := hS2
        have hgl : g < w37.heap.size := hq0.lt
        have hzw : w.heap.size ≤ w37.heap.size := hF.size
        have hz1 : w1.heap.size < w37.heap.size := World.block_lt_of_cell? w37 _ q0
        have hz2 : T < w37.heap.size := World.block_lt_of_cell? w37 _ q2
        have hzk37 : w32.heap.size ≤ w37.heap.size := q4.size
        have hz3 : w32.heap.size < w37.heap.size := World.block_lt_of_cell? w37 _ q6
        have hz4 : w33.heap.size < w37.heap.size := World.block_lt_of_cell? w37 _ q10
        refine ⟨(fun W => W.cell? ⟨w1.heap.size, 0, none⟩ = some (.int .i64 (x)) ∧ W.cell? ⟨w1.heap.size, 1, none⟩ = some (.int .i64 (y)) ∧ W.cell? ⟨T, 0, none⟩ = some (.int .i64 (u)) ∧ W.cell? ⟨T, 1, none⟩ = some (.int .i64 (v)) ∧ w.grownBy W (some g)), ⟨hS.2.1, hS.2.2.1, hS.2.2.2.1, hS.2.2.2.2.1, hS.2.2.2.2.2.2.2.2.2.2.2.2.2.2⟩, (fun W h => h), ?_⟩
        simp only [Act.put, pa, pb, pc]
        repeat (first
          | ((refine seq_skip (by rfl) (by rfl) ?_); simp only [Act.put, pa, pb, pc])
          | ((refine seq_val (v := ?_) (by rfl) (by rfl) (fun w hS => ?_) ?_); rotate_left; (focus ((try dsimp only at hS); go_simp; (try (with_reducible rfl)); done)); simp only [Act.put, pa, pb, pc]))
        obtain ⟨w38, hw38⟩ : ∃ W, W = ((w37.setCell ⟨w32.heap.size, 0, none⟩ (.bool (!o))).setCell ⟨w32.heap.size, 1, none⟩ (.int .i64 a2)).setCell ⟨w32.heap.size, 2, none⟩ (.int .i64 b2) := ⟨_, rfl⟩
        obtain ⟨dd0, dd1, dd2, dd3, dd4⟩ := box3_sets q6 q7 q8 (.bool (!o)) (.int .i64 a2) (.int .i64 b2)
        refine seq_store (w' := w38) (by rfl) (by rfl) (by rw [hw38]; go_simp; (try (with_reducible rfl)); done) ?_
        obtain ⟨dw0, dw1, dw2⟩ := s3w hw38 q6 q7 q8
        have hT := ai (s3c hw38 (by omega) hq0) <| ai (s3o hw38 (by omega) q0) <| ai (s3o hw38 (by omega) q1) <| ai (s3o hw38 (by omega) q2) <| ai (s3o hw38 (by omega) q3) <| ai (s3g hw38 (by omega) q4) <| ai (s3f hw38 f5 fr5) <| ai (dw0) <| ai (dw1) <| ai (dw2) <| ai (s3f hw38 f9 fr9) <| ai (s3o hw38 (by omega) q10) <| ai (s3o hw38 (by omega) q11) <| ai (s3o hw38 (by omega) q12) <| s3g hw38 (by omega) hF
        clear dw0 dw1 dw2
        (try clear hS)
        have hS := hT
        clear hT dd0 dd1 dd2 dd3 dd4 hw38
        have hS2 := hS
        obtain ⟨hq0, q0, q1, q2, q3, q4, ⟨f5, fr5⟩, q6, q7, q8, ⟨f9, fr9⟩, q10, q11, q12, hF⟩ := hS2
        have hgl : g < w38.heap.size := hq0.lt
        have hzw : w.heap.size ≤ w38.heap.size := hF.size
        have hz1 : w1.heap.size < w38.heap.size := World.block_lt_of_cell? w38 _ q0
        have hz2 : T < w38.heap.size := World.block_lt_of_cell? w38 _ q2
        have hzk38 : w32.heap.size ≤ w38.heap.size := q4.size
        have hz3 : w32.heap.size < w38.heap.size := World.block_lt_of_cell? w38 _ q6
        have hz4 : w33.heap.size < w38.heap.size := World.block_lt_of_cell? w38 _ q10
        refine ⟨(fun W => W.cell? ⟨w1.heap.size, 0, none⟩ = some (.int .i64 (x)) ∧ W.cell? ⟨w1.heap.size, 1, none⟩ = some (.int .i64 (y)) ∧ W.cell? ⟨T, 0, none⟩ = some (.int .i64 (u)) ∧ W.cell? ⟨T, 1, none⟩ = some (.int .i64 (v)) ∧ w.grownBy W (some g)), ⟨hS.2.1, hS.2.2.1, hS.2.2.2.1, hS.2.2.2.2.1, hS.2.2.2.2.2.2.2.2.2.2.2.2.2.2⟩, (fun W h => h), ?_⟩
        simp only [Act.put, pa, pb, pc]
        repeat (first
          | ((refine seq_skip (by rfl) (by rfl) ?_); simp only [Act.put, pa, pb, pc])
          | ((refine seq_val (v := ?_) (by rfl) (by rfl) (fun w hS => ?_) ?_); rotate_left; (focus ((try dsimp only at hS); go_simp; (try (with_reducible rfl)); done)); simp only [Act.put, pa, pb, pc]))
        refine seq_nil ?_
        go_wp2_with fail
        go_meet
        case rel => exact ⟨w33.heap.size, w32.heap.size, a, b, a2, b2, rfl, rfl, ⟨by omega, by omega, by omega⟩, hS.1, gf (hS.2.2.2.2.2.1) (HK9.out.2.1).1 (HK9.out.2.1).2 (by omega), gc (hS.2.2.2.2.2.1) (HK9.out.2.2.1) (by omega), gc (hS.2.2.2.2.2.1) (HK9.out.2.2.2.1) (by omega), gc (hS.2.2.2.2.2.1) (HK9.out.2.2.2.2.1) (by omega), gf (hS.2.2.2.2.2.1) (HK9.out.2.2.2.2.2.1).1 (HK9.out.2.2.2.2.2.1).2 (by omega), gc (hS.2.2.2.2.2.1) (HK9.out.2.2.2.2.2.2.1) (by omega), gc (hS.2.2.2.2.2.1) (HK9.out.2.2.2.2.2.2.2.1) (by omega), gc (hS.2.2.2.2.2.1) (HK9.out.2.2.2.2.2.2.2.2.1) (by omega), hS.2.2.2.2.2.2.2.2.2.2.1, hS.2.2.2.2.2.2.2.2.2.2.2.1, hS.2.2.2.2.2.2.2.2.2.2.2.2.1, hS.2.2.2.2.2.2.2.2.2.2.2.2.2.1, hS.2.2.2.2.2.2.1, hS.2.2.2.2.2.2.2.1, hS.2.2.2.2.2.2.2.2.1, hS.2.2.2.2.2.2.2.2.2.1, hS.2.2.2.2.2.2.2.2.2.2.2.2.2.2⟩
      · refine all_split 8 2 (by decide) ?_ ?_
        · refine all_seq_core [0, 1, 3, 4, 5, 7, 8, 2, 6, 9, 10] (fun W => W.cell? ⟨w1.heap.size, 0, none⟩ = some (.int .i64 (x)) ∧ W.cell? ⟨w1.heap.size, 1, none⟩ = some (.int .i64 (y)) ∧ W.cell? ⟨T, 0, none⟩ = some (.int .i64 (u)) ∧ W.cell? ⟨T, 1, none⟩ = some (.int .i64 (v)) ∧ w.grownBy W (some g)) (Core.trans (Core.trans (addE_core 7 2 _) (addE_core 7 8 _)) (addE_core 8 2 _)) (by kernel_rfl) ⟨hS.2.1, hS.2.2.1, hS.2.2.2.1, hS.2.2.2.2.1, hS.2.2.2.2.2.2⟩ ?_
          simp only [byNum, List.getElem?_cons_zero, List.getElem?_cons_succ]
          repeat (first
            | ((refine seq_skip (by rfl) (by rfl) ?_); simp only [Act.put, pa, pb, pc])
            | ((refine seq_val (v := ?_) (by rfl) (by rfl) (fun w hS => ?_) ?_); rotate_left; (focus ((try dsimp only at hS); go_simp; (try (with_reducible rfl)); done)); simp only [Act.put, pa, pb, pc]))
          refine seq_deed (v := ?_) (w' := ?_) (by rfl) (by rfl) ?_ ?_
          rotate_left
          rotate_left
          focus (go_simp; (constructor <;> (with_reducible rfl)); done)
          generalize hgw33 : World.alloc w32 _ = w33
          have hb : Below w32.heap.size w32 w33 := by rw [← hgw33]; go_grown
          obtain ⟨n9, n0, n1, n2⟩ := al3 hgw33
          have hT := ai (hq0.below hb) <| ai (kc hb q0) <| ai (kc hb q1) <| ai (kc hb q2) <| ai (kc hb q3) <| ai (gb_below q4 hb) <| ai (n9) <| ai (n0) <| ai (n1) <| ai (n2) <| gb_below (hS.2.2.2.2.2.2) hb
          clear n9 n0 n1 n2
          clear hS hb hgw33
          have hS := hT
          clear hT
          have hS2 := hS
          obtain ⟨hq0, q0, q1, q2, q3, q4, ⟨f5, fr5⟩, q6, q7, q8, hF⟩ := hS2
          have hgl : g < w33.heap.size := hq0.lt
          have hzw : w.heap.size ≤ w33.heap.size := hF.size
          have hz1 : w1.heap.size < w33.heap.size := World.block_lt_of_cell? w33 _ q0
          have hz2 : T < w33.heap.size := World.block_lt_of_cell? w33 _ q2
          have hzk33 : w32.heap.size ≤ w33.heap.size := q4.size
          have hz3 : w32.heap.size < w33.heap.size := World.block_lt_of_cell? w33 _ q6
          refine ⟨(fun W => W.cell? ⟨w1.heap.size, 0, none⟩ = some (.int .i64 (x)) ∧ W.cell? ⟨w1.heap.size, 1, none⟩ = some (.int .i64 (y)) ∧ W.cell? ⟨T, 0, none⟩ = some (.int .i64 (u)) ∧ W.cell? ⟨T, 1, none⟩ = some (.int .i64 (v)) ∧ w.grownBy W (some g)), ⟨hS.2.1, hS.2.2.1, hS.2.2.2.1, hS.2.2.2.2.1, hS.2.2.2.2.2.2.2.2.2.2⟩, (fun W h => h), ?_⟩
          simp only [Act.put, pa, pb, pc]
          repeat (first
            | ((refine seq_skip (by rfl) (by rfl) ?_); simp only [Act.put, pa, pb, pc])
            | ((refine seq_val (v := ?_) (by rfl) (by rfl) (fun w hS => ?_) ?_); rotate_left; (focus ((try dsimp only at hS); go_simp; (try (with_reducible rfl)); done)); simp only [Act.put, pa, pb, pc]))
          refine seq_deed (v := ?_) (w' := ?_) (by rfl) (by rfl) ?_ ?_
          rotate_left
          rotate_left
          focus (go_simp; (constructor <;> (with_reducible rfl)); done)
          generalize hgw34 : World.alloc w33 _ = w34
          have hb : Below w33.heap.size w33 w34 := by rw [← hgw34]; go_grown
          obtain ⟨n9, n0, n1, n2⟩ := al3 hgw34
          have hT := ai (hq0.below hb) <| ai (kc hb q0) <| ai (kc hb q1) <| ai (kc hb q2) <| ai (kc hb q3) <| ai (gb_below q4 hb) <| ai (kf hb f5 fr5) <| ai (kc hb q6) <| ai (kc hb q7) <| ai (kc hb q8) <| ai (n9) <| ai (n0) <| ai (n1) <| ai (n2) <| gb_below (hS.2.2.2.2.2.2.2.2.2.2) hb
          clear n9 n0 n1 n2
          clear hS hb hgw34
          have hS := hT
          clear hT
          have hS2 := hS
          obtain ⟨hq0, q0, q1, q2, q3, q4, ⟨f5, fr5⟩, q6, q7, q8, ⟨f9, fr9⟩, q10, q11, q12, hF⟩ := hS2
          have hgl : g < w34.heap.size := hq0.lt
          have hzw : w.heap.size ≤ w34.heap.size := hF.size
          have hz1 : w1.heap.size < w34.heap.size := World.block_lt_of_cell? w34 _ q0
          have hz2 : T < w34.heap.size := World.block_lt_of_cell? w34 _ q2
          have hzk34 : w32.heap.size ≤ w34.heap.size := q4.size
          have hz3 : w32.heap.size < w34.heap.size := World.block_lt_of_cell? w34 _ q6
          have hz4 : w33.heap.size < w34.heap.size := World.block_lt_of_cell? w34 _ q10
          refine ⟨(fun W => W.cell? ⟨w1.heap.size, 0, none⟩ = some (.int .i64 (x)) ∧ W.cell? ⟨w1.heap.size, 1, none⟩ = some (.int .i64 (y)) ∧ W.cell? ⟨T, 0, none⟩ = some (.int .i64 (u)) ∧ W.cell? ⟨T, 1, none⟩ = some (.int .i64 (v)) ∧ w.grownBy W (some g)), ⟨hS.2.1, hS.2.2.1, hS.2.2.2.1, hS.2.2.2.2.1, hS.2.2.2.2.2.2.2.2.2.2.2.2.2.2⟩, (fun W h => h), ?_⟩
          simp only [Act.put, pa, pb, pc]
          repeat (first
            | ((refine seq_skip (by rfl) (by rfl) ?_); simp only [Act.put, pa, pb, pc])
            | ((refine seq_val (v := ?_) (by rfl) (by rfl) (fun w hS => ?_) ?_); rotate_left; (focus ((try dsimp only at hS); go_simp; (try (with_reducible rfl)); done)); simp only [Act.put, pa, pb, pc]))
          refine seq_call (f := ?_) (args := ?_) (by rfl) (by rfl) ?_ ?_
          rotate_left
          rotate_left
          focus (go_simp; (constructor <;> (with_reducible rfl)); done)
          refine (l7Of_ex x y o (by omega) (by omega) _).mono ?_
          rintro e w35 ⟨a, b, rfl, hb⟩
          have hT := ai (hq0.below hb) <| ai (kc hb q0) <| ai (kc hb q1) <| ai (kc hb q2) <| ai (kc hb q3) <| ai (gb_below q4 hb) <| ai (kf hb f5 fr5) <| ai (kc hb q6) <| ai (kc hb q7) <| ai (kc hb q8) <| ai (kf hb f9 fr9) <| ai (kc hb q10) <| ai (kc hb q11) <| ai (kc hb q12) <| gb_below hF hb
          clear hS hb
          have hS := hT
          clear hT
          have hS2 := hS
          obtain ⟨hq0, q0, q1, q2, q3, q4, ⟨f5, fr5⟩, q6, q7, q8, ⟨f9, fr9⟩, q10, q11, q12, hF⟩ := hS2
          have hgl : g < w35.heap.size := hq0.lt
          have hzw : w.heap.size ≤ w35.heap.size := hF.size
          have hz1 : w1.heap.size < w35.heap.size := World.block_lt_of_cell? w35 _ q0
          have hz2 : T < w35.heap.size := World.block_lt_of_cell? w35 _ q2
          have hzk35 : w32.heap.size ≤ w35.heap.size := q4.size
          have hz3 : w32.heap.size < w35.heap.size := World.block_lt_of_cell? w35 _ q6
          have hz4 : w33.heap.size < w35.heap.size := World.block_lt_of_cell? w35 _ q10
          refine ⟨_, rfl, (fun W => W.cell? ⟨w1.heap.size, 0, none⟩ = some (.int .i64 (x)) ∧ W.cell? ⟨w1.heap.size, 1, none⟩ = some (.int .i64 (y)) ∧ W.cell? ⟨T, 0, none⟩ = some (.int .i64 (u)) ∧ W.cell? ⟨T, 1, none⟩ = some (.int .i64 (v)) ∧ w.grownBy W (some g)), ⟨hS.2.1, hS.2.2.1, hS.2.2.2.1, hS.2.2.2.2.1, hS.2.2.2.2.2.2.2.2.2.2.2.2.2.2⟩, (fun W h => h), ?_⟩
          simp only [Act.put, pa, pb, pc]
          repeat (first
            | ((refine seq_skip (by rfl) (by rfl) ?_); simp only [Act.put, pa, pb, pc])
            | ((refine seq_val (v := ?_) (by rfl) (by rfl) (fun w hS => ?_) ?_); rotate_left; (focus ((try dsimp only at hS); go_simp; (try (with_reducible rfl)); done)); simp only [Act.put, pa, pb, pc]))
          refine seq_call (f := ?_) (args := ?_) (by rfl) (by rfl) ?_ ?_
          rotate_left
          rotate_left
          focus (go_simp; (constructor <;> (with_reducible rfl)); done)
          refine (l7Of_ex u v (!o) (by omega) (by omega) _).mono ?_
          rintro e w36 ⟨a2, b2, rfl, hb⟩
          have hT := ai (hq0.below hb) <| ai (kc hb q0) <| ai (kc hb q1) <| ai (kc hb q2) <| ai (kc hb q3) <| ai (gb_below q4 hb) <| ai (kf hb f5 fr5) <| ai (kc hb q6) <| ai (kc hb q7) <| ai (kc hb q8) <| ai (kf hb f9 fr9) <| ai (kc hb q10) <| ai (kc hb q11) <| ai (kc hb q12) <| gb_below hF hb
          clear hS hb
          have hS := hT
          clear hT
          have hS2 := hS
          obtain ⟨hq0, q0, q1, q2, q3, q4, ⟨f5, fr5⟩, q6, q7, q8, ⟨f9, fr9⟩, q10, q11, q12, hF⟩ := hS2
          have hgl : g < w36.heap.size := hq0.lt
          have hzw : w.heap.size ≤ w36.heap.size := hF.size
          have hz1 : w1.heap.size < w36.heap.size := World.block_lt_of_cell? w36 _ q0
          have hz2 : T < w36.heap.size := World.block_lt_of_cell? w36 _ q2
          have hzk36 : w32.heap.size ≤ w36.heap.size := q4.size
          have hz3 : w32.heap.size < w36.heap.size := World.block_lt_of_cell? w36 _ q6
          have hz4 : w33.heap.size < w36.heap.size := World.block_lt_of_cell? w36 _ q10
          refine ⟨_, rfl, (fun W => W.cell? ⟨w1.heap.size, 0, none⟩ = some (.int .i64 (x)) ∧ W.cell? ⟨w1.heap.size, 1, none⟩ = some (.int .i64 (y)) ∧ W.cell? ⟨T, 0, none⟩ = some (.int .i64 (u)) ∧ W.cell? ⟨T, 1, none⟩ = some (.int .i64 (v)) ∧ w.grownBy W (some g)), ⟨hS.2.1, hS.2.2.1, hS.2.2.2.1, hS.2.2.2.2.1, hS.2.2.2.2.2.2.2.2.2.2.2.2.2.2⟩, (fun W h => h), ?_⟩
          simp only [Act.put, pa, pb, pc]
          repeat (first
            | ((refine seq_skip (by rfl) (by rfl) ?_); simp only [Act.put, pa, pb, pc])
            | ((refine seq_val (v := ?_) (by rfl) (by rfl) (fun w hS => ?_) ?_); rotate_left; (focus ((try dsimp only at hS); go_simp; (try (with_reducible rfl)); done)); simp only [Act.put, pa, pb, pc]))
          obtain ⟨w37, hw37⟩ : ∃ W, W = ((w36.setCell ⟨w32.heap.size, 0, none⟩ (.bool o)).setCell ⟨w32.heap.size, 1, none⟩ (.int .i64 a)).setCell ⟨w32.heap.size, 2, none⟩ (.int .i64 b) := ⟨_, rfl⟩
          obtain ⟨dd0, dd1, dd2, dd3, dd4⟩ := box3_sets q6 q7 q8 (.bool o) (.int .i64 a) (.int .i64 b)
          refine seq_store (w' := w37) (by rfl) (by rfl) (by rw [hw37]; go_simp; (try (with_reducible rfl)); done) ?_
          obtain ⟨dw0, dw1, dw2⟩ := s3w hw37 q6 q7 q8
          have hT := ai (s3c hw37 (by omega) hq0) <| ai (s3o hw37 (by omega) q0) <| ai (s3o hw37 (by omega) q1) <| ai (s3o hw37 (by omega) q2) <| ai (s3o hw37 (by omega) q3) <| ai (s3g hw37 (by omega) q4) <| ai (s3f hw37 f5 fr5) <| ai (dw0) <| ai (dw1) <| ai (dw2) <| ai (s3f hw37 f9 fr9) <| ai (s3o hw37 (by omega) q10) <| ai (s3o hw37 (by omega) q11) <| ai (s3o hw37 (by omega) q12) <| s3g hw37 (by omega) hF
          clear dw0 dw1 dw2
          (try clear hS)
          have hS := hT
          clear hT dd0 dd1 dd2 dd3 dd4 hw37
          have hS2 := hS
          obtain ⟨hq0, q0, q1, q2, q3, q4, ⟨f5, fr5⟩, q6, q7, q8, ⟨f9, fr9⟩, q10, q11, q12, hF⟩ := hS2
          have hgl : g < w37.heap.size := hq0.lt
          have hzw : w.heap.size ≤ w37.heap.size := hF.size
          have hz1 : w1.heap.size < w37.heap.size := World.block_lt_of_cell? w37 _ q0
          have hz2 : T < w37.heap.size := World.block_lt_of_cell? w37 _ q2
          have hzk37 : w32.heap.size ≤ w37.heap.size := q4.size
          have hz3 : w32.heap.size < w37.heap.size := World.block_lt_of_cell? w37 _ q6
          have hz4 : w33.heap.size < w37.heap.size := World.block_lt_of_cell? w37 _ q10
          refine ⟨(fun W => W.cell? ⟨w1.heap.size, 0, none⟩ = some (.int .i64 (x)) ∧ W.cell? ⟨w1.heap.size, 1, none⟩ = some (.int .i64 (y)) ∧ W.cell? ⟨T, 0, none⟩ = some (.int .i64 (u)) ∧ W.cell? ⟨T, 1, none⟩ = some (.int .i64 (v)) ∧ w.grownBy W (some g)), ⟨hS.2.1, hS.2.2.1, hS.2.2.2.1, hS.2.2.2.2.1, hS.2.2.2.2.2.2.2.2.2.2.2.2.2.2⟩, (fun W h => h), ?_⟩
          simp only [Act.put, pa, pb, pc]
          repeat (first
            | ((refine seq_skip (by rfl) (by rfl) ?_); simp only [Act.put, pa, pb, pc])
            | ((refine seq_val (v := ?_) (by rfl) (by rfl) (fun w hS => ?_) ?_); rotate_left; (focus ((try dsimp only at hS); go_simp; (try (with_reducible rfl)); done)); simp only [Act.put, pa, pb, pc]))
          obtain ⟨w38, hw38⟩ : ∃ W, W = ((w37.setCell ⟨w33.heap.size, 0, none⟩ (.bool (!o))).setCell ⟨w33.heap.size, 1, none⟩ (.int .i64 a2)).setCell ⟨w33.heap.size, 2, none⟩ (.int .i64 b2) := ⟨_, rfl⟩
          obtain ⟨dd0, dd1, dd2, dd3, dd4⟩ := box3_sets q10 q11 q12 (.bool (!o)) (.int .i64 a2) (.int .i64 b2)
          refine seq_store (w' := w38) (by rfl) (by rfl) (by rw [hw38]; go_simp; (try (with_reducible rfl)); done) ?_
          obtain ⟨dw0, dw1, dw2⟩ := s3w hw38 q10 q11 q12
          have hT := ai (s3c hw38 (by omega) hq0) <| ai (s3o hw38 (by omega) q0) <| ai (s3o hw38 (by omega) q1) <| ai (s3o hw38 (by omega) q2) <| ai (s3o hw38 (by omega) q3) <| ai (s3g hw38 (by omega) q4) <| ai (s3f hw38 f5 fr5) <| ai (s3o hw38 (by omega) q6) <| ai (s3o hw38 (by omega) q7) <| ai (s3o hw38 (by omega) q8) <| ai (s3f hw38 f9 fr9) <| ai (dw0) <| ai (dw1) <| ai (dw2) <| s3g hw38 (by omega) hF
          clear dw0 dw1 dw2
          (try clear hS)
          have hS := hT
          clear hT dd0 dd1 dd2 dd3 dd4 hw38
          have hS2 := hS
          obtain ⟨hq0, q0, q1, q2, q3, q4, ⟨f5, fr5⟩, q6, q7, q8, ⟨f9, fr9⟩, q10, q11, q12, hF⟩ := hS2
          have hgl : g < w38.heap.size := hq0.lt
          have hzw : w.heap.size ≤ w38.heap.size := hF.size
          have hz1 : w1.heap.size < w38.heap.size := World.block_lt_of_cell? w38 _ q0
          have hz2 : T < w38.heap.size := World.block_lt_of_cell? w38 _ q2
          have hzk38 : w32.heap.size ≤ w38.heap.size := q4.size
          have hz3 : w32.heap.size < w38.heap.size := World.block_lt_of_cell? w38 _ q6
          have hz4 : w33.heap.size < w38.heap.size := World.block_lt_of_cell? w38 _ q10
          refine ⟨(fun W => W.cell? ⟨w1.heap.size, 0, none⟩ = some (.int .i64 (x)) ∧ W.cell? ⟨w1.heap.size, 1, none⟩ = some (.int .i64 (y)) ∧ W.cell? ⟨T, 0, none⟩ = some (.int .i64 (u)) ∧ W.cell? ⟨T, 1, none⟩ = some (.int .i64 (v)) ∧ w.grownBy W (some g)), ⟨hS.2.1, hS.2.2.1, hS.2.2.2.1, hS.2.2.2.2.1, hS.2.2.2.2.2.2.2.2.2.2.2.2.2.2⟩, (fun W h => h), ?_⟩
          simp only [Act.put, pa, pb, pc]
          repeat (first
            | ((refine seq_skip (by rfl) (by rfl) ?_); simp only [Act.put, pa, pb, pc])
            | ((refine seq_val (v := ?_) (by rfl) (by rfl) (fun w hS => ?_) ?_); rotate_left; (focus ((try dsimp only at hS); go_simp; (try (with_reducible rfl)); done)); simp only [Act.put, pa, pb, pc]))
          refine seq_nil ?_
          go_wp2_with fail
          go_meet
          case rel => exact ⟨w32.heap.size, w33.heap.size, a, b, a2, b2, rfl, rfl, ⟨by omega, by omega, by omega⟩, hS.1, gf (hS.2.2.2.2.2.1) (HK9.out.2.1).1 (HK9.out.2.1).2 (by omega), gc (hS.2.2.2.2.2.1) (HK9.out.2.2.1) (by omega), gc (hS.2.2.2.2.2.1) (HK9.out.2.2.2.1) (by omega), gc (hS.2.2.2.2.2.1) (HK9.out.2.2.2.2.1) (by omega), gf (hS.2.2.2.2.2.1) (HK9.out.2.2.2.2.2.1).1 (HK9.out.2.2.2.2.2.1).2 (by omega), gc (hS.2.2.2.2.2.1) (HK9.out.2.2.2.2.2.2.1) (by omega), gc (hS.2.2.2.2.2.1) (HK9.out.2.2.2.2.2.2.2.1) (by omega), gc (hS.2.2.2.2.2.1) (HK9.out.2.2.2.2.2.2.2.2.1) (by omega), hS.2.2.2.2.2.2.1, hS.2.2.2.2.2.2.2.1, hS.2.2.2.2.2.2.2.2.1, hS.2.2.2.2.2.2.2.2.2.1, hS.2.2.2.2.2.2.2.2.2.2.1, hS.2.2.2.2.2.2.2.2.2.2.2.1, hS.2.2.2.2.2.2.2.2.2.2.2.2.1, hS.2.2.2.2.2.2.2.2.2.2.2.2.2.1, hS.2.2.2.2.2.2.2.2.2.2.2.2.2.2⟩
        · refine all_split 8 6 (by decide) ?_ ?_
          · refine all_seq_core [0, 1, 3, 4, 5, 7, 2, 8, 6, 9, 10] (fun W => W.cell? ⟨w1.heap.size, 0, none⟩ = some (.int .i64 (x)) ∧ W.cell? ⟨w1.heap.size, 1, none⟩ = some (.int .i64 (y)) ∧ W.cell? ⟨T, 0, none⟩ = some (.int .i64 (u)) ∧ W.cell? ⟨T, 1, none⟩ = some (.int .i64 (v)) ∧ w.grownBy W (some g)) (Core.trans (Core.trans (Core.trans (addE_core 7 2 _) (addE_core 7 8 _)) (addE_core 2 8 _)) (addE_core 8 6 _)) (by kernel_rfl) ⟨hS.2.1, hS.2.2.1, hS.2.2.2.1, hS.2.2.2.2.1, hS.2.2.2.2.2.2⟩ ?_
            simp only [byNum, List.getElem?_cons_zero, List.getElem?_cons_succ]
            repeat (first
              | ((refine seq_skip (by rfl) (by rfl) ?_); simp only [Act.put, pa, pb, pc])
              | ((refine seq_val (v := ?_) (by rfl) (by rfl) (fun w hS => ?_) ?_); rotate_left; (focus ((try dsimp only at hS); go_simp; (try (with_reducible rfl)); done)); simp only [Act.put, pa, pb, pc]))
            refine seq_deed (v := ?_) (w' := ?_) (by rfl) (by rfl) ?_ ?_
            rotate_left
            rotate_left
            focus (go_simp; (constructor <;> (with_reducible rfl)); done)
            generalize hgw33 : World.alloc w32 _ = w33
            have hb : Below w32.heap.size w32 w33 := by rw [← hgw33]; go_grown
            obtain ⟨n9, n0, n1, n2⟩ := al3 hgw33
            have hT := ai (hq0.below hb) <| ai (kc hb q0) <| ai (kc hb q1) <| ai (kc hb q2) <| ai (kc hb q3) <| ai (gb_below q4 hb) <| ai (n9) <| ai (n0) <| ai (n1) <| ai (n2) <| gb_below (hS.2.2.2.2.2.2) hb
            clear n9 n0 n1 n2
            clear hS hb hgw33
            have hS := hT
            clear hT
            have hS2 := hS
            obtain ⟨hq0, q0, q1, q2, q3, q4, ⟨f5, fr5⟩, q6, q7, q8, hF⟩ := hS2
            have hgl : g < w33.heap.size := hq0.lt
            have hzw : w.heap.size ≤ w33.heap.size := hF.size
            have hz1 : w1.heap.size < w33.heap.size := World.block_lt_of_cell? w33 _ q0
            have hz2 : T < w33.heap.size := World.block_lt_of_cell? w33 _ q2
            have hzk33 : w32.heap.size ≤ w33.heap.size := q4.size
            have hz3 : w32.heap.size < w33.heap.size := World.block_lt_of_cell? w33 _ q6
            refine ⟨(fun W => W.cell? ⟨w1.heap.size, 0, none⟩ = some (.int .i64 (x)) ∧ W.cell? ⟨w1.heap.size, 1, none⟩ = some (.int .i64 (y)) ∧ W.cell? ⟨T, 0, none⟩ = some (.int .i64 (u)) ∧ W.cell? ⟨T, 1, none⟩ = some (.int .i64 (v)) ∧ w.grownBy W (some g)), ⟨hS.2.1, hS.2.2.1, hS.2.2.2.1, hS.2.2.2.2.1, hS.2.2.2.2.2.2.2.2.2.2⟩, (fun W h => h), ?_⟩
            simp only [Act.put, pa, pb, pc]
            repeat (first
              | ((refine seq_skip (by rfl) (by rfl) ?_); simp only [Act.put, pa, pb, pc])
              | ((refine seq_val (v := ?_) (by rfl) (by rfl) (fun w hS => ?_) ?_); rotate_left; (focus ((try dsimp only at hS); go_simp; (try (with_reducible rfl)); done)); simp only [Act.put, pa, pb, pc]))
            refine seq_call (f := ?_) (args := ?_) (by rfl) (by rfl) ?_ ?_
            rotate_left
            rotate_left
            focus (go_simp; (constructor <;> (with_reducible rfl)); done)
            refine (l7Of_ex x y o (by omega) (by omega) _).mono ?_
            rintro e w34 ⟨a, b, rfl, hb⟩
            have hT := ai (hq0.below hb) <| ai (kc hb q0) <| ai (kc hb q1) <| ai (kc hb q2) <| ai (kc hb q3) <| ai (gb_below q4 hb) <| ai (kf hb f5 fr5) <| ai (kc hb q6) <| ai (kc hb q7) <| ai (kc hb q8) <| gb_below hF hb
            clear hS hb
            have hS := hT
            clear hT
            have hS2 := hS
            obtain ⟨hq0, q0, q1, q2, q3, q4, ⟨f5, fr5⟩, q6, q7, q8, hF⟩ := hS2
            have hgl : g < w34.heap.size := hq0.lt
            have hzw : w.heap.size ≤ w34.heap.size := hF.size
            have hz1 : w1.heap.size < w34.heap.size := World.block_lt_of_cell? w34 _ q0
            have hz2 : T < w34.heap.size := World.block_lt_of_cell? w34 _ q2
            have hzk34 : w32.heap.size ≤ w34.heap.size := q4.size
            have hz3 : w32.heap.size < w34.heap.size := World.block_lt_of_cell? w34 _ q6
            refine ⟨_, rfl, (fun W => W.cell? ⟨w1.heap.size, 0, none⟩ = some (.int .i64 (x)) ∧ W.cell? ⟨w1.heap.size, 1, none⟩ = some (.int .i64 (y)) ∧ W.cell? ⟨T, 0, none⟩ = some (.int .i64 (u)) ∧ W.cell? ⟨T, 1, none⟩ = some (.int .i64 (v)) ∧ w.grownBy W (some g)), ⟨hS.2.1, hS.2.2.1, hS.2.2.2.1, hS.2.2.2.2.1, hS.2.2.2.2.2.2.2.2.2.2⟩, (fun W h => h), ?_⟩
            simp only [Act.put, pa, pb, pc]
            repeat (first
              | ((refine seq_skip (by rfl) (by rfl) ?_); simp only [Act.put, pa, pb, pc])
              | ((refine seq_val (v := ?_) (by rfl) (by rfl) (fun w hS => ?_) ?_); rotate_left; (focus ((try dsimp only at hS); go_simp; (try (with_reducible rfl)); done)); simp only [Act.put, pa, pb, pc]))
            refine seq_deed (v := ?_) (w' := ?_) (by rfl) (by rfl) ?_ ?_
            rotate_left
            rotate_left
            focus (go_simp; (constructor <;> (with_reducible rfl)); done)
            generalize hgw35 : World.alloc w34 _ = w35
            have hb : Below w34.heap.size w34 w35 := by rw [← hgw35]; go_grown
            obtain ⟨n9, n0, n1, n2⟩ := al3 hgw35
            have hT := ai (hq0.below hb) <| ai (kc hb q0) <| ai (kc hb q1) <| ai (kc hb q2) <| ai (kc hb q3) <| ai (gb_below q4 hb) <| ai (kf hb f5 fr5) <| ai (kc hb q6) <| ai (kc hb q7) <| ai (kc hb q8) <| ai (n9) <| ai (n0) <| ai (n1) <| ai (n2) <| gb_below (hS.2.2.2.2.2.2.2.2.2.2) hb
            clear n9 n0 n1 n2
            clear hS hb hgw35
            have hS := hT
            clear hT
            have hS2 := hS
            obtain ⟨hq0, q0, q1, q2, q3, q4, ⟨f5, fr5⟩, q6, q7, q8, ⟨f9, fr9⟩, q10, q11, q12, hF⟩ := hS2
            have hgl : g < w35.heap.size := hq0.lt
            have hzw : w.heap.size ≤ w35.heap.size := hF.size
            have hz1 : w1.heap.size < w35.heap.size := World.block_lt_of_cell? w35 _ q0
            have hz2 : T < w35.heap.size := World.block_lt_of_cell? w35 _ q2
            have hzk35 : w32.heap.size ≤ w35.heap.size := q4.size
            have hz3 : w32.heap.size < w35.heap.size := World.block_lt_of_cell? w35 _ q6
            have hz4 : w34.heap.size < w35.heap.size := World.block_lt_of_cell? w35 _ q10
            refine ⟨(fun W => W.cell? ⟨w1.heap.size, 0, none⟩ = some (.int .i64 (x)) ∧ W.cell? ⟨w1.heap.size, 1, none⟩ = some (.int .i64 (y)) ∧ W.cell? ⟨T, 0, none⟩ = some (.int .i64 (u)) ∧ W.cell? ⟨T, 1, none⟩ = some (.int .i64 (v)) ∧ w.grownBy W (some g)), ⟨hS.2.1, hS.2.2.1, hS.2.2.2.1, hS.2.2.2.2.1, hS.2.2.2.2.2.2.2.2.2.2.2.2.2.2⟩, (fun W h => h), ?_⟩
            simp only [Act.put, pa, pb, pc]
            repeat (first
              | ((refine seq_skip (by rfl) (by rfl) ?_); simp only [Act.put, pa, pb, pc])
              | ((refine seq_val (v := ?_) (by rfl) (by rfl) (fun w hS => ?_) ?_); rotate_left; (focus ((try dsimp only at hS); go_simp; (try (with_reducible rfl)); done)); simp only [Act.put, pa, pb, pc]))
            refine seq_call (f := ?_) (args := ?_) (by rfl) (by rfl) ?_ ?_
            rotate_left
            rotate_left
            focus (go_simp; (constructor <;> (with_reducible rfl)); done)
            refine (l7Of_ex u v (!o) (by omega) (by omega) _).mono ?_
            rintro e w36 ⟨a2, b2, rfl, hb⟩
            have hT := ai (hq0.below hb) <| ai (kc hb q0) <| ai (kc hb q1) <| ai (kc hb q2) <| ai (kc hb q3) <| ai (gb_below q4 hb) <| ai (kf hb f5 fr5) <| ai (kc hb q6) <| ai (kc hb q7) <| ai (kc hb q8) <| ai (kf hb f9 fr9) <| ai (kc hb q10) <| ai (kc hb q11) <| ai (kc hb q12) <| gb_below hF hb
            clear hS hb
            have hS := hT
            clear hT
            have hS2 := hS
            obtain ⟨hq0, q0, q1, q2, q3, q4, ⟨f5, fr5⟩, q6, q7, q8, ⟨f9, fr9⟩, q10, q11, q12, hF⟩ := hS2
            have hgl : g < w36.heap.size := hq0.lt
            have hzw : w.heap.size ≤ w36.heap.size := hF.size
            have hz1 : w1.heap.size < w36.heap.size := World.block_lt_of_cell? w36 _ q0
            have hz2 : T < w36.heap.size := World.block_lt_of_cell? w36 _ q2
            have hzk36 : w32.heap.size ≤ w36.heap.size := q4.size
            have hz3 : w32.heap.size < w36.heap.size := World.block_lt_of_cell? w36 _ q6
            have hz4 : w34.heap.size < w36.heap.size := World.block_lt_of_cell? w36 _ q10
            refine ⟨_, rfl, (fun W => W.cell? ⟨w1.heap.size, 0, none⟩ = some (.int .i64 (x)) ∧ W.cell? ⟨w1.heap.size, 1, none⟩ = some (.int .i64 (y)) ∧ W.cell? ⟨T, 0, none⟩ = some (.int .i64 (u)) ∧ W.cell? ⟨T, 1, none⟩ = some (.int .i64 (v)) ∧ w.grownBy W (some g)), ⟨hS.2.1, hS.2.2.1, hS.2.2.2.1, hS.2.2.2.2.1, hS.2.2.2.2.2.2.2.2.2.2.2.2.2.2⟩, (fun W h => h), ?_⟩
            simp only [Act.put, pa, pb, pc]
            repeat (first
              | ((refine seq_skip (by rfl) (by rfl) ?_); simp only [Act.put, pa, pb, pc])
              | ((refine seq_val (v := ?_) (by rfl) (by rfl) (fun w hS => ?_) ?_); rotate_left; (focus ((try dsimp only at hS); go_simp; (try (with_reducible rfl)); done)); simp only [Act.put, pa, pb, pc]))
            obtain ⟨w37, hw37⟩ : ∃ W, W = ((w36.setCell ⟨w32.heap.size, 0, none⟩ (.bool o)).setCell ⟨w32.heap.size, 1, none⟩ (.int .i64 a)).setCell ⟨w32.heap.size, 2, none⟩ (.int .i64 b) := ⟨_, rfl⟩
            obtain ⟨dd0, dd1, dd2, dd3, dd4⟩ := box3_sets q6 q7 q8 (.bool o) (.int .i64 a) (.int .i64 b)
            refine seq_store (w' := w37) (by rfl) (by rfl) (by rw [hw37]; go_simp; (try (with_reducible rfl)); done) ?_
            obtain ⟨dw0, dw1, dw2⟩ := s3w hw37 q6 q7 q8
            have hT := ai (s3c hw37 (by omega) hq0) <| ai (s3o hw37 (by omega) q0) <| ai (s3o hw37 (by omega) q1) <| ai (s3o hw37 (by omega) q2) <| ai (s3o hw37 (by omega) q3) <| ai (s3g hw37 (by omega) q4) <| ai (s3f hw37 f5 fr5) <| ai (dw0) <| ai (dw1) <| ai (dw2) <| ai (s3f hw37 f9 fr9) <| ai (s3o hw37 (by omega) q10) <| ai (s3o hw37 (by omega) q11) <| ai (s3o hw37 (by omega) q12) <| s3g hw37 (by omega) hF
            clear dw0 dw1 dw2
            (try clear hS)
            have hS := hT
            clear hT dd0 dd1 dd2 dd3 dd4 hw37
            have hS2 := hS
            obtain ⟨hq0, q0, q1, q2, q3, q4, ⟨f5, fr5⟩, q6, q7, q8, ⟨f9, fr9⟩, q10, q11, q12, hF⟩ := hS2
            have hgl : g < w37.heap.size := hq0.lt
            have hzw : w.heap.size ≤ w37.heap.size := hF.size
            have hz1 : w1.heap.size < w37.heap.size := World.block_lt_of_cell? w37 _ q0
            have hz2 : T < w37.heap.size := World.block_lt_of_cell? w37 _ q2
            have hzk37 : w32.heap.size ≤ w37.heap.size := q4.size
            have hz3 : w32.heap.size < w37.heap.size := World.block_lt_of_cell? w37 _ q6
            have hz4 : w34.heap.size < w37.heap.size := World.block_lt_of_cell? w37 _ q10
            refine ⟨(fun W => W.cell? ⟨w1.heap.size, 0, none⟩ = some (.int .i64 (x)) ∧ W.cell? ⟨w1.heap.size, 1, none⟩ = some (.int .i64 (y)) ∧ W.cell? ⟨T, 0, none⟩ = some (.int .i64 (u)) ∧ W.cell? ⟨T, 1, none⟩ = some (.int .i64 (v)) ∧ w.grownBy W (some g)), ⟨hS.2.1, hS.2.2.1, hS.2.2.2.1, hS.2.2.2.2.1, hS.2.2.2.2.2.2.2.2.2.2.2.2.2.2⟩, (fun W h => h), ?_⟩
            simp only [Act.put, pa, pb, pc]
            repeat (first
              | ((refine seq_skip (by rfl) (by rfl) ?_); simp only [Act.put, pa, pb, pc])
              | ((refine seq_val (v := ?_) (by rfl) (by rfl) (fun w hS => ?_) ?_); rotate_left; (focus ((try dsimp only at hS); go_simp; (try (with_reducible rfl)); done)); simp only [Act.put, pa, pb, pc]))
            obtain ⟨w38, hw38⟩ : ∃ W, W = ((w37.setCell ⟨w34.heap.size, 0, none⟩ (.bool (!o))).setCell ⟨w34.heap.size, 1, none⟩ (.int .i64 a2)).setCell ⟨w34.heap.size, 2, none⟩ (.int .i64 b2) := ⟨_, rfl⟩
            obtain ⟨dd0, dd1, dd2, dd3, dd4⟩ := box3_sets q10 q11 q12 (.bool (!o)) (.int .i64 a2) (.int .i64 b2)
            refine seq_store (w' := w38) (by rfl) (by rfl) (by rw [hw38]; go_simp; (try (with_reducible rfl)); done) ?_
            obtain ⟨dw0, dw1, dw2⟩ := s3w hw38 q10 q11 q12
            have hT := ai (s3c hw38 (by omega) hq0) <| ai (s3o hw38 (by omega) q0) <| ai (s3o hw38 (by omega) q1) <| ai (s3o hw38 (by omega) q2) <| ai (s3o hw38 (by omega) q3) <| ai (s3g hw38 (by omega) q4) <| ai (s3f hw38 f5 fr5) <| ai (s3o hw38 (by omega) q6) <| ai (s3o hw38 (by omega) q7) <| ai (s3o hw38 (by omega) q8) <| ai (s3f hw38 f9 fr9) <| ai (dw0) <| ai (dw1) <| ai (dw2) <| s3g hw38 (by omega) hF
            clear dw0 dw1 dw2
            (try clear hS)
            have hS := hT
            clear hT dd0 dd1 dd2 dd3 dd4 hw38
            have hS2 := hS
            obtain ⟨hq0, q0, q1, q2, q3, q4, ⟨f5, fr5⟩, q6, q7, q8, ⟨f9, fr9⟩, q10, q11, q12, hF⟩ := hS2
            have hgl : g < w38.heap.size := hq0.lt
            have hzw : w.heap.size ≤ w38.heap.size := hF.size
            have hz1 : w1.heap.size < w38.heap.size := World.block_lt_of_cell? w38 _ q0
            have hz2 : T < w38.heap.size := World.block_lt_of_cell? w38 _ q2
            have hzk38 : w32.heap.size ≤ w38.heap.size := q4.size
            have hz3 : w32.heap.size < w38.heap.size := World.block_lt_of_cell? w38 _ q6
            have hz4 : w34.heap.size < w38.heap.size := World.block_lt_of_cell? w38 _ q10
            refine ⟨(fun W => W.cell? ⟨w1.heap.size, 0, none⟩ = some (.int .i64 (x)) ∧ W.cell? ⟨w1.heap.size, 1, none⟩ = some (.int .i64 (y)) ∧ W.cell? ⟨T, 0, none⟩ = some (.int .i64 (u)) ∧ W.cell? ⟨T, 1, none⟩ = some (.int .i64 (v)) ∧ w.grownBy W (some g)), ⟨hS.2.1, hS.2.2.1, hS.2.2.2.1, hS.2.2.2.2.1, hS.2.2.2.2.2.2.2.2.2.2.2.2.2.2⟩, (fun W h => h), ?_⟩
            simp only [Act.put, pa, pb, pc]
            repeat (first
              | ((refine seq_skip (by rfl) (by rfl) ?_); simp only [Act.put, pa, pb, pc])
              | ((refine seq_val (v := ?_) (by rfl) (by rfl) (fun w hS => ?_) ?_); rotate_left; (focus ((try dsimp only at hS); go_simp; (try (with_reducible rfl)); done)); simp only [Act.put, pa, pb, pc]))
            refine seq_nil ?_
            go_wp2_with fail
            go_meet
            case rel => exact ⟨w32.heap.size, w34.heap.size, a, b, a2, b2, rfl, rfl, ⟨by omega, by omega, by omega⟩, hS.1, gf (hS.2.2.2.2.2.1) (HK9.out.2.1).1 (HK9.out.2.1).2 (by omega), gc (hS.2.2.2.2.2.1) (HK9.out.2.2.1) (by omega), gc (hS.2.2.2.2.2.1) (HK9.out.2.2.2.1) (by omega), gc (hS.2.2.2.2.2.1) (HK9.out.2.2.2.2.1) (by omega), gf (hS.2.2.2.2.2.1) (HK9.out.2.2.2.2.2.1).1 (HK9.out.2.2.2.2.2.1).2 (by omega), gc (hS.2.2.2.2.2.1) (HK9.out.2.2.2.2.2.2.1) (by omega), gc (hS.2.2.2.2.2.1) (HK9.out.2.2.2.2.2.2.2.1) (by omega), gc (hS.2.2.2.2.2.1) (HK9.out.2.2.2.2.2.2.2.2.1) (by omega), hS.2.2.2.2.2.2.1, hS.2.2.2.2.2.2.2.1, hS.2.2.2.2.2.2.2.2.1, hS.2.2.2.2.2.2.2.2.2.1, hS.2.2.2.2.2.2.2.2.2.2.1, hS.2.2.2.2.2.2.2.2.2.2.2.1, hS.2.2.2.2.2.2.2.2.2.2.2.2.1, hS.2.2.2.2.2.2.2.2.2.2.2.2.2.1, hS.2.2.2.2.2.2.2.2.2.2.2.2.2.2⟩
          · refine all_seq_core [0, 1, 3, 4, 5, 7, 2, 6, 8, 9, 10] (fun W => W.cell? ⟨w1.heap.size, 0, none⟩ = some (.int .i64 (x)) ∧ W.cell? ⟨w1.heap.size, 1, none⟩ = some (.int .i64 (y)) ∧ W.cell? ⟨T, 0, none⟩ = some (.int .i64 (u)) ∧ W.cell? ⟨T, 1, none⟩ = some (.int .i64 (v)) ∧ w.grownBy W (some g)) (Core.trans (Core.trans (Core.trans (addE_core 7 2 _) (addE_core 7 8 _)) (addE_core 2 8 _)) (addE_core 6 8 _)) (by kernel_rfl) ⟨hS.2.1, hS.2.2.1, hS.2.2.2.1, hS.2.2.2.2.1, hS.2.2.2.2.2.2⟩ ?_
            simp only [byNum, List.getElem?_cons_zero, List.getElem?_cons_succ]
            repeat (first
              | ((refine seq_skip (by rfl) (by rfl) ?_); simp only [Act.put, pa, pb, pc])
              | ((refine seq_val (v := ?_) (by rfl) (by rfl) (fun w hS => ?_) ?_); rotate_left; (focus ((try dsimp only at hS); go_simp; (try (with_reducible rfl)); done)); simp only [Act.put, pa, pb, pc]))
            refine seq_deed (v := ?_) (w' := ?_) (by rfl) (by rfl) ?_ ?_
            rotate_left
            rotate_left
            focus (go_simp; (constructor <;> (with_reducible rfl)); done)
            generalize hgw33 : World.alloc w32 _ = w33
            have hb : Below w32.heap.size w32 w33 := by rw [← hgw33]; go_grown
            obtain ⟨n9, n0, n1, n2⟩ := al3 hgw33
            have hT := ai (hq0.below hb) <| ai (kc hb q0) <| ai (kc hb q1) <| ai (kc hb q2) <| ai (kc hb q3) <| ai (gb_below q4 hb) <| ai (n9) <| ai (n0) <| ai (n1) <| ai (n2) <| gb_below (hS.2.2.2.2.2.2) hb
            clear n9 n0 n1 n2
            clear hS hb hgw33
            have hS := hT
            clear hT
            have hS2 := hS
            obtain ⟨hq0, q0, q1, q2, q3, q4, ⟨f5, fr5⟩, q6, q7, q8, hF⟩ := hS2
            have hgl : g < w33.heap.size := hq0.lt
            have hzw : w.heap.size ≤ w33.heap.size := hF.size
            have hz1 : w1.heap.size < w33.heap.size := World.block_lt_of_cell? w33 _ q0
            have hz2 : T < w33.heap.size := World.block_lt_of_cell? w33 _ q2
            have hzk33 : w32.heap.size ≤ w33.heap.size := q4.size
            have hz3 : w32.heap.size < w33.heap.size := World.block_lt_of_cell? w33 _ q6
            refine ⟨(fun W => W.cell? ⟨w1.heap.size, 0, none⟩ = some (.int .i64 (x)) ∧ W.cell? ⟨w1.heap.size, 1, none⟩ = some (.int .i64 (y)) ∧ W.cell? ⟨T, 0, none⟩ = some (.int .i64 (u)) ∧ W.cell? ⟨T, 1, none⟩ = some (.int .i64 (v)) ∧ w.grownBy W (some g)), ⟨hS.2.1, hS.2.2.1, hS.2.2.2.1, hS.2.2.2.2.1, hS.2.2.2.2.2.2.2.2.2.2⟩, (fun W h => h), ?_⟩
            simp only [Act.put, pa, pb, pc]
            repeat (first
              | ((refine seq_skip (by rfl) (by rfl) ?_); simp only [Act.put, pa, pb, pc])
              | ((refine seq_val (v := ?_) (by rfl) (by rfl) (fun w hS => ?_) ?_); rotate_left; (focus ((try dsimp only at hS); go_simp; (try (with_reducible rfl)); done)); simp only [Act.put, pa, pb, pc]))
            refine seq_call (f := ?_) (args := ?_) (by rfl) (by rfl) ?_ ?_
            rotate_left
            rotate_left
            focus (go_simp; (constructor <;> (with_reducible rfl)); done)
            refine (l7Of_ex x y o (by omega) (by omega) _).mono ?_
            rintro e w34 ⟨a, b, rfl, hb⟩
            have hT := ai (hq0.below hb) <| ai (kc hb q0) <| ai (kc hb q1) <| ai (kc hb q2) <| ai (kc hb q3) <| ai (gb_below q4 hb) <| ai (kf hb f5 fr5) <| ai (kc hb q6) <| ai (kc hb q7) <| ai (kc hb q8) <| gb_below hF hb
            clear hS hb
            have hS := hT
            clear hT
            have hS2 := hS
            obtain ⟨hq0, q0, q1, q2, q3, q4, ⟨f5, fr5⟩, q6, q7, q8, hF⟩ := hS2
            have hgl : g < w34.heap.size := hq0.lt
            have hzw : w.heap.size ≤ w34.heap.size := hF.size
            have hz1 : w1.heap.size < w34.heap.size := World.block_lt_of_cell? w34 _ q0
            have hz2 : T < w34.heap.size := World.block_lt_of_cell? w34 _ q2
            have hzk34 : w32.heap.size ≤ w34.heap.size := q4.size
            have hz3 : w32.heap.size < w34.heap.size := World.block_lt_of_cell? w34 _ q6
            refine ⟨_, rfl, (fun W => W.cell? ⟨w1.heap.size, 0, none⟩ = some (.int .i64 (x)) ∧ W.cell? ⟨w1.heap.size, 1, none⟩ = some (.int .i64 (y)) ∧ W.cell? ⟨T, 0, none⟩ = some (.int .i64 (u)) ∧ W.cell? ⟨T, 1, none⟩ = some (.int .i64 (v)) ∧ w.grownBy W (some g)), ⟨hS.2.1, hS.2.2.1, hS.2.2.2.1, hS.2.2.2.2.1, hS.2.2.2.2.2.2.2.2.2.2⟩, (fun W h => h), ?_⟩
            simp only [Act.put, pa, pb, pc]
            repeat (first
              | ((refine seq_skip (by rfl) (by rfl) ?_); simp only [Act.put, pa, pb, pc])
              | ((refine seq_val (v := ?_) (by rfl) (by rfl) (fun w hS => ?_) ?_); rotate_left; (focus ((try dsimp only at hS); go_simp; (try (with_reducible rfl)); done)); simp only [Act.put, pa, pb, pc]))
            refine seq_call (f := ?_) (args := ?_) (by rfl) (by rfl) ?_ ?_
            rotate_left
            rotate_left
            focus (go_simp; (constructor <;> (with_reducible rfl)); done)
            refine (l7Of_ex u v (!o) (by omega) (by omega) _).mono ?_
            rintro e w35 ⟨a2, b2, rfl, hb⟩
            have hT := ai (hq0.below hb) <| ai (kc hb q0) <| ai (kc hb q1) <| ai (kc hb q2) <| ai (kc hb q3) <| ai (gb_below q4 hb) <| ai (kf hb f5 fr5) <| ai (kc hb q6) <| ai (kc hb q7) <| ai (kc hb q8) <| gb_below hF hb
            clear hS hb
            have hS := hT
            clear hT
            have hS2 := hS
            obtain ⟨hq0, q0, q1, q2, q3, q4, ⟨f5, fr5⟩, q6, q7, q8, hF⟩ := hS2
            have hgl : g < w35.heap.size := hq0.lt
            have hzw : w.heap.size ≤ w35.heap.size := hF.size
            have hz1 : w1.heap.size < w35.heap.size := World.block_lt_of_cell? w35 _ q0
            have hz2 : T < w35.heap.size := World.block_lt_of_cell? w35 _ q2
            have hzk35 : w32.heap.size ≤ w35.heap.size := q4.size
            have hz3 : w32.heap.size < w35.heap.size := World.block_lt_of_cell? w35 _ q6
            refine ⟨_, rfl, (fun W => W.cell? ⟨w1.heap.size, 0, none⟩ = some (.int .i64 (x)) ∧ W.cell? ⟨w1.heap.size, 1, none⟩ = some (.int .i64 (y)) ∧ W.cell? ⟨T, 0, none⟩ = some (.int .i64 (u)) ∧ W.cell? ⟨T, 1, none⟩ = some (.int .i64 (v)) ∧ w.grownBy W (some g)), ⟨hS.2.1, hS.2.2.1, hS.2.2.2.1, hS.2.2.2.2.1, hS.2.2.2.2.2.2.2.2.2.2⟩, (fun W h => h), ?_⟩
            simp only [Act.put, pa, pb, pc]
            repeat (first
              | ((refine seq_skip (by rfl) (by rfl) ?_); simp only [Act.put, pa, pb, pc])
              | ((refine seq_val (v := ?_) (by rfl) (by rfl) (fun w hS => ?_) ?_); rotate_left; (focus ((try dsimp only at hS); go_simp; (try (with_reducible rfl)); done)); simp only [Act.put, pa, pb, pc]))
            refine seq_deed (v := ?_) (w' := ?_) (by rfl) (by rfl) ?_ ?_
            rotate_left
            rotate_left
            focus (go_simp; (constructor <;> (with_reducible rfl)); done)
            generalize hgw36 : World.alloc w35 _ = w36
            have hb : Below w35.heap.size w35 w36 := by rw [← hgw36]; go_grown
            obtain ⟨n9, n0, n1, n2⟩ := al3 hgw36
            have hT := ai (hq0.below hb) <| ai (kc hb q0) <| ai (kc hb q1) <| ai (kc hb q2) <| ai (kc hb q3) <| ai (gb_below q4 hb) <| ai (kf hb f5 fr5) <| ai (kc hb q6) <| ai (kc hb q7) <| ai (kc hb q8) <| ai (n9) <| ai (n0) <| ai (n1) <| ai (n2) <| gb_below (hS.2.2.2.2.2.2.2.2.2.2) hb
            clear n9 n0 n1 n2
            clear hS hb hgw36
            have hS := hT
            clear hT
            have hS2 := hS
            obtain ⟨hq0, q0, q1, q2, q3, q4, ⟨f5, fr5⟩, q6, q7, q8, ⟨f9, fr9⟩, q10, q11, q12, hF⟩ := hS2
            have hgl : g < w36.heap.size := hq0.lt
            have hzw : w.heap.size ≤ w36.heap.size := hF.size
            have hz1 : w1.heap.size < w36.heap.size := World.block_lt_of_cell? w36 _ q0
            have hz2 : T < w36.heap.size := World.block_lt_of_cell? w36 _ q2
            have hzk36 : w32.heap.size ≤ w36.heap.size := q4.size
            have hz3 : w32.heap.size < w36.heap.size := World.block_lt_of_cell? w36 _ q6
            have hz4 : w35.heap.size < w36.heap.size := World.block_lt_of_cell? w36 _ q10
            refine ⟨(fun W => W.cell? ⟨w1.heap.size, 0, none⟩ = some (.int .i64 (x)) ∧ W.cell? ⟨w1.heap.size, 1, none⟩ = some (.int .i64 (y)) ∧ W.cell? ⟨T, 0, none⟩ = some (.int .i64 (u)) ∧ W.cell? ⟨T, 1, none⟩ = some (.int .i64 (v)) ∧ w.grownBy W (some g)), ⟨hS.2.1, hS.2.2.1, hS.2.2.2.1, hS.2.2.2.2.1, hS.2.2.2.2.2.2.2.2.2.2.2.2.2.2⟩, (fun W h => h), ?_⟩
            simp only [Act.put, pa, pb, pc]
            repeat (first
              | ((refine seq_skip (by rfl) (by rfl) ?_); simp only [Act.put, pa, pb, pc])
              | ((refine seq_val (v := ?_) (by rfl) (by rfl) (fun w hS => ?_) ?_); rotate_left; (focus ((try dsimp only at hS); go_simp; (try (with_reducible rfl)); done)); simp only [Act.put, pa, pb, pc]))
            obtain ⟨w37, hw37⟩ : ∃ W, W = ((w36.setCell ⟨w32.heap.size, 0, none⟩ (.bool o)).setCell ⟨w32.heap.size, 1, none⟩ (.int .i64 a)).setCell ⟨w32.heap.size, 2, none⟩ (.int .i64 b) := ⟨_, rfl⟩
            obtain ⟨dd0, dd1, dd2, dd3, dd4⟩ := box3_sets q6 q7 q8 (.bool o) (.int .i64 a) (.int .i64 b)
            refine seq_store (w' := w37) (by rfl) (by rfl) (by rw [hw37]; go_simp; (try (with_reducible rfl)); done) ?_
            obtain ⟨dw0, dw1, dw2⟩ := s3w hw37 q6 q7 q8
            have hT := ai (s3c hw37 (by omega) hq0) <| ai (s3o hw37 (by omega) q0) <| ai (s3o hw37 (by omega) q1) <| ai (s3o hw37 (by omega) q2) <| ai (s3o hw37 (by omega) q3) <| ai (s3g hw37 (by omega) q4) <| ai (s3f hw37 f5 fr5) <| ai (dw0) <| ai (dw1) <| ai (dw2) <| ai (s3f hw37 f9 fr9) <| ai (s3o hw37 (by omega) q10) <| ai (s3o hw37 (by omega) q11) <| ai (s3o hw37 (by omega) q12) <| s3g hw37 (by omega) hF
            clear dw0 dw1 dw2
            (try clear hS)
            have hS := hT
            clear hT dd0 dd1 dd2 dd3 dd4 hw37
            have hS2 := hS
            obtain ⟨hq0, q0, q1, q2, q3, q4, ⟨f5, fr5⟩, q6, q7, q8, ⟨f9, fr9⟩, q10, q11, q12, hF⟩ := hS2
            have hgl : g < w37.heap.size := hq0.lt
            have hzw : w.heap.size ≤ w37.heap.size := hF.size
            have hz1 : w1.heap.size < w37.heap.size := World.block_lt_of_cell? w37 _ q0
            have hz2 : T < w37.heap.size := World.block_lt_of_cell? w37 _ q2
            have hzk37 : w32.heap.size ≤ w37.heap.size := q4.size
            have hz3 : w32.heap.size < w37.heap.size := World.block_lt_of_cell? w37 _ q6
            have hz4 : w35.heap.size < w37.heap.size := World.block_lt_of_cell? w37 _ q10
            refine ⟨(fun W => W.cell? ⟨w1.heap.size, 0, none⟩ = some (.int .i64 (x)) ∧ W.cell? ⟨w1.heap.size, 1, none⟩ = some (.int .i64 (y)) ∧ W.cell? ⟨T, 0, none⟩ = some (.int .i64 (u)) ∧ W.cell? ⟨T, 1, none⟩ = some (.int .i64 (v)) ∧ w.grownBy W (some g)), ⟨hS.2.1, hS.2.2.1, hS.2.2.2.1, hS.2.2.2.2.1, hS.2.2.2.2.2.2.2.2.2.2.2.2.2.2⟩, (fun W h => h), ?_⟩
            simp only [Act.put, pa, pb, pc]
            repeat (first
              | ((refine seq_skip (by rfl) (by rfl) ?_); simp only [Act.put, pa, pb, pc])
              | ((refine seq_val (v := ?_) (by rfl) (by rfl) (fun w hS => ?_) ?_); rotate_left; (focus ((try dsimp only at hS); go_simp; (try (with_reducible rfl)); done)); simp only [Act.put, pa, pb, pc]))
            obtain ⟨w38, hw38⟩ : ∃ W, W = ((w37.setCell ⟨w35.heap.size, 0, none⟩ (.bool (!o))).setCell ⟨w35.heap.size, 1, none⟩ (.int .i64 a2)).setCell ⟨w35.heap.size, 2, none⟩ (.int .i64 b2) := ⟨_, rfl⟩
            obtain ⟨dd0, dd1, dd2, dd3, dd4⟩ := box3_sets q10 q11 q12 (.bool (!o)) (.int .i64 a2) (.int .i64 b2)
            refine seq_store (w' := w38) (by rfl) (by rfl) (by rw [hw38]; go_simp; (try (with_reducible rfl)); done) ?_
            obtain ⟨dw0, dw1, dw2⟩ := s3w hw38 q10 q11 q12
            have hT := ai (s3c hw38 (by omega) hq0) <| ai (s3o hw38 (by omega) q0) <| ai (s3o hw38 (by omega) q1) <| ai (s3o hw38 (by omega) q2) <| ai (s3o hw38 (by omega) q3) <| ai (s3g hw38 (by omega) q4) <| ai (s3f hw38 f5 fr5) <| ai (s3o hw38 (by omega) q6) <| ai (s3o hw38 (by omega) q7) <| ai (s3o hw38 (by omega) q8) <| ai (s3f hw38 f9 fr9) <| ai (dw0) <| ai (dw1) <| ai (dw2) <| s3g hw38 (by omega) hF
            clear dw0 dw1 dw2
            (try clear hS)
            have hS := hT
            clear hT dd0 dd1 dd2 dd3 dd4 hw38
            have hS2 := hS
            obtain ⟨hq0, q0, q1, q2, q3, q4, ⟨f5, fr5⟩, q6, q7, q8, ⟨f9, fr9⟩, q10, q11, q12, hF⟩ := hS2
            have hgl : g < w38.heap.size := hq0.lt
            have hzw : w.heap.size ≤ w38.heap.size := hF.size
            have hz1 : w1.heap.size < w38.heap.size := World.block_lt_of_cell? w38 _ q0
            have hz2 : T < w38.heap.size := World.block_lt_of_cell? w38 _ q2
            have hzk38 : w32.heap.size ≤ w38.heap.size := q4.size
            have hz3 : w32.heap.size < w38.heap.size := World.block_lt_of_cell? w38 _ q6
            have hz4 : w35.heap.size < w38.heap.size := World.block_lt_of_cell? w38 _ q10
            refine ⟨(fun W => W.cell? ⟨w1.heap.size, 0, none⟩ = some (.int .i64 (x)) ∧ W.cell? ⟨w1.heap.size, 1, none⟩ = some (.int .i64 (y)) ∧ W.cell? ⟨T, 0, none⟩ = some (.int .i64 (u)) ∧ W.cell? ⟨T, 1, none⟩ = some (.int .i64 (v)) ∧ w.grownBy W (some g)), ⟨hS.2.1, hS.2.2.1, hS.2.2.2.1, hS.2.2.2.2.1, hS.2.2.2.2.2.2.2.2.2.2.2.2.2.2⟩, (fun W h => h), ?_⟩
            simp only [Act.put, pa, pb, pc]
            repeat (first
              | ((refine seq_skip (by rfl) (by rfl) ?_); simp only [Act.put, pa, pb, pc])
              | ((refine seq_val (v := ?_) (by rfl) (by rfl) (fun w hS => ?_) ?_); rotate_left; (focus ((try dsimp only at hS); go_simp; (try (with_reducible rfl)); done)); simp only [Act.put, pa, pb, pc]))
            refine seq_nil ?_
            go_wp2_with fail
            go_meet
            case rel => exact ⟨w32.heap.size, w35.heap.size, a, b, a2, b2, rfl, rfl, ⟨by omega, by omega, by omega⟩, hS.1, gf (hS.2.2.2.2.2.1) (HK9.out.2.1).1 (HK9.out.2.1).2 (by omega), gc (hS.2.2.2.2.2.1) (HK9.out.2.2.1) (by omega), gc (hS.2.2.2.2.2.1) (HK9.out.2.2.2.1) (by omega), gc (hS.2.2.2.2.2.1) (HK9.out.2.2.2.2.1) (by omega), gf (hS.2.2.2.2.2.1) (HK9.out.2.2.2.2.2.1).1 (HK9.out.2.2.2.2.2.1).2 (by omega), gc (hS.2.2.2.2.2.1) (HK9.out.2.2.2.2.2.2.1) (by omega), gc (hS.2.2.2.2.2.1) (HK9.out.2.2.2.2.2.2.2.1) (by omega), gc (hS.2.2.2.2.2.1) (HK9.out.2.2.2.2.2.2.2.2.1) (by omega), hS.2.2.2.2.2.2.1, hS.2.2.2.2.2.2.2.1, hS.2.2.2.2.2.2.2.2.1, hS.2.2.2.2.2.2.2.2.2.1, hS.2.2.2.2.2.2.2.2.2.2.1, hS.2.2.2.2.2.2.2.2.2.2.2.1, hS.2.2.2.2.2.2.2.2.2.2.2.2.1, hS.2.2.2.2.2.2.2.2.2.2.2.2.2.1, hS.2.2.2.2.2.2.2.2.2.2.2.2.2.2⟩
    · refine all_split 7 6 (by decide) ?_ ?_
      · refine all_split 8 2 (by decide) ?_ ?_
        · refine all_seq_core [0, 1, 3, 4, 5, 8, 2, 7, 6, 9, 10] (fun W => W.cell? ⟨w1.heap.size, 0, none⟩ = some (.int .i64 (x)) ∧ W.cell? ⟨w1.heap.size, 1, none⟩ = some (.int .i64 (y)) ∧ W.cell? ⟨T, 0, none⟩ = some (.int .i64 (u)) ∧ W.cell? ⟨T, 1, none⟩ = some (.int .i64 (v)) ∧ w.grownBy W (some g)) (Core.trans (Core.trans (addE_core 2 7 _) (addE_core 7 6 _)) (addE_core 8 2 _)) (by kernel_rfl) ⟨hS.2.1, hS.2.2.1, hS.2.2.2.1, hS.2.2.2.2.1, hS.2.2.2.2.2.2⟩ ?_
          simp only [byNum, List.getElem?_cons_zero, List.getElem?_cons_succ]
          repeat (first
            | ((refine seq_skip (by rfl) (by rfl) ?_); simp only [Act.put, pa, pb, pc])
            | ((refine seq_val (v := ?_) (by rfl) (by rfl) (fun w hS => ?_) ?_); rotate_left; (focus ((try dsimp only at hS); go_simp; (try (with_reducible rfl)); done)); simp only [Act.put, pa, pb, pc]))
          refine seq_deed (v := ?_) (w' := ?_) (by rfl) (by rfl) ?_ ?_
          rotate_left
          rotate_left
          focus (go_simp; (constructor <;> (with_reducible rfl)); done)
          generalize hgw33 : World.alloc w32 _ = w33
          have hb : Below w32.heap.size w32 w33 := by rw [← hgw33]; go_grown
          obtain ⟨n9, n0, n1, n2⟩ := al3 hgw33
          have hT := ai (hq0.below hb) <| ai (kc hb q0) <| ai (kc hb q1) <| ai (kc hb q2) <| ai (kc hb q3) <| ai (gb_below q4 hb) <| ai (n9) <| ai (n0) <| ai (n1) <| ai (n2) <| gb_below (hS.2.2.2.2.2.2) hb
          clear n9 n0 n1 n2
          clear hS hb hgw33
          have hS := hT
          clear hT
          have hS2 := hS
          obtain ⟨hq0, q0, q1, q2, q3, q4, ⟨f5, fr5⟩, q6, q7, q8, hF⟩ := hS2
          have hgl : g < w33.heap.size := hq0.lt
          have hzw : w.heap.size ≤ w33.heap.size := hF.size
          have hz1 : w1.heap.size < w33.heap.size := World.block_lt_of_cell? w33 _ q0
          have hz2 : T < w33.heap.size := World.block_lt_of_cell? w33 _ q2
          have hzk33 : w32.heap.size ≤ w33.heap.size := q4.size
          have hz3 : w32.heap.size < w33.heap.size := World.block_lt_of_cell? w33 _ q6
          refine ⟨(fun W => W.cell? ⟨w1.heap.size, 0, none⟩ = some (.int .i64 (x)) ∧ W.cell? ⟨w1.heap.size, 1, none⟩ = some (.int .i64 (y)) ∧ W.cell? ⟨T, 0, none⟩ = some (.int .i64 (u)) ∧ W.cell? ⟨T, 1, none⟩ = some (.int .i64 (v)) ∧ w.grownBy W (some g)), ⟨hS.2.1, hS.2.2.1, hS.2.2.2.1, hS.2.2.2.2.1, hS.2.2.2.2.2.2.2.2.2.2⟩, (fun W h => h), ?_⟩
          simp only [Act.put, pa, pb, pc]
          repeat (first
            | ((refine seq_skip (by rfl) (by rfl) ?_); simp only [Act.put, pa, pb, pc])
            | ((refine seq_val (v := ?_) (by rfl) (by rfl) (fun w hS => ?_) ?_); rotate_left; (focus ((try dsimp only at hS); go_simp; (try (with_reducible rfl)); done)); simp only [Act.put, pa, pb, pc]))
          refine seq_call (f := ?_) (args := ?_) (by rfl) (by rfl) ?_ ?_
          rotate_left
          rotate_left
          focus (go_simp; (constructor <;> (with_reducible rfl)); done)
          refine (l7Of_ex x y o (by omega) (by omega) _).mono ?_
          rintro e w34 ⟨a, b, rfl, hb⟩
          have hT := ai (hq0.below hb) <| ai (kc hb q0) <| ai (kc hb q1) <| ai (kc hb q2) <| ai (kc hb q3) <| ai (gb_below q4 hb) <| ai (kf hb f5 fr5) <| ai (kc hb q6) <| ai (kc hb q7) <| ai (kc hb q8) <| gb_below hF hb
          clear hS hb
          have hS := hT
          clear hT
          have hS2 := hS
          obtain ⟨hq0, q0, q1, q2, q3, q4, ⟨f5, fr5⟩, q6, q7, q8, hF⟩ := hS2
          have hgl : g < w34.heap.size := hq0.lt
          have hzw : w.heap.size ≤ w34.heap.size := hF.size
          have hz1 : w1.heap.size < w34.heap.size := World.block_lt_of_cell? w34 _ q0
          have hz2 : T < w34.heap.size := World.block_lt_of_cell? w34 _ q2
          have hzk34 : w32.heap.size ≤ w34.heap.size := q4.size
          have hz3 : w32.heap.size < w34.heap.size := World.block_lt_of_cell? w34 _ q6
          refine ⟨_, rfl, (fun W => W.cell? ⟨w1.heap.size, 0, none⟩ = some (.int .i64 (x)) ∧ W.cell? ⟨w1.heap.size, 1, none⟩ = some (.int .i64 (y)) ∧ W.cell? ⟨T, 0, none⟩ = some (.int .i64 (u)) ∧ W.cell? ⟨T, 1, none⟩ = some (.int .i64 (v)) ∧ w.grownBy W (some g)), ⟨hS.2.1, hS.2.2.1, hS.2.2.2.1, hS.2.2.2.2.1, hS.2.2.2.2.2.2.2.2.2.2⟩, (fun W h => h), ?_⟩
          simp only [Act.put, pa, pb, pc]
          repeat (first
            | ((refine seq_skip (by rfl) (by rfl) ?_); simp only [Act.put, pa, pb, pc])
            | ((refine seq_val (v := ?_) (by rfl) (by rfl) (fun w hS => ?_) ?_); rotate_left; (focus ((try dsimp only at hS); go_simp; (try (with_reducible rfl)); done)); simp only [Act.put, pa, pb, pc]))
          refine seq_deed (v := ?_) (w' := ?_) (by rfl) (by rfl) ?_ ?_
          rotate_left
          rotate_left
          focus (go_simp; (constructor <;> (with_reducible rfl)); done)
          generalize hgw35 : World.alloc w34 _ = w35
          have hb : Below w34.heap.size w34 w35 := by rw [← hgw35]; go_grown
          obtain ⟨n9, n0, n1, n2⟩ := al3 hgw35
          have hT := ai (hq0.below hb) <| ai (kc hb q0) <| ai (kc hb q1) <| ai (kc hb q2) <| ai (kc hb q3) <| ai (gb_below q4 hb) <| ai (kf hb f5 fr5) <| ai (kc hb q6) <| ai (kc hb q7) <| ai (kc hb q8) <| ai (n9) <| ai (n0) <| ai (n1) <| ai (n2) <| gb_below (hS.2.2.2.2.2.2.2.2.2.2) hb
          clear n9 n0 n1 n2
          clear hS hb hgw35
          have hS := hT
          clear hT
          have hS2 := hS
          obtain ⟨hq0, q0, q1, q2, q3, q4, ⟨f5, fr5⟩, q6, q7, q8, ⟨f9, fr9⟩, q10, q11, q12, hF⟩ := hS2
          have hgl : g < w35.heap.size := hq0.lt
          have hzw : w.heap.size ≤ w35.heap.size := hF.size
          have hz1 : w1.heap.size < w35.heap.size := World.block_lt_of_cell? w35 _ q0
          have hz2 : T < w35.heap.size := World.block_lt_of_cell? w35 _ q2
          have hzk35 : w32.heap.size ≤ w35.heap.size := q4.size
          have hz3 : w32.heap.size < w35.heap.size := World.block_lt_of_cell? w35 _ q6
          have hz4 : w34.heap.size < w35.heap.size := World.block_lt_of_cell? w35 _ q10
          refine ⟨(fun W => W.cell? ⟨w1.heap.size, 0, none⟩ = some (.int .i64 (x)) ∧ W.cell? ⟨w1.heap.size, 1, none⟩ = some (.int .i64 (y)) ∧ W.cell? ⟨T, 0, none⟩ = some (.int .i64 (u)) ∧ W.cell? ⟨T, 1, none⟩ = some (.int .i64 (v)) ∧ w.grownBy W (some g)), ⟨hS.2.1, hS.2.2.1, hS.2.2.2.1, hS.2.2.2.2.1, hS.2.2.2.2.2.2.2.2.2.2.2.2.2.2⟩, (fun W h => h), ?_⟩
          simp only [Act.put, pa, pb, pc]
          repeat (first
            | ((refine seq_skip (by rfl) (by rfl) ?_); simp only [Act.put, pa, pb, pc])
            | ((refine seq_val (v := ?_) (by rfl) (by rfl) (fun w hS => ?_) ?_); rotate_left; (focus ((try dsimp only at hS); go_simp; (try (with_reducible rfl)); done)); simp only [Act.put, pa, pb, pc]))
          refine seq_call (f := ?_) (args := ?_) (by rfl) (by rfl) ?_ ?_
          rotate_left
          rotate_left
          focus (go_simp; (constructor <;> (with_reducible rfl)); done)
          refine (l7Of_ex u v (!o) (by omega) (by omega) _).mono ?_
          rintro e w36 ⟨a2, b2, rfl, hb⟩
          have hT := ai (hq0.below hb) <| ai (kc hb q0) <| ai (kc hb q1) <| ai (kc hb q2) <| ai (kc hb q3) <| ai (gb_below q4 hb) <| ai (kf hb f5 fr5) <| ai (kc hb q6) <| ai (kc hb q7) <| ai (kc hb q8) <| ai (kf hb f9 fr9) <| ai (kc hb q10) <| ai (kc hb q11) <| ai (kc hb q12) <| gb_below hF hb
          clear hS hb
          have hS := hT
          clear hT
          have hS2 := hS
          obtain ⟨hq0, q0, q1, q2, q3, q4, ⟨f5, fr5⟩, q6, q7, q8, ⟨f9, fr9⟩, q10, q11, q12, hF⟩ := hS2
          have hgl : g < w36.heap.size := hq0.lt
          have hzw : w.heap.size ≤ w36.heap.size := hF.size
          have hz1 : w1.heap.size < w36.heap.size := World.block_lt_of_cell? w36 _ q0
          have hz2 : T < w36.heap.size := World.block_lt_of_cell? w36 _ q2
          have hzk36 : w32.heap.size ≤ w36.heap.size := q4.size
          have hz3 : w32.heap.size < w36.heap.size := World.block_lt_of_cell? w36 _ q6
          have hz4 : w34.heap.size < w36.heap.size := World.block_lt_of_cell? w36 _ q10
          refine ⟨_, rfl, (fun W => W.cell? ⟨w1.heap.size, 0, none⟩ = some (.int .i64 (x)) ∧ W.cell? ⟨w1.heap.size, 1, none⟩ = some (.int .i64 (y)) ∧ W.cell? ⟨T, 0, none⟩ = some (.int .i64 (u)) ∧ W.cell? ⟨T, 1, none⟩ = some (.int .i64 (v)) ∧ w.grownBy W (some g)), ⟨hS.2.1, hS.2.2.1, hS.2.2.2.1, hS.2.2.2.2.1, hS.2.2.2.2.2.2.2.2.2.2.2.2.2.2⟩, (fun W h => h), ?_⟩
          simp only [Act.put, pa, pb, pc]
          repeat (first
            | ((refine seq_skip (by rfl) (by rfl) ?_); simp only [Act.put, pa, pb, pc])
            | ((refine seq_val (v := ?_) (by rfl) (by rfl) (fun w hS => ?_) ?_); rotate_left; (focus ((try dsimp only at hS); go_simp; (try (with_reducible rfl)); done)); simp only [Act.put, pa, pb, pc]))
          obtain ⟨w37, hw37⟩ : ∃ W, W = ((w36.setCell ⟨w34.heap.size, 0, none⟩ (.bool o)).setCell ⟨w34.heap.size, 1, none⟩ (.int .i64 a)).setCell ⟨w34.heap.size, 2, none⟩ (.int .i64 b) := ⟨_, rfl⟩
          obtain ⟨dd0, dd1, dd2, dd3, dd4⟩ := box3_sets q10 q11 q12 (.bool o) (.int .i64 a) (.int .i64 b)
          refine seq_store (w' := w37) (by rfl) (by rfl) (by rw [hw37]; go_simp; (try (with_reducible rfl)); done) ?_
          obtain ⟨dw0, dw1, dw2⟩ := s3w hw37 q10 q11 q12
          have hT := ai (s3c hw37 (by omega) hq0) <| ai (s3o hw37 (by omega) q0) <| ai (s3o hw37 (by omega) q1) <| ai (s3o hw37 (by omega) q2) <| ai (s3o hw37 (by omega) q3) <| ai (s3g hw37 (by omega) q4) <| ai (s3f hw37 f5 fr5) <| ai (s3o hw37 (by omega) q6) <| ai (s3o hw37 (by omega) q7) <| ai (s3o hw37 (by omega) q8) <| ai (s3f hw37 f9 fr9) <| ai (dw0) <| ai (dw1) <| ai (dw2) <| s3g hw37 (by omega) hF
          clear dw0 dw1 dw2
          (try clear hS)
          have hS := hT
          clear hT dd0 dd1 dd2 dd3 dd4 hw37
          have hS2 := hS
          obtain ⟨hq0, q0, q1, q2, q3, q4, ⟨f5, fr5⟩, q6, q7, q8, ⟨f9, fr9⟩, q10, q11, q12, hF⟩ := hS2
          have hgl : g < w37.heap.size := hq0.lt
          have hzw : w.heap.size ≤ w37.heap.size := hF.size
          have hz1 : w1.heap.size < w37.heap.size := World.block_lt_of_cell? w37 _ q0
          have hz2 : T < w37.heap.size := World.block_lt_of_cell? w37 _ q2
          have hzk37 : w32.heap.size ≤ w37.heap.size := q4.size
          have hz3 : w32.heap.size < w37.heap.size := World.block_lt_of_cell? w37 _ q6
          have hz4 : w34.heap.size < w37.heap.size := World.block_lt_of_cell? w37 _ q10
          refine ⟨(fun W => W.cell? ⟨w1.heap.size, 0, none⟩ = some (.int .i64 (x)) ∧ W.cell? ⟨w1.heap.size, 1, none⟩ = some (.int .i64 (y)) ∧ W.cell? ⟨T, 0, none⟩ = some (.int .i64 (u)) ∧ W.cell? ⟨T, 1, none⟩ = some (.int .i64 (v)) ∧ w.grownBy W (some g)), ⟨hS.2.1, hS.2.2.1, hS.2.2.2.1, hS.2.2.2.2.1, hS.2.2.2.2.2.2.2.2.2.2.2.2.2.2⟩, (fun W h => h), ?_⟩
          simp only [Act.put, pa, pb, pc]
          repeat (first
            | ((refine seq_skip (by rfl) (by rfl) ?_); simp only [Act.put, pa, pb, pc])
            | ((refine seq_val (v := ?_) (by rfl) (by rfl) (fun w hS => ?_) ?_); rotate_left; (focus ((try dsimp only at hS); go_simp; (try (with_reducible rfl)); done)); simp only [Act.put, pa, pb, pc]))
          obtain ⟨w38, hw38⟩ : ∃ W, W = ((w37.setCell ⟨w32.heap.size, 0, none⟩ (.bool (!o))).setCell ⟨w32.heap.size, 1, none⟩ (.int .i64 a2)).setCell ⟨w32.heap.size, 2, none⟩ (.int .i64 b2) := ⟨_, rfl⟩
          obtain ⟨dd0, dd1, dd2, dd3, dd4⟩ := box3_sets q6 q7 q8 (.bool (!o)) (.int .i64 a2) (.int .i64 b2)
          refine seq_store (w' := w38) (by rfl) (by rfl) (by rw [hw38]; go_simp; (try (with_reducible rfl)); done) ?_
          obtain ⟨dw0, dw1, dw2⟩ := s3w hw38 q6 q7 q8
          have hT := ai (s3c hw38 (by omega) hq0) <| ai (s3o hw38 (by omega) q0) <| ai (s3o hw38 (by omega) q1) <| ai (s3o hw38 (by omega) q2) <| ai (s3o hw38 (by omega) q3) <| ai (s3g hw38 (by omega) q4) <| ai (s3f hw38 f5 fr5) <| ai (dw0) <| ai (dw1) <| ai (dw2) <| ai (s3f hw38 f9 fr9) <| ai (s3o hw38 (by omega) q10) <| ai (s3o hw38 (by omega) q11) <| ai (s3o hw38 (by omega) q12) <| s3g hw38 (by omega) hF
          clear dw0 dw1 dw2
          (try clear hS)
          have hS := hT
          clear hT dd0 dd1 dd2 dd3 dd4 hw38
          have hS2 := hS
          obtain ⟨hq0, q0, q1, q2, q3, q4, ⟨f5, fr5⟩, q6, q7, q8, ⟨f9, fr9⟩, q10, q11, q12, hF⟩ := hS2
          have hgl : g < w38.heap.size := hq0.lt
          have hzw : w.heap.size ≤ w38.heap.size := hF.size
          have hz1 : w1.heap.size < w38.heap.size := World.block_lt_of_cell? w38 _ q0
          have hz2 : T < w38.heap.size := World.block_lt_of_cell? w38 _ q2
          have hzk38 : w32.heap.size ≤ w38.heap.size := q4.size
          have hz3 : w32.heap.size < w38.heap.size := World.block_lt_of_cell? w38 _ q6
          have hz4 : w34.heap.size < w38.heap.size := World.block_lt_of_cell? w38 _ q10
          refine ⟨(fun W => W.cell? ⟨w1.heap.size, 0, none⟩ = some (.int .i64 (x)) ∧ W.cell? ⟨w1.heap.size, 1, none⟩ = some (.int .i64 (y)) ∧ W.cell? ⟨T, 0, none⟩ = some (.int .i64 (u)) ∧ W.cell? ⟨T, 1, none⟩ = some (.int .i64 (v)) ∧ w.grownBy W (some g)), ⟨hS.2.1, hS.2.2.1, hS.2.2.2.1, hS.2.2.2.2.1, hS.2.2.2.2.2.2.2.2.2.2.2.2.2.2⟩, (fun W h => h), ?_⟩
          simp only [Act.put, pa, pb, pc]
          repeat (first
            | ((refine seq_skip (by rfl) (by rfl) ?_); simp only [Act.put, pa, pb, pc])
            | ((refine seq_val (v := ?_) (by rfl) (by rfl) (fun w hS => ?_) ?_); rotate_left; (focus ((try dsimp only at hS); go_simp; (try (with_reducible rfl)); done)); simp only [Act.put, pa, pb, pc]))
          refine seq_nil ?_
          go_wp2_with fail
          go_meet
          case rel => exact ⟨w34.heap.size, w32.heap.size, a, b, a2, b2, rfl, rfl, ⟨by omega, by omega, by omega⟩, hS.1, gf (hS.2.2.2.2.2.1) (HK9.out.2.1).1 (HK9.out.2.1).2 (by omega), gc (hS.2.2.2.2.2.1) (HK9.out.2.2.1) (by omega), gc (hS.2.2.2.2.2.1) (HK9.out.2.2.2.1) (by omega), gc (hS.2.2.2.2.2.1) (HK9.out.2.2.2.2.1) (by omega), gf (hS.2.2.2.2.2.1) (HK9.out.2.2.2.2.2.1).1 (HK9.out.2.2.2.2.2.1).2 (by omega), gc (hS.2.2.2.2.2.1) (HK9.out.2.2.2.2.2.2.1) (by omega), gc (hS.2.2.2.2.2.1) (HK9.out.2.2.2.2.2.2.2.1) (by omega), gc (hS.2.2.2.2.2.1) (HK9.out.2.2.2.2.2.2.2.2.1) (by omega), hS.2.2.2.2.2.2.2.2.2.2.1, hS.2.2.2.2.2.2.2.2.2.2.2.1, hS.2.2.2.2.2.2.2.2.2.2.2.2.1, hS.2.2.2.2.2.2.2.2.2.2.2.2.2.1, hS.2.2.2.2.2.2.1, hS.2.2.2.2.2.2.2.1, hS.2.2.2.2.2.2.2.2.1, hS.2.2.2.2.2.2.2.2.2.1, hS.2.2.2.2.2.2.2.2.2.2.2.2.2.2⟩
        · refine all_split 8 7 (by decide) ?_ ?_
          · refine all_seq_core [0, 1, 3, 4, 5, 2, 8, 7, 6, 9, 10] (fun W => W.cell? ⟨w1.heap.size, 0, none⟩ = some (.int .i64 (x)) ∧ W.cell? ⟨w1.heap.size, 1, none⟩ = some (.int .i64 (y)) ∧ W.cell? ⟨T, 0, none⟩ = some (.int .i64 (u)) ∧ W.cell? ⟨T, 1, none⟩ = some (.int .i64 (v)) ∧ w.grownBy W (some g)) (Core.trans (Core.trans (Core.trans (addE_core 2 7 _) (addE_core 7 6 _)) (addE_core 2 8 _)) (addE_core 8 7 _)) (by kernel_rfl) ⟨hS.2.1, hS.2.2.1, hS.2.2.2.1, hS.2.2.2.2.1, hS.2.2.2.2.2.2⟩ ?_
            simp only [byNum, List.getElem?_cons_zero, List.getElem?_cons_succ]
            repeat (first
              | ((refine seq_skip (by rfl) (by rfl) ?_); simp only [Act.put, pa, pb, pc])
              | ((refine seq_val (v := ?_) (by rfl) (by rfl) (fun w hS => ?_) ?_); rotate_left; (focus ((try dsimp only at hS); go_simp; (try (with_reducible rfl)); done)); simp only [Act.put, pa, pb, pc]))
            refine seq_call (f := ?_) (args := ?_) (by rfl) (by rfl) ?_ ?_
            rotate_left
            rotate_left
            focus (go_simp; (constructor <;> (with_reducible rfl)); done)
            refine (l7Of_ex x y o (by omega) (by omega) _).mono ?_
            rintro e w33 ⟨a, b, rfl, hb⟩
            have hT := ai (hq0.below hb) <| ai (kc hb q0) <| ai (kc hb q1) <| ai (kc hb q2) <| ai (kc hb q3) <| ai (gb_below q4 hb) <| gb_below hF hb
            clear hS hb
            have hS := hT
            clear hT
            have hS2 := hS
            obtain ⟨hq0, q0, q1, q2, q3, q4, hF⟩ := hS2
            have hgl : g < w33.heap.size := hq0.lt
            have hzw : w.heap.size ≤ w33.heap.size := hF.size
            have hz1 : w1.heap.size < w33.heap.size := World.block_lt_of_cell? w33 _ q0
            have hz2 : T < w33.heap.size := World.block_lt_of_cell? w33 _ q2
            have hzk33 : w32.heap.size ≤ w33.heap.size := q4.size
            refine ⟨_, rfl, (fun W => W.cell? ⟨w1.heap.size, 0, none⟩ = some (.int .i64 (x)) ∧ W.cell? ⟨w1.heap.size, 1, none⟩ = some (.int .i64 (y)) ∧ W.cell? ⟨T, 0, none⟩ = some (.int .i64 (u)) ∧ W.cell? ⟨T, 1, none⟩ = some (.int .i64 (v)) ∧ w.grownBy W (some g)), ⟨hS.2.1, hS.2.2.1, hS.2.2.2.1, hS.2.2.2.2.1, hS.2.2.2.2.2.2⟩, (fun W h => h), ?_⟩
            simp only [Act.put, pa, pb, pc]
            repeat (first
              | ((refine seq_skip (by rfl) (by rfl) ?_); simp only [Act.put, pa, pb, pc])
              | ((refine seq_val (v := ?_) (by rfl) (by rfl) (fun w hS => ?_) ?_); rotate_left; (focus ((try dsimp only at hS); go_simp; (try (with_reducible rfl)); done)); simp only [Act.put, pa, pb, pc]))
            refine seq_deed (v := ?_) (w' := ?_) (by rfl) (by rfl) ?_ ?_
            rotate_left
            rotate_left
            focus (go_simp; (constructor <;> (with_reducible rfl)); done)
            generalize hgw34 : World.alloc w33 _ = w34
            have hb : Below w33.heap.size w33 w34 := by rw [← hgw34]; go_grown
            obtain ⟨n9, n0, n1, n2⟩ := al3 hgw34
            have hT := ai (hq0.below hb) <| ai (kc hb q0) <| ai (kc hb q1) <| ai (kc hb q2) <| ai (kc hb q3) <| ai (gb_below q4 hb) <| ai (n9) <| ai (n0) <| ai (n1) <| ai (n2) <| gb_below (hS.2.2.2.2.2.2) hb
            clear n9 n0 n1 n2
            clear hS hb hgw34
            have hS := hT
            clear hT
            have hS2 := hS
            obtain ⟨hq0, q0, q1, q2, q3, q4, ⟨f5, fr5⟩, q6, q7, q8, hF⟩ := hS2
            have hgl : g < w34.heap.size := hq0.lt
            have hzw : w.heap.size ≤ w34.heap.size := hF.size
            have hz1 : w1.heap.size < w34.heap.size := World.block_lt_of_cell? w34 _ q0
            have hz2 : T < w34.heap.size := World.block_lt_of_cell? w34 _ q2
            have hzk34 : w32.heap.size ≤ w34.heap.size := q4.size
            have hz3 : w33.heap.size < w34.heap.size := World.block_lt_of_cell? w34 _ q6
            refine ⟨(fun W => W.cell? ⟨w1.heap.size, 0, none⟩ = some (.int .i64 (x)) ∧ W.cell? ⟨w1.heap.size, 1, none⟩ = some (.int .i64 (y)) ∧ W.cell? ⟨T, 0, none⟩ = some (.int .i64 (u)) ∧ W.cell? ⟨T, 1, none⟩ = some (.int .i64 (v)) ∧ w.grownBy W (some g)), ⟨hS.2.1, hS.2.2.1, hS.2.2.2.1, hS.2.2.2.2.1, hS.2.2.2.2.2.2.2.2.2.2⟩, (fun W h => h), ?_⟩
            simp only [Act.put, pa, pb, pc]
            repeat (first
              | ((refine seq_skip (by rfl) (by rfl) ?_); simp only [Act.put, pa, pb, pc])
              | ((refine seq_val (v := ?_) (by rfl) (by rfl) (fun w hS => ?_) ?_); rotate_left; (focus ((try dsimp only at hS); go_simp; (try (with_reducible rfl)); done)); simp only [Act.put, pa, pb, pc]))
            refine seq_deed (v := ?_) (w' := ?_) (by rfl) (by rfl) ?_ ?_
            rotate_left
            rotate_left
            focus (go_simp; (constructor <;> (with_reducible rfl)); done)
            generalize hgw35 : World.alloc w34 _ = w35
            have hb : Below w34.heap.size w34 w35 := by rw [← hgw35]; go_grown
            obtain ⟨n9, n0, n1, n2⟩ := al3 hgw35
            have hT := ai (hq0.below hb) <| ai (kc hb q0) <| ai (kc hb q1) <| ai (kc hb q2) <| ai (kc hb q3) <| ai (gb_below q4 hb) <| ai (kf hb f5 fr5) <| ai (kc hb q6) <| ai (kc hb q7) <| ai (kc hb q8) <| ai (n9) <| ai (n0) <| ai (n1) <| ai (n2) <| gb_below (hS.2.2.2.2.2.2.2.2.2.2) hb
            clear n9 n0 n1 n2
            clear hS hb hgw35
            have hS := hT
            clear hT
            have hS2 := hS
            obtain ⟨hq0, q0, q1, q2, q3, q4, ⟨f5, fr5⟩, q6, q7, q8, ⟨f9, fr9⟩, q10, q11, q12, hF⟩ := hS2
            have hgl : g < w35.heap.size := hq0.lt
            have hzw : w.heap.size ≤ w35.heap.size := hF.size
            have hz1 : w1.heap.size < w35.heap.size := World.block_lt_of_cell? w35 _ q0
            have hz2 : T < w35.heap.size := World.block_lt_of_cell? w35 _ q2
            have hzk35 : w32.heap.size ≤ w35.heap.size := q4.size
            have hz3 : w33.heap.size < w35.heap.size := World.block_lt_of_cell? w35 _ q6
            have hz4 : w34.heap.size < w35.heap.size := World.block_lt_of_cell? w35 _ q10
            refine ⟨(fun W => W.cell? ⟨w1.heap.size, 0, none⟩ = some (.int .i64 (x)) ∧ W.cell? ⟨w1.heap.size, 1, none⟩ = some (.int .i64 (y)) ∧ W.cell? ⟨T, 0, none⟩ = some (.int .i64 (u)) ∧ W.cell? ⟨T, 1, none⟩ = some (.int .i64 (v)) ∧ w.grownBy W (some g)), ⟨hS.2.1, hS.2.2.1, hS.2.2.2.1, hS.2.2.2.2.1, hS.2.2.2.2.2.2.2.2.2.2.2.2.2.2⟩, (fun W h => h), ?_⟩
            simp only [Act.put, pa, pb, pc]
            repeat (first
              | ((refine seq_skip (by rfl) (by rfl) ?_); simp only [Act.put, pa, pb, pc])
              | ((refine seq_val (v := ?_) (by rfl) (by rfl) (fun w hS => ?_) ?_); rotate_left; (focus ((try dsimp only at hS); go_simp; (try (with_reducible rfl)); done)); simp only [Act.put, pa, pb, pc]))
            refine seq_call (f := ?_) (args := ?_) (by rfl) (by rfl) ?_ ?_
            rotate_left
            rotate_left
            focus (go_simp; (constructor <;> (with_reducible rfl)); done)
            refine (l7Of_ex u v (!o) (by omega) (by omega) _).mono ?_
            rintro e w36 ⟨a2, b2, rfl, hb⟩
            have hT := ai (hq0.below hb) <| ai (kc hb q0) <| ai (kc hb q1) <| ai (kc hb q2) <| ai (kc hb q3) <| ai (gb_below q4 hb) <| ai (kf hb f5 fr5) <| ai (kc hb q6) <| ai (kc hb q7) <| ai (kc hb q8) <| ai (kf hb f9 fr9) <| ai (kc hb q10) <| ai (kc hb q11) <| ai (kc hb q12) <| gb_below hF hb
            clear hS hb
            have hS := hT
            clear hT
            have hS2 := hS
            obtain ⟨hq0, q0, q1, q2, q3, q4, ⟨f5, fr5⟩, q6, q7, q8, ⟨f9, fr9⟩, q10, q11, q12, hF⟩ := hS2
            have hgl : g < w36.heap.size := hq0.lt
            have hzw : w.heap.size ≤ w36.heap.size := hF.size
            have hz1 : w1.heap.size < w36.heap.size := World.block_lt_of_cell? w36 _ q0
            have hz2 : T < w36.heap.size := World.block_lt_of_cell? w36 _ q2
            have hzk36 : w32.heap.size ≤ w36.heap.size := q4.size
            have hz3 : w33.heap.size < w36.heap.size := World.block_lt_of_cell? w36 _ q6
            have hz4 : w34.heap.size < w36.heap.size := World.block_lt_of_cell? w36 _ q10
            refine ⟨_, rfl, (fun W => W.cell? ⟨w1.heap.size, 0, none⟩ = some (.int .i64 (x)) ∧ W.cell? ⟨w1.heap.size, 1, none⟩ = some (.int .i64 (y)) ∧ W.cell? ⟨T, 0, none⟩ = some (.int .i64 (u)) ∧ W.cell? ⟨T, 1, none⟩ = some (.int .i64 (v)) ∧ w.grownBy W (some g)), ⟨hS.2.1, hS.2.2.1, hS.2.2.2.1, hS.2.2.2.2.1, hS.2.2.2.2.2.2.2.2.2.2.2.2.2.2⟩, (fun W h => h), ?_⟩
            simp only [Act.put, pa, pb, pc]
            repeat (first
              | ((refine seq_skip (by rfl) (by rfl) ?_); simp only [Act.put, pa, pb, pc])
              | ((refine seq_val (v := ?_) (by rfl) (by rfl) (fun w hS => ?_) ?_); rotate_left; (focus ((try dsimp only at hS); go_simp; (try (with_reducible rfl)); done)); simp only [Act.put, pa, pb, pc]))
            obtain ⟨w37, hw37⟩ : ∃ W, W = ((w36.setCell ⟨w34.heap.size, 0, none⟩ (.bool o)).setCell ⟨w34.heap.size, 1, none⟩ (.int .i64 a)).setCell ⟨w34.heap.size, 2, none⟩ (.int .i64 b) := ⟨_, rfl⟩
            obtain ⟨dd0, dd1, dd2, dd3, dd4⟩ := box3_sets q10 q11 q12 (.bool o) (.int .i64 a) (.int .i64 b)
            refine seq_store (w' := w37) (by rfl) (by rfl) (by rw [hw37]; go_simp; (try (with_reducible rfl)); done) ?_
            obtain ⟨dw0, dw1, dw2⟩ := s3w hw37 q10 q11 q12
            have hT := ai (s3c hw37 (by omega) hq0) <| ai (s3o hw37 (by omega) q0) <| ai (s3o hw37 (by omega) q1) <| ai (s3o hw37 (by omega) q2) <| ai (s3o hw37 (by omega) q3) <| ai (s3g hw37 (by omega) q4) <| ai (s3f hw37 f5 fr5) <| ai (s3o hw37 (by omega) q6) <| ai (s3o hw37 (by omega) q7) <| ai (s3o hw37 (by omega) q8) <| ai (s3f hw37 f9 fr9) <| ai (dw0) <| ai (dw1) <| ai (dw2) <| s3g hw37 (by omega) hF
            clear dw0 dw1 dw2
            (try clear hS)
            have hS := hT
            clear hT dd0 dd1 dd2 dd3 dd4 hw37
            have hS2 := hS
            obtain ⟨hq0, q0, q1, q2, q3, q4, ⟨f5, fr5⟩, q6, q7, q8, ⟨f9, fr9⟩, q10, q11, q12, hF⟩ := hS2
            have hgl : g < w37.heap.size := hq0.lt
            have hzw : w.heap.size ≤ w37.heap.size := hF.size
            have hz1 : w1.heap.size < w37.heap.size := World.block_lt_of_cell? w37 _ q0
            have hz2 : T < w37.heap.size := World.block_lt_of_cell? w37 _ q2
            have hzk37 : w32.heap.size ≤ w37.heap.size := q4.size
            have hz3 : w33.heap.size < w37.heap.size := World.block_lt_of_cell? w37 _ q6
            have hz4 : w34.heap.size < w37.heap.size := World.block_lt_of_cell? w37 _ q10
            refine ⟨(fun W => W.cell? ⟨w1.heap.size, 0, none⟩ = some (.int .i64 (x)) ∧ W.cell? ⟨w1.heap.size, 1, none⟩ = some (.int .i64 (y)) ∧ W.cell? ⟨T, 0, none⟩ = some (.int .i64 (u)) ∧ W.cell? ⟨T, 1, none⟩ = some (.int .i64 (v)) ∧ w.grownBy W (some g)), ⟨hS.2.1, hS.2.2.1, hS.2.2.2.1, hS.2.2.2.2.1, hS.2.2.2.2.2.2.2.2.2.2.2.2.2.2⟩, (fun W h => h), ?_⟩
            simp only [Act.put, pa, pb, pc]
            repeat (first
              | ((refine seq_skip (by rfl) (by rfl) ?_); simp only [Act.put, pa, pb, pc])
              | ((refine seq_val (v := ?_) (by rfl) (by rfl) (fun w hS => ?_) ?_); rotate_left; (focus ((try dsimp only at hS); go_simp; (try (with_reducible rfl)); done)); simp only [Act.put, pa, pb, pc]))
            obtain ⟨w38, hw38⟩ : ∃ W, W = ((w37.setCell ⟨w33.heap.size, 0, none⟩ (.bool (!o))).setCell ⟨w33.heap.size, 1, none⟩ (.int .i64 a2)).setCell ⟨w33.heap.size, 2, none⟩ (.int .i64 b2) := ⟨_, rfl⟩
            obtain ⟨dd0, dd1, dd2, dd3, dd4⟩ := box3_sets q6 q7 q8 (.bool (!o)) (.int .i64 a2) (.int .i64 b2)
            refine seq_store (w' := w38) (by rfl) (by rfl) (by rw [hw38]; go_simp; (try (with_reducible rfl)); done) ?_
            obtain ⟨dw0, dw1, dw2⟩ := s3w hw38 q6 q7 q8
            have hT := ai (s3c hw38 (by omega) hq0) <| ai (s3o hw38 (by omega) q0) <| ai (s3o hw38 (by omega) q1) <| ai (s3o hw38 (by omega) q2) <| ai (s3o hw38 (by omega) q3) <| ai (s3g hw38 (by omega) q4) <| ai (s3f hw38 f5 fr5) <| ai (dw0) <| ai (dw1) <| ai (dw2) <| ai (s3f hw38 f9 fr9) <| ai (s3o hw38 (by omega) q10) <| ai (s3o hw38 (by omega) q11) <| ai (s3o hw38 (by omega) q12) <| s3g hw38 (by omega) hF
            clear dw0 dw1 dw2
            (try clear hS)
            have hS := hT
            clear hT dd0 dd1 dd2 dd3 dd4 hw38
            have hS2 := hS
            obtain ⟨hq0, q0, q1, q2, q3, q4, ⟨f5, fr5⟩, q6, q7, q8, ⟨f9, fr9⟩, q10, q11, q12, hF⟩ := hS2
            have hgl : g < w38.heap.size := hq0.lt
            have hzw : w.heap.size ≤ w38.heap.size := hF.size
            have hz1 : w1.heap.size < w38.heap.size := World.block_lt_of_cell? w38 _ q0
            have hz2 : T < w38.heap.size := World.block_lt_of_cell? w38 _ q2
            have hzk38 : w32.heap.size ≤ w38.heap.size := q4.size
            have hz3 : w33.heap.size < w38.heap.size := World.block_lt_of_cell? w38 _ q6
            have hz4 : w34.heap.size < w38.heap.size := World.block_lt_of_cell? w38 _ q10
            refine ⟨(fun W => W.cell? ⟨w1.heap.size, 0, none⟩ = some (.int .i64 (x)) ∧ W.cell? ⟨w1.heap.size, 1, none⟩ = some (.int .i64 (y)) ∧ W.cell? ⟨T, 0, none⟩ = some (.int .i64 (u)) ∧ W.cell? ⟨T, 1, none⟩ = some (.int .i64 (v)) ∧ w.grownBy W (some g)), ⟨hS.2.1, hS.2.2.1, hS.2.2.2.1, hS.2.2.2.2.1, hS.2.2.2.2.2.2.2.2.2.2.2.2.2.2⟩, (fun W h => h), ?_⟩
            simp only [Act.put, pa, pb, pc]
            repeat (first
              | ((refine seq_skip (by rfl) (by rfl) ?_); simp only [Act.put, pa, pb, pc])
              | ((refine seq_val (v := ?_) (by rfl) (by rfl) (fun w hS => ?_) ?_); rotate_left; (focus ((try dsimp only at hS); go_simp; (try (with_reducible rfl)); done)); simp only [Act.put, pa, pb, pc]))
            refine seq_nil ?_
            go_wp2_with fail
            go_meet
            case rel => exact ⟨w34.heap.size, w33.heap.size, a, b, a2, b2, rfl, rfl, ⟨by omega, by omega, by omega⟩, hS.1, gf (hS.2.2.2.2.2.1) (HK9.out.2.1).1 (HK9.out.2.1).2 (by omega), gc (hS.2.2.2.2.2.1) (HK9.out.2.2.1) (by omega), gc (hS.2.2.2.2.2.1) (HK9.out.2.2.2.1) (by omega), gc (hS.2.2.2.2.2.1) (HK9.out.2.2.2.2.1) (by omega), gf (hS.2.2.2.2.2.1) (HK9.out.2.2.2.2.2.1).1 (HK9.out.2.2.2.2.2.1).2 (by omega), gc (hS.2.2.2.2.2.1) (HK9.out.2.2.2.2.2.2.1) (by omega), gc (hS.2.2.2.2.2.1) (HK9.out.2.2.2.2.2.2.2.1) (by omega), gc (hS.2.2.2.2.2.1) (HK9.out.2.2.2.2.2.2.2.2.1) (by omega), hS.2.2.2.2.2.2.2.2.2.2.1, hS.2.2.2.2.2.2.2.2.2.2.2.1, hS.2.2.2.2.2.2.2.2.2.2.2.2.1, hS.2.2.2.2.2.2.2.2.2.2.2.2.2.1, hS.2.2.2.2.2.2.1, hS.2.2.2.2.2.2.2.1, hS.2.2.2.2.2.2.2.2.1, hS.2.2.2.2.2.2.2.2.2.1, hS.2.2.2.2.2.2.2.2.2.2.2.2.2.2⟩
          · refine all_split 8 6 (by decide) ?_ ?_
            · refine all_seq_core [0, 1, 3, 4, 5, 2, 7, 8, 6, 9, 10] (fun W => W.cell? ⟨w1.heap.size, 0, none⟩ = some (.int .i64 (x)) ∧ W.cell? ⟨w1.heap.size, 1, none⟩ = some (.int .i64 (y)) ∧ W.cell? ⟨T, 0, none⟩ = some (.int .i64 (u)) ∧ W.cell? ⟨T, 1, none⟩ = some (.int .i64 (v)) ∧ w.grownBy W (some g)) (Core.trans (Core.trans (Core.trans (Core.trans (addE_core 2 7 _) (addE_core 7 6 _)) (addE_core 2 8 _)) (addE_core 7 8 _)) (addE_core 8 6 _)) (by kernel_rfl) ⟨hS.2.1, hS.2.2.1, hS.2.2.2.1, hS.2.2.2.2.1, hS.2.2.2.2.2.2⟩ ?_
              simp only [byNum, List.getElem?_cons_zero, List.getElem?_cons_succ]
              repeat (first
                | ((refine seq_skip (by rfl) (by rfl) ?_); simp only [Act.put, pa, pb, pc])
                | ((refine seq_val (v := ?_) (by rfl) (by rfl) (fun w hS => ?_) ?_); rotate_left; (focus ((try dsimp only at hS); go_simp; (try (with_reducible rfl)); done)); simp only [Act.put, pa, pb, pc]))
              refine seq_call (f := ?_) (args := ?_) (by rfl) (by rfl) ?_ ?_
              rotate_left
              rotate_left
              focus (go_simp; (constructor <;> (with_reducible rfl)); done)
              refine (l7Of_ex x y o (by omega) (by omega) _).mono ?_
              rintro e w33 ⟨a, b, rfl, hb⟩
              have hT := ai (hq0.below hb) <| ai (kc hb q0) <| ai (kc hb q1) <| ai (kc hb q2) <| ai (kc hb q3) <| ai (gb_below q4 hb) <| gb_below hF hb
              clear hS hb
              have hS := hT
              clear hT
              have hS2 := hS
              obtain ⟨hq0, q0, q1, q2, q3, q4, hF⟩ := hS2
              have hgl : g < w33.heap.size := hq0.lt
              have hzw : w.heap.size ≤ w33.heap.size := hF.size
              have hz1 : w1.heap.size < w33.heap.size := World.block_lt_of_cell? w33 _ q0
              have hz2 : T < w33.heap.size := World.block_lt_of_cell? w33 _ q2
              have hzk33 : w32.heap.size ≤ w33.heap.size := q4.size
              refine ⟨_, rfl, (fun W => W.cell? ⟨w1.heap.size, 0, none⟩ = some (.int .i64 (x)) ∧ W.cell? ⟨w1.heap.size, 1, none⟩ = some (.int .i64 (y)) ∧ W.cell? ⟨T, 0, none⟩ = some (.int .i64 (u)) ∧ W.cell? ⟨T, 1, none⟩ = some (.int .i64 (v)) ∧ w.grownBy W (some g)), ⟨hS.2.1, hS.2.2.1, hS.2.2.2.1, hS.2.2.2.2.1, hS.2.2.2.2.2.2⟩, (fun W h => h), ?_⟩
              simp only [Act.put, pa, pb, pc]
              repeat (first
                | ((refine seq_skip (by rfl) (by rfl) ?_); simp only [Act.put, pa, pb, pc])
                | ((refine seq_val (v := ?_) (by rfl) (by rfl) (fun w hS => ?_) ?_); rotate_left; (focus ((try dsimp only at hS); go_simp; (try (with_reducible rfl)); done)); simp only [Act.put, pa, pb, pc]))
              refine seq_deed (v := ?_) (w' := ?_) (by rfl) (by rfl) ?_ ?_
              rotate_left
              rotate_left
              focus (go_simp; (constructor <;> (with_reducible rfl)); done)
              generalize hgw34 : World.alloc w33 _ = w34
              have hb : Below w33.heap.size w33 w34 := by rw [← hgw34]; go_grown
              obtain ⟨n9, n0, n1, n2⟩ := al3 hgw34
              have hT := ai (hq0.below hb) <| ai (kc hb q0) <| ai (kc hb q1) <| ai (kc hb q2) <| ai (kc hb q3) <| ai (gb_below q4 hb) <| ai (n9) <| ai (n0) <| ai (n1) <| ai (n2) <| gb_below (hS.2.2.2.2.2.2) hb
              clear n9 n0 n1 n2
              clear hS hb hgw34
              have hS := hT
              clear hT
              have hS2 := hS
              obtain ⟨hq0, q0, q1, q2, q3, q4, ⟨f5, fr5⟩, q6, q7, q8, hF⟩ := hS2
              have hgl : g < w34.heap.size := hq0.lt
              have hzw : w.heap.size ≤ w34.heap.size := hF.size
              have hz1 : w1.heap.size < w34.heap.size := World.block_lt_of_cell? w34 _ q0
              have hz2 : T < w34.heap.size := World.block_lt_of_cell? w34 _ q2
              have hzk34 : w32.heap.size ≤ w34.heap.size := q4.size
              have hz3 : w33.heap.size < w34.heap.size := World.block_lt_of_cell? w34 _ q6
              refine ⟨(fun W => W.cell? ⟨w1.heap.size, 0, none⟩ = some (.int .i64 (x)) ∧ W.cell? ⟨w1.heap.size, 1, none⟩ = some (.int .i64 (y)) ∧ W.cell? ⟨T, 0, none⟩ = some (.int .i64 (u)) ∧ W.cell? ⟨T, 1, none⟩ = some (.int .i64 (v)) ∧ w.grownBy W (some g)), ⟨hS.2.1, hS.2.2.1, hS.2.2.2.1, hS.2.2.2.2.1, hS.2.2.2.2.2.2.2.2.2.2⟩, (fun W h => h), ?_⟩
              simp only [Act.put, pa, pb, pc]
              repeat (first
                | ((refine seq_skip (by rfl) (by rfl) ?_); simp only [Act.put, pa, pb, pc])
                | ((refine seq_val (v := ?_) (by rfl) (by rfl) (fun w hS => ?_) ?_); rotate_left; (focus ((try dsimp only at hS); go_simp; (try (with_reducible rfl)); done)); simp only [Act.put, pa, pb, pc]))
              refine seq_deed (v := ?_) (w' := ?_) (by rfl) (by rfl) ?_ ?_
              rotate_left
              rotate_left
              focus (go_simp; (constructor <;> (with_reducible rfl)); done)
              generalize hgw35 : World.alloc w34 _ = w35
              have hb : Below w34.heap.size w34 w35 := by rw [← hgw35]; go_grown
              obtain ⟨n9, n0, n1, n2⟩ := al3 hgw35
              have hT := ai (hq0.below hb) <| ai (kc hb q0) <| ai (kc hb q1) <| ai (kc hb q2) <| ai (kc hb q3) <| ai (gb_below q4 hb) <| ai (kf hb f5 fr5) <| ai (kc hb q6) <| ai (kc hb q7) <| ai (kc hb q8) <| ai (n9) <| ai (n0) <| ai (n1) <| ai (n2) <| gb_below (hS.2.2.2.2.2.2.2.2.2.2) hb
              clear n9 n0 n1 n2
              clear hS hb hgw35
              have hS := hT
              clear hT
              have hS2 := hS
              obtain ⟨hq0, q0, q1, q2, q3, q4, ⟨f5, fr5⟩, q6, q7, q8, ⟨f9, fr9⟩, q10, q11, q12, hF⟩ := hS2
              have hgl : g < w35.heap.size := hq0.lt
              have hzw : w.heap.size ≤ w35.heap.size := hF.size
              have hz1 : w1.heap.size < w35.heap.size := World.block_lt_of_cell? w35 _ q0
              have hz2 : T < w35.heap.size := World.block_lt_of_cell? w35 _ q2
              have hzk35 : w32.heap.size ≤ w35.heap.size := q4.size
              have hz3 : w33.heap.size < w35.heap.size := World.block_lt_of_cell? w35 _ q6
              have hz4 : w34.heap.size < w35.heap.size := World.block_lt_of_cell? w35 _ q10
              refine ⟨(fun W => W.cell? ⟨w1.heap.size, 0, none⟩ = some (.int .i64 (x)) ∧ W.cell? ⟨w1.heap.size, 1, none⟩ = some (.int .i64 (y)) ∧ W.cell? ⟨T, 0, none⟩ = some (.int .i64 (u)) ∧ W.cell? ⟨T, 1, none⟩ = some (.int .i64 (v)) ∧ w.grownBy W (some g)), ⟨hS.2.1, hS.2.2.1, hS.2.2.2.1, hS.2.2.2.2.1, hS.2.2.2.2.2.2.2.2.2.2.2.2.2.2⟩, (fun W h => h), ?_⟩
              simp only [Act.put, pa, pb, pc]
              repeat (first
                | ((refine seq_skip (by rfl) (by rfl) ?_); simp only [Act.put, pa, pb, pc])
                | ((refine seq_val (v := ?_) (by rfl) (by rfl) (fun w hS => ?_) ?_); rotate_left; (focus ((try dsimp only at hS); go_simp; (try (with_reducible rfl)); done)); simp only [Act.put, pa, pb, pc]))
              refine seq_call (f := ?_) (args := ?_) (by rfl) (by rfl) ?_ ?_
              rotate_left
              rotate_left
              focus (go_simp; (constructor <;> (with_reducible rfl)); done)
              refine (l7Of_ex u v (!o) (by omega) (by omega) _).mono ?_
              rintro e w36 ⟨a2, b2, rfl, hb⟩
              have hT := ai (hq0.below hb) <| ai (kc hb q0) <| ai (kc hb q1) <| ai (kc hb q2) <| ai (kc hb q3) <| ai (gb_below q4 hb) <| ai (kf hb f5 fr5) <| ai (kc hb q6) <| ai (kc hb q7) <| ai (kc hb q8) <| ai (kf hb f9 fr9) <| ai (kc hb q10) <| ai (kc hb q11) <| ai (kc hb q12) <| gb_below hF hb
              clear hS hb
              have hS := hT
              clear hT
              have hS2 := hS
              obtain ⟨hq0, q0, q1, q2, q3, q4, ⟨f5, fr5⟩, q6, q7, q8, ⟨f9, fr9⟩, q10, q11, q12, hF⟩ := hS2
              have hgl : g < w36.heap.size := hq0.lt
              have hzw : w.heap.size ≤ w36.heap.size := hF.size
              have hz1 : w1.heap.size < w36.heap.size := World.block_lt_of_cell? w36 _ q0
              have hz2 : T < w36.heap.size := World.block_lt_of_cell? w36 _ q2
              have hzk36 : w32.heap.size ≤ w36.heap.size := q4.size
              have hz3 : w33.heap.size < w36.heap.size := World.block_lt_of_cell? w36 _ q6
              have hz4 : w34.heap.size < w36.heap.size := World.block_lt_of_cell? w36 _ q10
              refine ⟨_, rfl, (fun W => W.cell? ⟨w1.heap.size, 0, none⟩ = some (.int .i64 (x)) ∧ W.cell? ⟨w1.heap.size, 1, none⟩ = some (.int .i64 (y)) ∧ W.cell? ⟨T, 0, none⟩ = some (.int .i64 (u)) ∧ W.cell? ⟨T, 1, none⟩ = some (.int .i64 (v)) ∧ w.grownBy W (some g)), ⟨hS.2.1, hS.2.2.1, hS.2.2.2.1, hS.2.2.2.2.1, hS.2.2.2.2.2.2.2.2.2.2.2.2.2.2⟩, (fun W h => h), ?_⟩
              simp only [Act.put, pa, pb, pc]
              repeat (first
                | ((refine seq_skip (by rfl) (by rfl) ?_); simp only [Act.put, pa, pb, pc])
                | ((refine seq_val (v := ?_) (by rfl) (by rfl) (fun w hS => ?_) ?_); rotate_left; (focus ((try dsimp only at hS); go_simp; (try (with_reducible rfl)); done)); simp only [Act.put, pa, pb, pc]))
              obtain ⟨w37, hw37⟩ : ∃ W, W = ((w36.setCell ⟨w33.heap.size, 0, none⟩ (.bool o)).setCell ⟨w33.heap.size, 1, none⟩ (.int .i64 a)).setCell ⟨w33.heap.size, 2, none⟩ (.int .i64 b) := ⟨_, rfl⟩
              obtain ⟨dd0, dd1, dd2, dd3, dd4⟩ := box3_sets q6 q7 q8 (.bool o) (.int .i64 a) (.int .i64 b)
              refine seq_store (w' := w37) (by rfl) (by rfl) (by rw [hw37]; go_simp; (try (with_reducible rfl)); done) ?_
              obtain ⟨dw0, dw1, dw2⟩ := s3w hw37 q6 q7 q8
              have hT := ai (s3c hw37 (by omega) hq0) <| ai (s3o hw37 (by omega) q0) <| ai (s3o hw37 (by omega) q1) <| ai (s3o hw37 (by omega) q2) <| ai (s3o hw37 (by omega) q3) <| ai (s3g hw37 (by omega) q4) <| ai (s3f hw37 f5 fr5) <| ai (dw0) <| ai (dw1) <| ai (dw2) <| ai (s3f hw37 f9 fr9) <| ai (s3o hw37 (by omega) q10) <| ai (s3o hw37 (by omega) q11) <| ai (s3o hw37 (by omega) q12) <| s3g hw37 (by omega) hF
              clear dw0 dw1 dw2
              (try clear hS)
              have hS := hT
              clear hT dd0 dd1 dd2 dd3 dd4 hw37
              have hS2 := hS
              obtain ⟨hq0, q0, q1, q2, q3, q4, ⟨f5, fr5⟩, q6, q7, q8, ⟨f9, fr9⟩, q10, q11, q12, hF⟩ := hS2
              have hgl : g < w37.heap.size := hq0.lt
              have hzw : w.heap.size ≤ w37.heap.size := hF.size
              have hz1 : w1.heap.size < w37.heap.size := World.block_lt_of_cell? w37 _ q0
              have hz2 : T < w37.heap.size := World.block_lt_of_cell? w37 _ q2
              have hzk37 : w32.heap.size ≤ w37.heap.size := q4.size
              have hz3 : w33.heap.size < w37.heap.size := World.block_lt_of_cell? w37 _ q6
              have hz4 : w34.heap.size < w37.heap.size := World.block_lt_of_cell? w37 _ q10
              refine ⟨(fun W => W.cell? ⟨w1.heap.size, 0, none⟩ = some (.int .i64 (x)) ∧ W.cell? ⟨w1.heap.size, 1, none⟩ = some (.int .i64 (y)) ∧ W.cell? ⟨T, 0, none⟩ = some (.int .i64 (u)) ∧ W.cell? ⟨T, 1, none⟩ = some (.int .i64 (v)) ∧ w.grownBy W (some g)), ⟨hS.2.1, hS.2.2.1, hS.2.2.2.1, hS.2.2.2.2.1, hS.2.2.2.2.2.2.2.2.2.2.2.2.2.2⟩, (fun W h => h), ?_⟩
              simp only [Act.put, pa, pb, pc]
              repeat (first
                | ((refine seq_skip (by rfl) (by rfl) ?_); simp only [Act.put, pa, pb, pc])
                | ((refine seq_val (v := ?_) (by rfl) (by rfl) (fun w hS => ?_) ?_); rotate_left; (focus ((try dsimp only at hS); go_simp; (try (with_reducible rfl)); done)); simp only [Act.put, pa, pb, pc]))
              obtain ⟨w38, hw38⟩ : ∃ W, W = ((w37.setCell ⟨w34.heap.size, 0, none⟩ (.bool (!o))).setCell ⟨w34.heap.size, 1, none⟩ (.int .i64 a2)).setCell ⟨w34.heap.size, 2, none⟩ (.int .i64 b2) := ⟨_, rfl⟩
              obtain ⟨dd0, dd1, dd2, dd3, dd4⟩ := box3_sets q10 q11 q12 (.bool (!o)) (.int .i64 a2) (.int .i64 b2)
              refine seq_store (w' := w38) (by rfl) (by rfl) (by rw [hw38]; go_simp; (try (with_reducible rfl)); done) ?_
              obtain ⟨dw0, dw1, dw2⟩ := s3w hw38 q10 q11 q12
              have hT := ai (s3c hw38 (by omega) hq0) <| ai (s3o hw38 (by omega) q0) <| ai (s3o hw38 (by omega) q1) <| ai (s3o hw38 (by omega) q2) <| ai (s3o hw38 (by omega) q3) <| ai (s3g hw38 (by omega) q4) <| ai (s3f hw38 f5 fr5) <| ai (s3o hw38 (by omega) q6) <| ai (s3o hw38 (by omega) q7) <| ai (s3o hw38 (by omega) q8) <| ai (s3f hw38 f9 fr9) <| ai (dw0) <| ai (dw1) <| ai (dw2) <| s3g hw38 (by omega) hF
              clear dw0 dw1 dw2
              (try clear hS)
              have hS := hT
              clear hT dd0 dd1 dd2 dd3 dd4 hw38
              have hS2 := hS
              obtain ⟨hq0, q0, q1, q2, q3, q4, ⟨f5, fr5⟩, q6, q7, q8, ⟨f9, fr9⟩, q10, q11, q12, hF⟩ := hS2
              have hgl : g < w38.heap.size := hq0.lt
              have hzw : w.heap.size ≤ w38.heap.size := hF.size
              have hz1 : w1.heap.size < w38.heap.size := World.block_lt_of_cell? w38 _ q0
              have hz2 : T < w38.heap.size := World.block_lt_of_cell? w38 _ q2
              have hzk38 : w32.heap.size ≤ w38.heap.size := q4.size
              have hz3 : w33.heap.size < w38.heap.size := World.block_lt_of_cell? w38 _ q6
              have hz4 : w34.heap.size < w38.heap.size := World.block_lt_of_cell? w38 _ q10
              refine ⟨(fun W => W.cell? ⟨w1.heap.size, 0, none⟩ = some (.int .i64 (x)) ∧ W.cell? ⟨w1.heap.size, 1, none⟩ = some (.int .i64 (y)) ∧ W.cell? ⟨T, 0, none⟩ = some (.int .i64 (u)) ∧ W.cell? ⟨T, 1, none⟩ = some (.int .i64 (v)) ∧ w.grownBy W (some g)), ⟨hS.2.1, hS.2.2.1, hS.2.2.2.1, hS.2.2.2.2.1, hS.2.2.2.2.2.2.2.2.2.2.2.2.2.2⟩, (fun W h => h), ?_⟩
              simp only [Act.put, pa, pb, pc]
              repeat (first
                | ((refine seq_skip (by rfl) (by rfl) ?_); simp only [Act.put, pa, pb, pc])
                | ((refine seq_val (v := ?_) (by rfl) (by rfl) (fun w hS => ?_) ?_); rotate_left; (focus ((try dsimp only at hS); go_simp; (try (with_reducible rfl)); done)); simp only [Act.put, pa, pb, pc]))
              refine seq_nil ?_
              go_wp2_with fail
              go_meet
              case rel => exact ⟨w33.heap.size, w34.heap.size, a, b, a2, b2, rfl, rfl, ⟨by omega, by omega, by omega⟩, hS.1, gf (hS.2.2.2.2.2.1) (HK9.out.2.1).1 (HK9.out.2.1).2 (by omega), gc (hS.2.2.2.2.2.1) (HK9.out.2.2.1) (by omega), gc (hS.2.2.2.2.2.1) (HK9.out.2.2.2.1) (by omega), gc (hS.2.2.2.2.2.1) (HK9.out.2.2.2.2.1) (by omega), gf (hS.2.2.2.2.2.1) (HK9.out.2.2.2.2.2.1).1 (HK9.out.2.2.2.2.2.1).2 (by omega), gc (hS.2.2.2.2.2.1) (HK9.out.2.2.2.2.2.2.1) (by omega), gc (hS.2.2.2.2.2.1) (HK9.out.2.2.2.2.2.2.2.1) (by omega), gc (hS.2.2.2.2.2.1) (HK9.out.2.2.2.2.2.2.2.2.1) (by omega), hS.2.2.2.2.2.2.1, hS.2.2.2.2.2.2.2.1, hS.2.2.2.2.2.2.2.2.1, hS.2.2.2.2.2.2.2.2.2.1, hS.2.2.2.2.2.2.2.2.2.2.1, hS.2.2.2.2.2.2.2.2.2.2.2.1, hS.2.2.2.2.2.2.2.2.2.2.2.2.1, hS.2.2.2.2.2.2.2.2.2.2.2.2.2.1, hS.2.2.2.2.2.2.2.2.2.2.2.2.2.2⟩
            · refine all_seq_core [0, 1, 3, 4, 5, 2, 7, 6, 8, 9, 10] (fun W => W.cell? ⟨w1.heap.size, 0, none⟩ = some (.int .i64 (x)) ∧ W.cell? ⟨w1.heap.size, 1, none⟩ = some (.int .i64 (y)) ∧ W.cell? ⟨T, 0, none⟩ = some (.int .i64 (u)) ∧ W.cell? ⟨T, 1, none⟩ = some (.int .i64 (v)) ∧ w.grownBy W (some g)) (Core.trans (Core.trans (Core.trans (Core.trans (addE_core 2 7 _) (addE_core 7 6 _)) (addE_core 2 8 _)) (addE_core 7 8 _)) (addE_core 6 8 _)) (by kernel_rfl) ⟨hS.2.1, hS.2.2.1, hS.2.2.2.1, hS.2.2.2.2.1, hS.2.2.2.2.2.2⟩ ?_
              simp only [byNum, List.getElem?_cons_zero, List.getElem?_cons_succ]
              repeat (first
                | ((refine seq_skip (by rfl) (by rfl) ?_); simp only [Act.put, pa, pb, pc])
                | ((refine seq_val (v := ?_) (by rfl) (by rfl) (fun w hS => ?_) ?_); rotate_left; (focus ((try dsimp only at hS); go_simp; (try (with_reducible rfl)); done)); simp only [Act.put, pa, pb, pc]))
              refine seq_call (f := ?_) (args := ?_) (by rfl) (by rfl) ?_ ?_
              rotate_left
              rotate_left
              focus (go_simp; (constructor <;> (with_reducible rfl)); done)
              refine (l7Of_ex x y o (by omega) (by omega) _).mono ?_
              rintro e w33 ⟨a, b, rfl, hb⟩
              have hT := ai (hq0.below hb) <| ai (kc hb q0) <| ai (kc hb q1) <| ai (kc hb q2) <| ai (kc hb q3) <| ai (gb_below q4 hb) <| gb_below hF hb
              clear hS hb
              have hS := hT
              clear hT
              have hS2 := hS
              obtain ⟨hq0, q0, q1, q2, q3, q4, hF⟩ := hS2
              have hgl : g < w33.heap.size := hq0.lt
              have hzw : w.heap.size ≤ w33.heap.size := hF.size
              have hz1 : w1.heap.size < w33.heap.size := World.block_lt_of_cell? w33 _ q0
              have hz2 : T < w33.heap.size := World.block_lt_of_cell? w33 _ q2
              have hzk33 : w32.heap.size ≤ w33.heap.size := q4.size
              refine ⟨_, rfl, (fun W => W.cell? ⟨w1.heap.size, 0, none⟩ = some (.int .i64 (x)) ∧ W.cell? ⟨w1.heap.size, 1, none⟩ = some (.int .i64 (y)) ∧ W.cell? ⟨T, 0, none⟩ = some (.int .i64 (u)) ∧ W.cell? ⟨T, 1, none⟩ = some (.int .i64 (v)) ∧ w.grownBy W (some g)), ⟨hS.2.1, hS.2.2.1, hS.2.2.2.1, hS.2.2.2.2.1, hS.2.2.2.2.2.2⟩, (fun W h => h), ?_⟩
              simp only [Act.put, pa, pb, pc]
              repeat (first
                | ((refine seq_skip (by rfl) (by rfl) ?_); simp only [Act.put, pa, pb, pc])
                | ((refine seq_val (v := ?_) (by rfl) (by rfl) (fun w hS => ?_) ?_); rotate_left; (focus ((try dsimp only at hS); go_simp; (try (with_reducible rfl)); done)); simp only [Act.put, pa, pb, pc]))
              refine seq_deed (v := ?_) (w' := ?_) (by rfl) (by rfl) ?_ ?_
              rotate_left
              rotate_left
              focus (go_simp; (constructor <;> (with_reducible rfl)); done)
              generalize hgw34 : World.alloc w33 _ = w34
              have hb : Below w33.heap.size w33 w34 := by rw [← hgw34]; go_grown
              obtain ⟨n9, n0, n1, n2⟩ := al3 hgw34
              have hT := ai (hq0.below hb) <| ai (kc hb q0) <| ai (kc hb q1) <| ai (kc hb q2) <| ai (kc hb q3) <| ai (gb_below q4 hb) <| ai (n9) <| ai (n0) <| ai (n1) <| ai (n2) <| gb_below (hS.2.2.2.2.2.2) hb
              clear n9 n0 n1 n2
              clear hS hb hgw34
              have hS := hT
              clear hT
              have hS2 := hS
              obtain ⟨hq0, q0, q1, q2, q3, q4, ⟨f5, fr5⟩, q6, q7, q8, hF⟩ := hS2
              have hgl : g < w34.heap.size := hq0.lt
              have hzw : w.heap.size ≤ w34.heap.size := hF.size
              have hz1 : w1.heap.size < w34.heap.size := World.block_lt_of_cell? w34 _ q0
              have hz2 : T < w34.heap.size := World.block_lt_of_cell? w34 _ q2
              have hzk34 : w32.heap.size ≤ w34.heap.size := q4.size
              have hz3 : w33.heap.size < w34.heap.size := World.block_lt_of_cell? w34 _ q6
              refine ⟨(fun W => W.cell? ⟨w1.heap.size, 0, none⟩ = some (.int .i64 (x)) ∧ W.cell? ⟨w1.heap.size, 1, none⟩ = some (.int .i64 (y)) ∧ W.cell? ⟨T, 0, none⟩ = some (.int .i64 (u)) ∧ W.cell? ⟨T, 1, none⟩ = some (.int .i64 (v)) ∧ w.grownBy W (some g)), ⟨hS.2.1, hS.2.2.1, hS.2.2.2.1, hS.2.2.2.2.1, hS.2.2.2.2.2.2.2.2.2.2⟩, (fun W h => h), ?_⟩
              simp only [Act.put, pa, pb, pc]
              repeat (first
                | ((refine seq_skip (by rfl) (by rfl) ?_); simp only [Act.put, pa, pb, pc])
                | ((refine seq_val (v := ?_) (by rfl) (by rfl) (fun w hS => ?_) ?_); rotate_left; (focus ((try dsimp only at hS); go_simp; (try (with_reducible rfl)); done)); simp only [Act.put, pa, pb, pc]))
              refine seq_call (f := ?_) (args := ?_) (by rfl) (by rfl) ?_ ?_
              rotate_left
              rotate_left
              focus (go_simp; (constructor <;> (with_reducible rfl)); done)
              refine (l7Of_ex u v (!o) (by omega) (by omega) _).mono ?_
              rintro e w35 ⟨a2, b2, rfl, hb⟩
              have hT := ai (hq0.below hb) <| ai (kc hb q0) <| ai (kc hb q1) <| ai (kc hb q2) <| ai (kc hb q3) <| ai (gb_below q4 hb) <| ai (kf hb f5 fr5) <| ai (kc hb q6) <| ai (kc hb q7) <| ai (kc hb q8) <| gb_below hF hb
              clear hS hb
              have hS := hT
              clear hT
              have hS2 := hS
              obtain ⟨hq0, q0, q1, q2, q3, q4, ⟨f5, fr5⟩, q6, q7, q8, hF⟩ := hS2
              have hgl : g < w35.heap.size := hq0.lt
              have hzw : w.heap.size ≤ w35.heap.size := hF.size
              have hz1 : w1.heap.size < w35.heap.size := World.block_lt_of_cell? w35 _ q0
              have hz2 : T < w35.heap.size := World.block_lt_of_cell? w35 _ q2
              have hzk35 : w32.heap.size ≤ w35.heap.size := q4.size
              have hz3 : w33.heap.size < w35.heap.size := World.block_lt_of_cell? w35 _ q6
              refine ⟨_, rfl, (fun W => W.cell? ⟨w1.heap.size, 0, none⟩ = some (.int .i64 (x)) ∧ W.cell? ⟨w1.heap.size, 1, none⟩ = some (.int .i64 (y)) ∧ W.cell? ⟨T, 0, none⟩ = some (.int .i64 (u)) ∧ W.cell? ⟨T, 1, none⟩ = some (.int .i64 (v)) ∧ w.grownBy W (some g)), ⟨hS.2.1, hS.2.2.1, hS.2.2.2.1, hS.2.2.2.2.1, hS.2.2.2.2.2.2.2.2.2.2⟩, (fun W h => h), ?_⟩
              simp only [Act.put, pa, pb, pc]
              repeat (first
                | ((refine seq_skip (by rfl) (by rfl) ?_); simp only [Act.put, pa, pb, pc])
                | ((refine seq_val (v := ?_) (by rfl) (by rfl) (fun w hS => ?_) ?_); rotate_left; (focus ((try dsimp only at hS); go_simp; (try (with_reducible rfl)); done)); simp only [Act.put, pa, pb, pc]))
              refine seq_deed (v := ?_) (w' := ?_) (by rfl) (by rfl) ?_ ?_
              rotate_left
              rotate_left
              focus (go_simp; (constructor <;> (with_reducible rfl)); done)
              generalize hgw36 : World.alloc w35 _ = w36
              have hb : Below w35.heap.size w35 w36 := by rw [← hgw36]; go_grown
              obtain ⟨n9, n0, n1, n2⟩ := al3 hgw36
              have hT := ai (hq0.below hb) <| ai (kc hb q0) <| ai (kc hb q1) <| ai (kc hb q2) <| ai (kc hb q3) <| ai (gb_below q4 hb) <| ai (kf hb f5 fr5) <| ai (kc hb q6) <| ai (kc hb q7) <| ai (kc hb q8) <| ai (n9) <| ai (n0) <| ai (n1) <| ai (n2) <| gb_below (hS.2.2.2.2.2.2.2.2.2.2) hb
              clear n9 n0 n1 n2
              clear hS hb hgw36
              have hS := hT
              clear hT
              have hS2 := hS
              obtain ⟨hq0, q0, q1, q2, q3, q4, ⟨f5, fr5⟩, q6, q7, q8, ⟨f9, fr9⟩, q10, q11, q12, hF⟩ := hS2
              have hgl : g < w36.heap.size := hq0.lt
              have hzw : w.heap.size ≤ w36.heap.size := hF.size
              have hz1 : w1.heap.size < w36.heap.size := World.block_lt_of_cell? w36 _ q0
              have hz2 : T < w36.heap.size := World.block_lt_of_cell? w36 _ q2
              have hzk36 : w32.heap.size ≤ w36.heap.size := q4.size
              have hz3 : w33.heap.size < w36.heap.size := World.block_lt_of_cell? w36 _ q6
              have hz4 : w35.heap.size < w36.heap.size := World.block_lt_of_cell? w36 _ q10
              refine ⟨(fun W => W.cell? ⟨w1.heap.size, 0, none⟩ = some (.int .i64 (x)) ∧ W.cell? ⟨w1.heap.size, 1, none⟩ = some (.int .i64 (y)) ∧ W.cell? ⟨T, 0, none⟩ = some (.int .i64 (u)) ∧ W.cell? ⟨T, 1, none⟩ = some (.int .i64 (v)) ∧ w.grownBy W (some g)), ⟨hS.2.1, hS.2.2.1, hS.2.2.2.1, hS.2.2.2.2.1, hS.2.2.2.2.2.2.2.2.2.2.2.2.2.2⟩, (fun W h => h), ?_⟩
              simp only [Act.put, pa, pb, pc]
              repeat (first
                | ((refine seq_skip (by rfl) (by rfl) ?_); simp only [Act.put, pa, pb, pc])
                | ((refine seq_val (v := ?_) (by rfl) (by rfl) (fun w hS => ?_) ?_); rotate_left; (focus ((try dsimp only at hS); go_simp; (try (with_reducible rfl)); done)); simp only [Act.put, pa, pb, pc]))
              obtain ⟨w37, hw37⟩ : ∃ W, W = ((w36.setCell ⟨w33.heap.size, 0, none⟩ (.bool o)).setCell ⟨w33.heap.size, 1, none⟩ (.int .i64 a)).setCell ⟨w33.heap.size, 2, none⟩ (.int .i64 b) := ⟨_, rfl⟩
              obtain ⟨dd0, dd1, dd2, dd3, dd4⟩ := box3_sets q6 q7 q8 (.bool o) (.int .i64 a) (.int .i64 b)
              refine seq_store (w' := w37) (by rfl) (by rfl) (by rw [hw37]; go_simp; (try (with_reducible rfl)); done) ?_
              obtain ⟨dw0, dw1, dw2⟩ := s3w hw37 q6 q7 q8
              have hT := ai (s3c hw37 (by omega) hq0) <| ai (s3o hw37 (by omega) q0) <| ai (s3o hw37 (by omega) q1) <| ai (s3o hw37 (by omega) q2) <| ai (s3o hw37 (by omega) q3) <| ai (s3g hw37 (by omega) q4) <| ai (s3f hw37 f5 fr5) <| ai (dw0) <| ai (dw1) <| ai (dw2) <| ai (s3f hw37 f9 fr9) <| ai (s3o hw37 (by omega) q10) <| ai (s3o hw37 (by omega) q11) <| ai (s3o hw37 (by omega) q12) <| s3g hw37 (by omega) hF
              clear dw0 dw1 dw2
              (try clear hS)
              have hS := hT
              clear hT dd0 dd1 dd2 dd3 dd4 hw37
              have hS2 := hS
              obtain ⟨hq0, q0, q1, q2, q3, q4, ⟨f5, fr5⟩, q6, q7, q8, ⟨f9, fr9⟩, q10, q11, q12, hF⟩ := hS2
              have hgl : g < w37.heap.size := hq0.lt
              have hzw : w.heap.size ≤ w37.heap.size := hF.size
              have hz1 : w1.heap.size < w37.heap.size := World.block_lt_of_cell? w37 _ q0
              have hz2 : T < w37.heap.size := World.block_lt_of_cell? w37 _ q2
              have hzk37 : w32.heap.size ≤ w37.heap.size := q4.size
              have hz3 : w33.heap.size < w37.heap.size := World.block_lt_of_cell? w37 _ q6
              have hz4 : w35.heap.size < w37.heap.size := World.block_lt_of_cell? w37 _ q10
              refine ⟨(fun W => W.cell? ⟨w1.heap.size, 0, none⟩ = some (.int .i64 (x)) ∧ W.cell? ⟨w1.heap.size, 1, none⟩ = some (.int .i64 (y)) ∧ W.cell? ⟨T, 0, none⟩ = some (.int .i64 (u)) ∧ W.cell? ⟨T, 1, none⟩ = some (.int .i64 (v)) ∧ w.grownBy W (some g)), ⟨hS.2.1, hS.2.2.1, hS.2.2.2.1, hS.2.2.2.2.1, hS.2.2.2.2.2.2.2.2.2.2.2.2.2.2⟩, (fun W h => h), ?_⟩
              simp only [Act.put, pa, pb, pc]
              repeat (first
                | ((refine seq_skip (by rfl) (by rfl) ?_); simp only [Act.put, pa, pb, pc])
                | ((refine seq_val (v := ?_) (by rfl) (by rfl) (fun w hS => ?_) ?_); rotate_left; (focus ((try dsimp only at hS); go_simp; (try (with_reducible rfl)); done)); simp only [Act.put, pa, pb, pc]))
              obtain ⟨w38, hw38⟩ : ∃ W, W = ((w37.setCell ⟨w35.heap.size, 0, none⟩ (.bool (!o))).setCell ⟨w35.heap.size, 1, none⟩ (.int .i64 a2)).setCell ⟨w35.heap.size, 2, none⟩ (.int .i64 b2) := ⟨_, rfl⟩
              obtain ⟨dd0, dd1, dd2, dd3, dd4⟩ := box3_sets q10 q11 q12 (.bool (!o)) (.int .i64 a2) (.int .i64 b2)
              refine seq_store (w' := w38) (by rfl) (by rfl) (by rw [hw38]; go_simp; (try (with_reducible rfl)); done) ?_
              obtain ⟨dw0, dw1, dw2⟩ := s3w hw38 q10 q11 q12
              have hT := ai (s3c hw38 (by omega) hq0) <| ai (s3o hw38 (by omega) q0) <| ai (s3o hw38 (by omega) q1) <| ai (s3o hw38 (by omega) q2) <| ai (s3o hw38 (by omega) q3) <| ai (s3g hw38 (by omega) q4) <| ai (s3f hw38 f5 fr5) <| ai (s3o hw38 (by omega) q6) <| ai (s3o hw38 (by omega) q7) <| ai (s3o hw38 (by omega) q8) <| ai (s3f hw38 f9 fr9) <| ai (dw0) <| ai (dw1) <| ai (dw2) <| s3g hw38 (by omega) hF
              clear dw0 dw1 dw2
              (try clear hS)
              have hS := hT
              clear hT dd0 dd1 dd2 dd3 dd4 hw38
              have hS2 := hS
              obtain ⟨hq0, q0, q1, q2, q3, q4, ⟨f5, fr5⟩, q6, q7, q8, ⟨f9, fr9⟩, q10, q11, q12, hF⟩ := hS2
              have hgl : g < w38.heap.size := hq0.lt
              have hzw : w.heap.size ≤ w38.heap.size := hF.size
              have hz1 : w1.heap.size < w38.heap.size := World.block_lt_of_cell? w38 _ q0
              have hz2 : T < w38.heap.size := World.block_lt_of_cell? w38 _ q2
              have hzk38 : w32.heap.size ≤ w38.heap.size := q4.size
              have hz3 : w33.heap.size < w38.heap.size := World.block_lt_of_cell? w38 _ q6
              have hz4 : w35.heap.size < w38.heap.size := World.block_lt_of_cell? w38 _ q10
              refine ⟨(fun W => W.cell? ⟨w1.heap.size, 0, none⟩ = some (.int .i64 (x)) ∧ W.cell? ⟨w1.heap.size, 1, none⟩ = some (.int .i64 (y)) ∧ W.cell? ⟨T, 0, none⟩ = some (.int .i64 (u)) ∧ W.cell? ⟨T, 1, none⟩ = some (.int .i64 (v)) ∧ w.grownBy W (some g)), ⟨hS.2.1, hS.2.2.1, hS.2.2.2.1, hS.2.2.2.2.1, hS.2.2.2.2.2.2.2.2.2.2.2.2.2.2⟩, (fun W h => h), ?_⟩
              simp only [Act.put, pa, pb, pc]
              repeat (first
                | ((refine seq_skip (by rfl) (by rfl) ?_); simp only [Act.put, pa, pb, pc])
                | ((refine seq_val (v := ?_) (by rfl) (by rfl) (fun w hS => ?_) ?_); rotate_left; (focus ((try dsimp only at hS); go_simp; (try (with_reducible rfl)); done)); simp only [Act.put, pa, pb, pc]))
              refine seq_nil ?_
              go_wp2_with fail
              go_meet
              case rel => exact ⟨w33.heap.size, w35.heap.size, a, b, a2, b2, rfl, rfl, ⟨by omega, by omega, by omega⟩, hS.1, gf (hS.2.2.2.2.2.1) (HK9.out.2.1).1 (HK9.out.2.1).2 (by omega), gc (hS.2.2.2.2.2.1) (HK9.out.2.2.1) (by omega), gc (hS.2.2.2.2.2.1) (HK9.out.2.2.2.1) (by omega), gc (hS.2.2.2.2.2.1) (HK9.out.2.2.2.2.1) (by omega), gf (hS.2.2.2.2.2.1) (HK9.out.2.2.2.2.2.1).1 (HK9.out.2.2.2.2.2.1).2 (by omega), gc (hS.2.2.2.2.2.1) (HK9.out.2.2.2.2.2.2.1) (by omega), gc (hS.2.2.2.2.2.1) (HK9.out.2.2.2.2.2.2.2.1) (by omega), gc (hS.2.2.2.2.2.1) (HK9.out.2.2.2.2.2.2.2.2.1) (by omega), hS.2.2.2.2.2.2.1, hS.2.2.2.2.2.2.2.1, hS.2.2.2.2.2.2.2.2.1, hS.2.2.2.2.2.2.2.2.2.1, hS.2.2.2.2.2.2.2.2.2.2.1, hS.2.2.2.2.2.2.2.2.2.2.2.1, hS.2.2.2.2.2.2.2.2.2.2.2.2.1, hS.2.2.2.2.2.2.2.2.2.2.2.2.2.1, hS.2.2.2.2.2.2.2.2.2.2.2.2.2.2⟩
      · refine all_split 8 2 (by decide) ?_ ?_
        · refine all_seq_core [0, 1, 3, 4, 5, 8, 2, 6, 7, 9, 10] (fun W => W.cell? ⟨w1.heap.size, 0, none⟩ = some (.int .i64 (x)) ∧ W.cell? ⟨w1.heap.size, 1, none⟩ = some (.int .i64 (y)) ∧ W.cell? ⟨T, 0, none⟩ = some (.int .i64 (u)) ∧ W.cell? ⟨T, 1, none⟩ = some (.int .i64 (v)) ∧ w.grownBy W (some g)) (Core.trans (Core.trans (addE_core 2 7 _) (addE_core 6 7 _)) (addE_core 8 2 _)) (by kernel_rfl) ⟨hS.2.1, hS.2.2.1, hS.2.2.2.1, hS.2.2.2.2.1, hS.2.2.2.2.2.2⟩ ?_
          simp only [byNum, List.getElem?_cons_zero, List.getElem?_cons_succ]
          repeat (first
            | ((refine seq_skip (by rfl) (by rfl) ?_); simp only [Act.put, pa, pb, pc])
            | ((refine seq_val (v := ?_) (by rfl) (by rfl) (fun w hS => ?_) ?_); rotate_left; (focus ((try dsimp only at hS); go_simp; (try (with_reducible rfl)); done)); simp only [Act.put, pa, pb, pc]))
          refine seq_deed (v := ?_) (w' := ?_) (by rfl) (by rfl) ?_ ?_
          rotate_left
          rotate_left
          focus (go_simp; (constructor <;> (with_reducible rfl)); done)
          generalize hgw33 : World.alloc w32 _ = w33
          have hb : Below w32.heap.size w32 w33 := by rw [← hgw33]; go_grown
          obtain ⟨n9, n0, n1, n2⟩ := al3 hgw33
          have hT := ai (hq0.below hb) <| ai (kc hb q0) <| ai (kc hb q1) <| ai (kc hb q2) <| ai (kc hb q3) <| ai (gb_below q4 hb) <| ai (n9) <| ai (n0) <| ai (n1) <| ai (n2) <| gb_below (hS.2.2.2.2.2.2) hb
          clear n9 n0 n1 n2
          clear hS hb hgw33
          have hS := hT
          clear hT
          have hS2 := hS
          obtain ⟨hq0, q0, q1, q2, q3, q4, ⟨f5, fr5⟩, q6, q7, q8, hF⟩ := hS2
          have hgl : g < w33.heap.size := hq0.lt
          have hzw : w.heap.size ≤ w33.heap.size := hF.size
          have hz1 : w1.heap.size < w33.heap.size := World.block_lt_of_cell? w33 _ q0
          have hz2 : T < w33.heap.size := World.block_lt_of_cell? w33 _ q2
          have hzk33 : w32.heap.size ≤ w33.heap.size := q4.size
          have hz3 : w32.heap.size < w33.heap.size := World.block_lt_of_cell? w33 _ q6
          refine ⟨(fun W => W.cell? ⟨w1.heap.size, 0, none⟩ = some (.int .i64 (x)) ∧ W.cell? ⟨w1.heap.size, 1, none⟩ = some (.int .i64 (y)) ∧ W.cell? ⟨T, 0, none⟩ = some (.int .i64 (u)) ∧ W.cell? ⟨T, 1, none⟩ = some (.int .i64 (v)) ∧ w.grownBy W (some g)), ⟨hS.2.1, hS.2.2.1, hS.2.2.2.1, hS.2.2.2.2.1, hS.2.2.2.2.2.2.2.2.2.2⟩, (fun W h => h), ?_⟩
          simp only [Act.put, pa, pb, pc]
          repeat (first
            | ((refine seq_skip (by rfl) (by rfl) ?_); simp only [Act.put, pa, pb, pc])
            | ((refine seq_val (v := ?_) (by rfl) (by rfl) (fun w hS => ?_) ?_); rotate_left; (focus ((try dsimp only at hS); go_simp; (try (with_reducible rfl)); done)); simp only [Act.put, pa, pb, pc]))
          refine seq_call (f := ?_) (args := ?_) (by rfl) (by rfl) ?_ ?_
          rotate_left
          rotate_left
          focus (go_simp; (constructor <;> (with_reducible rfl)); done)
          refine (l7Of_ex x y o (by omega) (by omega) _).mono ?_
          rintro e w34 ⟨a, b, rfl, hb⟩
          have hT := ai (hq0.below hb) <| ai (kc hb q0) <| ai (kc hb q1) <| ai (kc hb q2) <| ai (kc hb q3) <| ai (gb_below q4 hb) <| ai (kf hb f5 fr5) <| ai (kc hb q6) <| ai (kc hb q7) <| ai (kc hb q8) <| gb_below hF hb
          clear hS hb
          have hS := hT
          clear hT
          have hS2 := hS
          obtain ⟨hq0, q0, q1, q2, q3, q4, ⟨f5, fr5⟩, q6, q7, q8, hF⟩ := hS2
          have hgl : g < w34.heap.size := hq0.lt
          have hzw : w.heap.size ≤ w34.heap.size := hF.size
          have hz1 : w1.heap.size < w34.heap.size := World.block_lt_of_cell? w34 _ q0
          have hz2 : T < w34.heap.size := World.block_lt_of_cell? w34 _ q2
          have hzk34 : w32.heap.size ≤ w34.heap.size := q4.size
          have hz3 : w32.heap.size < w34.heap.size := World.block_lt_of_cell? w34 _ q6
          refine ⟨_, rfl, (fun W => W.cell? ⟨w1.heap.size, 0, none⟩ = some (.int .i64 (x)) ∧ W.cell? ⟨w1.heap.size, 1, none⟩ = some (.int .i64 (y)) ∧ W.cell? ⟨T, 0, none⟩ = some (.int .i64 (u)) ∧ W.cell? ⟨T, 1, none⟩ = some (.int .i64 (v)) ∧ w.grownBy W (some g)), ⟨hS.2.1, hS.2.2.1, hS.2.2.2.1, hS.2.2.2.2.1, hS.2.2.2.2.2.2.2.2.2.2⟩, (fun W h => h), ?_⟩
          simp only [Act.put, pa, pb, pc]
          repeat (first
            | ((refine seq_skip (by rfl) (by rfl) ?_); simp only [Act.put, pa, pb, pc])
            | ((refine seq_val (v := ?_) (by rfl) (by rfl) (fun w hS => ?_) ?_); rotate_left; (focus ((try dsimp only at hS); go_simp; (try (with_reducible rfl)); done)); simp only [Act.put, pa, pb, pc]))
          refine seq_call (f := ?_) (args := ?_) (by rfl) (by rfl) ?_ ?_
          rotate_left
          rotate_left
          focus (go_simp; (constructor <;> (with_reducible rfl)); done)
          refine (l7Of_ex u v (!o) (by omega) (by omega) _).mono ?_
          rintro e w35 ⟨a2, b2, rfl, hb⟩
          have hT := ai (hq0.below hb) <| ai (kc hb q0) <| ai (kc hb q1) <| ai (kc hb q2) <| ai (kc hb q3) <| ai (gb_below q4 hb) <| ai (kf hb f5 fr5) <| ai (kc hb q6) <| ai (kc hb q7) <| ai (kc hb q8) <| gb_below hF hb
          clear hS hb
          have hS := hT
          clear hT
          have hS2 := hS
          obtain ⟨hq0, q0, q1, q2, q3, q4, ⟨f5, fr5⟩, q6, q7, q8, hF⟩ := hS2
          have hgl : g < w35.heap.size := hq0.lt
          have hzw : w.heap.size ≤ w35.heap.size := hF.size
          have hz1 : w1.heap.size < w35.heap.size := World.block_lt_of_cell? w35 _ q0
          have hz2 : T < w35.heap.size := World.block_lt_of_cell? w35 _ q2
          have hzk35 : w32.heap.size ≤ w35.heap.size := q4.size
          have hz3 : w32.heap.size < w35.heap.size := World.block_lt_of_cell? w35 _ q6
          refine ⟨_, rfl, (fun W => W.cell? ⟨w1.heap.size, 0, none⟩ = some (.int .i64 (x)) ∧ W.cell? ⟨w1.heap.size, 1, none⟩ = some (.int .i64 (y)) ∧ W.cell? ⟨T, 0, none⟩ = some (.int .i64 (u)) ∧ W.cell? ⟨T, 1, none⟩ = some (.int .i64 (v)) ∧ w.grownBy W (some g)), ⟨hS.2.1, hS.2.2.1, hS.2.2.2.1, hS.2.2.2.2.1, hS.2.2.2.2.2.2.2.2.2.2⟩, (fun W h => h), ?_⟩
          simp only [Act.put, pa, pb, pc]
          repeat (first
            | ((refine seq_skip (by rfl) (by rfl) ?_); simp only [Act.put, pa, pb, pc])
            | ((refine seq_val (v := ?_) (by rfl) (by rfl) (fun w hS => ?_) ?_); rotate_left; (focus ((try dsimp only at hS); go_simp; (try (with_reducible rfl)); done)); simp only [Act.put, pa, pb, pc]))
          refine seq_deed (v := ?_) (w' := ?_) (by rfl) (by rfl) ?_ ?_
          rotate_left
          rotate_left
          focus (go_simp; (constructor <;> (with_reducible rfl)); done)
          generalize hgw36 : World.alloc w35 _ = w36
          have hb : Below w35.heap.size w35 w36 := by rw [← hgw36]; go_grown
          obtain ⟨n9, n0, n1, n2⟩ := al3 hgw36
          have hT := ai (hq0.below hb) <| ai (kc hb q0) <| ai (kc hb q1) <| ai (kc hb q2) <| ai (kc hb q3) <| ai (gb_below q4 hb) <| ai (kf hb f5 fr5) <| ai (kc hb q6) <| ai (kc hb q7) <| ai (kc hb q8) <| ai (n9) <| ai (n0) <| ai (n1) <| ai (n2) <| gb_below (hS.2.2.2.2.2.2.2.2.2.2) hb
          clear n9 n0 n1 n2
          clear hS hb hgw36
          have hS := hT
          clear hT
          have hS2 := hS
          obtain ⟨hq0, q0, q1, q2, q3, q4, ⟨f5, fr5⟩, q6, q7, q8, ⟨f9, fr9⟩, q10, q11, q12, hF⟩ := hS2
          have hgl : g < w36.heap.size := hq0.lt
          have hzw : w.heap.size ≤ w36.heap.size := hF.size
          have hz1 : w1.heap.size < w36.heap.size := World.block_lt_of_cell? w36 _ q0
          have hz2 : T < w36.heap.size := World.block_lt_of_cell? w36 _ q2
          have hzk36 : w32.heap.size ≤ w36.heap.size := q4.size
          have hz3 : w32.heap.size < w36.heap.size := World.block_lt_of_cell? w36 _ q6
          have hz4 : w35.heap.size < w36.heap.size := World.block_lt_of_cell? w36 _ q10
          refine ⟨(fun W => W.cell? ⟨w1.heap.size, 0, none⟩ = some (.int .i64 (x)) ∧ W.cell? ⟨w1.heap.size, 1, none⟩ = some (.int .i64 (y)) ∧ W.cell? ⟨T, 0, none⟩ = some (.int .i64 (u)) ∧ W.cell? ⟨T, 1, none⟩ = some (.int .i64 (v)) ∧ w.grownBy W (some g)), ⟨hS.2.1, hS.2.2.1, hS.2.2.2.1, hS.2.2.2.2.1, hS.2.2.2.2.2.2.2.2.2.2.2.2.2.2⟩, (fun W h => h), ?_⟩
          simp only [Act.put, pa, pb, pc]
          repeat (first
            | ((refine seq_skip (by rfl) (by rfl) ?_); simp only [Act.put, pa, pb, pc])
            | ((refine seq_val (v := ?_) (by rfl) (by rfl) (fun w hS => ?_) ?_); rotate_left; (focus ((try dsimp only at hS); go_simp; (try (with_reducible rfl)); done)); simp only [Act.put, pa, pb, pc]))
          obtain ⟨w37, hw37⟩ : ∃ W, W = ((w36.setCell ⟨w35.heap.size, 0, none⟩ (.bool o)).setCell ⟨w35.heap.size, 1, none⟩ (.int .i64 a)).setCell ⟨w35.heap.size, 2, none⟩ (.int .i64 b) := ⟨_, rfl⟩
          obtain ⟨dd0, dd1, dd2, dd3, dd4⟩ := box3_sets q10 q11 q12 (.bool o) (.int .i64 a) (.int .i64 b)
          refine seq_store (w' := w37) (by rfl) (by rfl) (by rw [hw37]; go_simp; (try (with_reducible rfl)); done) ?_
          obtain ⟨dw0, dw1, dw2⟩ := s3w hw37 q10 q11 q12
          have hT := ai (s3c hw37 (by omega) hq0) <| ai (s3o hw37 (by omega) q0) <| ai (s3o hw37 (by omega) q1) <| ai (s3o hw37 (by omega) q2) <| ai (s3o hw37 (by omega) q3) <| ai (s3g hw37 (by omega) q4) <| ai (s3f hw37 f5 fr5) <| ai (s3o hw37 (by omega) q6) <| ai (s3o hw37 (by omega) q7) <| ai (s3o hw37 (by omega) q8) <| ai (s3f hw37 f9 fr9) <| ai (dw0) <| ai (dw1) <| ai (dw2) <| s3g hw37 (by omega) hF
          clear dw0 dw1 dw2
          (try clear hS)
          have hS := hT
          clear hT dd0 dd1 dd2 dd3 dd4 hw37
          have hS2 := hS
          obtain ⟨hq0, q0, q1, q2, q3, q4, ⟨f5, fr5⟩, q6, q7, q8, ⟨f9, fr9⟩, q10, q11, q12, hF⟩ := hS2
          have hgl : g < w37.heap.size := hq0.lt
          have hzw : w.heap.size ≤ w37.heap.size := hF.size
          have hz1 : w1.heap.size < w37.heap.size := World.block_lt_of_cell? w37 _ q0
          have hz2 : T < w37.heap.size := World.block_lt_of_cell? w37 _ q2
          have hzk37 : w32.heap.size ≤ w37.heap.size := q4.size
          have hz3 : w32.heap.size < w37.heap.size := World.block_lt_of_cell? w37 _ q6
          have hz4 : w35.heap.size < w37.heap.size := World.block_lt_of_cell? w37 _ q10
          refine ⟨(fun W => W.cell? ⟨w1.heap.size, 0, none⟩ = some (.int .i64 (x)) ∧ W.cell? ⟨w1.heap.size, 1, none⟩ = some (.int .i64 (y)) ∧ W.cell? ⟨T, 0, none⟩ = some (.int .i64 (u)) ∧ W.cell? ⟨T, 1, none⟩ = some (.int .i64 (v)) ∧ w.grownBy W (some g)), ⟨hS.2.1, hS.2.2.1, hS.2.2.2.1, hS.2.2.2.2.1, hS.2.2.2.2.2.2.2.2.2.2.2.2.2.2⟩, (fun W h => h), ?_⟩
          simp only [Act.put, pa, pb, pc]
          repeat (first
            | ((refine seq_skip (by rfl) (by rfl) ?_); simp only [Act.put, pa, pb, pc])
            | ((refine seq_val (v := ?_) (by rfl) (by rfl) (fun w hS => ?_) ?_); rotate_left; (focus ((try dsimp only at hS); go_simp; (try (with_reducible rfl)); done)); simp only [Act.put, pa, pb, pc]))
          obtain ⟨w38, hw38⟩ : ∃ W, W = ((w37.setCell ⟨w32.heap.size, 0, none⟩ (.bool (!o))).setCell ⟨w32.heap.size, 1, none⟩ (.int .i64 a2)).setCell ⟨w32.heap.size, 2, none⟩ (.int .i64 b2) := ⟨_, rfl⟩
          obtain ⟨dd0, dd1, dd2, dd3, dd4⟩ := box3_sets q6 q7 q8 (.bool (!o)) (.int .i64 a2) (.int .i64 b2)
          refine seq_store (w' := w38) (by rfl) (by rfl) (by rw [hw38]; go_simp; (try (with_reducible rfl)); done) ?_
          obtain ⟨dw0, dw1, dw2⟩ := s3w hw38 q6 q7 q8
          have hT := ai (s3c hw38 (by omega) hq0) <| ai (s3o hw38 (by omega) q0) <| ai (s3o hw38 (by omega) q1) <| ai (s3o hw38 (by omega) q2) <| ai (s3o hw38 (by omega) q3) <| ai (s3g hw38 (by omega) q4) <| ai (s3f hw38 f5 fr5) <| ai (dw0) <| ai (dw1) <| ai (dw2) <| ai (s3f hw38 f9 fr9) <| ai (s3o hw38 (by omega) q10) <| ai (s3o hw38 (by omega) q11) <| ai (s3o hw38 (by omega) q12) <| s3g hw38 (by omega) hF
          clear dw0 dw1 dw2
          (try clear hS)
          have hS := hT
          clear hT dd0 dd1 dd2 dd3 dd4 hw38
          have hS2 := hS
          obtain ⟨hq0, q0, q1, q2, q3, q4, ⟨f5, fr5⟩, q6, q7, q8, ⟨f9, fr9⟩, q10, q11, q12, hF⟩ := hS2
          have hgl : g < w38.heap.size := hq0.lt
          have hzw : w.heap.size ≤ w38.heap.size := hF.size
          have hz1 : w1.heap.size < w38.heap.size := World.block_lt_of_cell? w38 _ q0
          have hz2 : T < w38.heap.size := World.block_lt_of_cell? w38 _ q2
          have hzk38 : w32.heap.size ≤ w38.heap.size := q4.size
          have hz3 : w32.heap.size < w38.heap.size := World.block_lt_of_cell? w38 _ q6
          have hz4 : w35.heap.size < w38.heap.size := World.block_lt_of_cell? w38 _ q10
          refine ⟨(fun W => W.cell? ⟨w1.heap.size, 0, none⟩ = some (.int .i64 (x)) ∧ W.cell? ⟨w1.heap.size, 1, none⟩ = some (.int .i64 (y)) ∧ W.cell? ⟨T, 0, none⟩ = some (.int .i64 (u)) ∧ W.cell? ⟨T, 1, none⟩ = some (.int .i64 (v)) ∧ w.grownBy W (some g)), ⟨hS.2.1, hS.2.2.1, hS.2.2.2.1, hS.2.2.2.2.1, hS.2.2.2.2.2.2.2.2.2.2.2.2.2.2⟩, (fun W h => h), ?_⟩
          simp only [Act.put, pa, pb, pc]
          repeat (first
            | ((refine seq_skip (by rfl) (by rfl) ?_); simp only [Act.put, pa, pb, pc])
            | ((refine seq_val (v := ?_) (by rfl) (by rfl) (fun w hS => ?_) ?_); rotate_left; (focus ((try dsimp only at hS); go_simp; (try (with_reducible rfl)); done)); simp only [Act.put, pa, pb, pc]))
          refine seq_nil ?_
          go_wp2_with fail
          go_meet
          case rel => exact ⟨w35.heap.size, w32.heap.size, a, b, a2, b2, rfl, rfl, ⟨by omega, by omega, by omega⟩, hS.1, gf (hS.2.2.2.2.2.1) (HK9.out.2.1).1 (HK9.out.2.1).2 (by omega), gc (hS.2.2.2.2.2.1) (HK9.out.2.2.1) (by omega), gc (hS.2.2.2.2.2.1) (HK9.out.2.2.2.1) (by omega), gc (hS.2.2.2.2.2.1) (HK9.out.2.2.2.2.1) (by omega), gf (hS.2.2.2.2.2.1) (HK9.out.2.2.2.2.2.1).1 (HK9.out.2.2.2.2.2.1).2 (by omega), gc (hS.2.2.2.2.2.1) (HK9.out.2.2.2.2.2.2.1) (by omega), gc (hS.2.2.2.2.2.1) (HK9.out.2.2.2.2.2.2.2.1) (by omega), gc (hS.2.2.2.2.2.1) (HK9.out.2.2.2.2.2.2.2.2.1) (by omega), hS.2.2.2.2.2.2.2.2.2.2.1, hS.2.2.2.2.2.2.2.2.2.2.2.1, hS.2.2.2.2.2.2.2.2.2.2.2.2.1, hS.2.2.2.2.2.2.2.2.2.2.2.2.2.1, hS.2.2.2.2.2.2.1, hS.2.2.2.2.2.2.2.1, hS.2.2.2.2.2.2.2.2.1, hS.2.2.2.2.2.2.2.2.2.1, hS.2.2.2.2.2.2.2.2.2.2.2.2.2.2⟩
        · refine all_split 8 6 (by decide) ?_ ?_
          · refine all_seq_core [0, 1, 3, 4, 5, 2, 8, 6, 7, 9, 10] (fun W => W.cell? ⟨w1.heap.size, 0, none⟩ = some (.int .i64 (x)) ∧ W.cell? ⟨w1.heap.size, 1, none⟩ = some (.int .i64 (y)) ∧ W.cell? ⟨T, 0, none⟩ = some (.int .i64 (u)) ∧ W.cell? ⟨T, 1, none⟩ = some (.int .i64 (v)) ∧ w.grownBy W (some g)) (Core.trans (Core.trans (Core.trans (addE_core 2 7 _) (addE_core 6 7 _)) (addE_core 2 8 _)) (addE_core 8 6 _)) (by kernel_rfl) ⟨hS.2.1, hS.2.2.1, hS.2.2.2.1, hS.2.2.2.2.1, hS.2.2.2.2.2.2⟩ ?_
            simp only [byNum, List.getElem?_cons_zero, List.getElem?_cons_succ]
            repeat (first
              | ((refine seq_skip (by rfl) (by rfl) ?_); simp only [Act.put, pa, pb, pc])
              | ((refine seq_val (v := ?_) (by rfl) (by rfl) (fun w hS => ?_) ?_); rotate_left; (focus ((try dsimp only at hS); go_simp; (try (with_reducible rfl)); done)); simp only [Act.put, pa, pb, pc]))
            refine seq_call (f := ?_) (args := ?_) (by rfl) (by rfl) ?_ ?_
            rotate_left
            rotate_left
            focus (go_simp; (constructor <;> (with_reducible rfl)); done)
            refine (l7Of_ex x y o (by omega) (by omega) _).mono ?_
            rintro e w33 ⟨a, b, rfl, hb⟩
            have hT := ai (hq0.below hb) <| ai (kc hb q0) <| ai (kc hb q1) <| ai (kc hb q2) <| ai (kc hb q3) <| ai (gb_below q4 hb) <| gb_below hF hb
            clear hS hb
            have hS := hT
            clear hT
            have hS2 := hS
            obtain ⟨hq0, q0, q1, q2, q3, q4, hF⟩ := hS2
            have hgl : g < w33.heap.size := hq0.lt
            have hzw : w.heap.size ≤ w33.heap.size := hF.size
            have hz1 : w1.heap.size < w33.heap.size := World.block_lt_of_cell? w33 _ q0
            have hz2 : T < w33.heap.size := World.block_lt_of_cell? w33 _ q2
            have hzk33 : w32.heap.size ≤ w33.heap.size := q4.size
            refine ⟨_, rfl, (fun W => W.cell? ⟨w1.heap.size, 0, none⟩ = some (.int .i64 (x)) ∧ W.cell? ⟨w1.heap.size, 1, none⟩ = some (.int .i64 (y)) ∧ W.cell? ⟨T, 0, none⟩ = some (.int .i64 (u)) ∧ W.cell? ⟨T, 1, none⟩ = some (.int .i64 (v)) ∧ w.grownBy W (some g)), ⟨hS.2.1, hS.2.2.1, hS.2.2.2.1, hS.2.2.2.2.1, hS.2.2.2.2.2.2⟩, (fun W h => h), ?_⟩
            simp only [Act.put, pa, pb, pc]
            repeat (first
              | ((refine seq_skip (by rfl) (by rfl) ?_); simp only [Act.put, pa, pb, pc])
              | ((refine seq_val (v := ?_) (by rfl) (by rfl) (fun w hS => ?_) ?_); rotate_left; (focus ((try dsimp only at hS); go_simp; (try (with_reducible rfl)); done)); simp only [Act.put, pa, pb, pc]))
            refine seq_deed (v := ?_) (w' := ?_) (by rfl) (by rfl) ?_ ?_
            rotate_left
            rotate_left
            focus (go_simp; (constructor <;> (with_reducible rfl)); done)
            generalize hgw34 : World.alloc w33 _ = w34
            have hb : Below w33.heap.size w33 w34 := by rw [← hgw34]; go_grown
            obtain ⟨n9, n0, n1, n2⟩ := al3 hgw34
            have hT := ai (hq0.below hb) <| ai (kc hb q0) <| ai (kc hb q1) <| ai (kc hb q2) <| ai (kc hb q3) <| ai (gb_below q4 hb) <| ai (n9) <| ai (n0) <| ai (n1) <| ai (n2) <| gb_below (hS.2.2.2.2.2.2) hb
            clear n9 n0 n1 n2
            clear hS hb hgw34
            have hS := hT
            clear hT
            have hS2 := hS
            obtain ⟨hq0, q0, q1, q2, q3, q4, ⟨f5, fr5⟩, q6, q7, q8, hF⟩ := hS2
            have hgl : g < w34.heap.size := hq0.lt
            have hzw : w.heap.size ≤ w34.heap.size := hF.size
            have hz1 : w1.heap.size < w34.heap.size := World.block_lt_of_cell? w34 _ q0
            have hz2 : T < w34.heap.size := World.block_lt_of_cell? w34 _ q2
            have hzk34 : w32.heap.size ≤ w34.heap.size := q4.size
            have hz3 : w33.heap.size < w34.heap.size := World.block_lt_of_cell? w34 _ q6
            refine ⟨(fun W => W.cell? ⟨w1.heap.size, 0, none⟩ = some (.int .i64 (x)) ∧ W.cell? ⟨w1.heap.size, 1, none⟩ = some (.int .i64 (y)) ∧ W.cell? ⟨T, 0, none⟩ = some (.int .i64 (u)) ∧ W.cell? ⟨T, 1, none⟩ = some (.int .i64 (v)) ∧ w.grownBy W (some g)), ⟨hS.2.1, hS.2.2.1, hS.2.2.2.1, hS.2.2.2.2.1, hS.2.2.2.2.2.2.2.2.2.2⟩, (fun W h => h), ?_⟩
            simp only [Act.put, pa, pb, pc]
            repeat (first
              | ((refine seq_skip (by rfl) (by rfl) ?_); simp only [Act.put, pa, pb, pc])
              | ((refine seq_val (v := ?_) (by rfl) (by rfl) (fun w hS => ?_) ?_); rotate_left; (focus ((try dsimp only at hS); go_simp; (try (with_reducible rfl)); done)); simp only [Act.put, pa, pb, pc]))
            refine seq_call (f := ?_) (args := ?_) (by rfl) (by rfl) ?_ ?_
            rotate_left
            rotate_left
            focus (go_simp; (constructor <;> (with_reducible rfl)); done)
            refine (l7Of_ex u v (!o) (by omega) (by omega) _).mono ?_
            rintro e w35 ⟨a2, b2, rfl, hb⟩
            have hT := ai (hq0.below hb) <| ai (kc hb q0) <| ai (kc hb q1) <| ai (kc hb q2) <| ai (kc hb q3) <| ai (gb_below q4 hb) <| ai (kf hb f5 fr5) <| ai (kc hb q6) <| ai (kc hb q7) <| ai (kc hb q8) <| gb_below hF hb
            clear hS hb
            have hS := hT
            clear hT
            have hS2 := hS
            obtain ⟨hq0, q0, q1, q2, q3, q4, ⟨f5, fr5⟩, q6, q7, q8, hF⟩ := hS2
            have hgl : g < w35.heap.size := hq0.lt
            have hzw : w.heap.size ≤ w35.heap.size := hF.size
            have hz1 : w1.heap.size < w35.heap.size := World.block_lt_of_cell? w35 _ q0
            have hz2 : T < w35.heap.size := World.block_lt_of_cell? w35 _ q2
            have hzk35 : w32.heap.size ≤ w35.heap.size := q4.size
            have hz3 : w33.heap.size < w35.heap.size := World.block_lt_of_cell? w35 _ q6
            refine ⟨_, rfl, (fun W => W.cell? ⟨w1.heap.size, 0, none⟩ = some (.int .i64 (x)) ∧ W.cell? ⟨w1.heap.size, 1, none⟩ = some (.int .i64 (y)) ∧ W.cell? ⟨T, 0, none⟩ = some (.int .i64 (u)) ∧ W.cell? ⟨T, 1, none⟩ = some (.int .i64 (v)) ∧ w.grownBy W (some g)), ⟨hS.2.1, hS.2.2.1, hS.2.2.2.1, hS.2.2.2.2.1, hS.2.2.2.2.2.2.2.2.2.2⟩, (fun W h => h), ?_⟩
            simp only [Act.put, pa, pb, pc]
            repeat (first
              | ((refine seq_skip (by rfl) (by rfl) ?_); simp only [Act.put, pa, pb, pc])
              | ((refine seq_val (v := ?_) (by rfl) (by rfl) (fun w hS => ?_) ?_); rotate_left; (focus ((try dsimp only at hS); go_simp; (try (with_reducible rfl)); done)); simp only [Act.put, pa, pb, pc]))
            refine seq_deed (v := ?_) (w' := ?_) (by rfl) (by rfl) ?_ ?_
            rotate_left
            rotate_left
            focus (go_simp; (constructor <;> (with_reducible rfl)); done)
            generalize hgw36 : World.alloc w35 _ = w36
            have hb : Below w35.heap.size w35 w36 := by rw [← hgw36]; go_grown
            obtain ⟨n9, n0, n1, n2⟩ := al3 hgw36
            have hT := ai (hq0.below hb) <| ai (kc hb q0) <| ai (kc hb q1) <| ai (kc hb q2) <| ai (kc hb q3) <| ai (gb_below q4 hb) <| ai (kf hb f5 fr5) <| ai (kc hb q6) <| ai (kc hb q7) <| ai (kc hb q8) <| ai (n9) <| ai (n0) <| ai (n1) <| ai (n2) <| gb_below (hS.2.2.2.2.2.2.2.2.2.2) hb
            clear n9 n0 n1 n2
            clear hS hb hgw36
            have hS := hT
            clear hT
            have hS2 := hS
            obtain ⟨hq0, q0, q1, q2, q3, q4, ⟨f5, fr5⟩, q6, q7, q8, ⟨f9, fr9⟩, q10, q11, q12, hF⟩ := hS2
            have hgl : g < w36.heap.size := hq0.lt
            have hzw : w.heap.size ≤ w36.heap.size := hF.size
            have hz1 : w1.heap.size < w36.heap.size := World.block_lt_of_cell? w36 _ q0
            have hz2 : T < w36.heap.size := World.block_lt_of_cell? w36 _ q2
            have hzk36 : w32.heap.size ≤ w36.heap.size := q4.size
            have hz3 : w33.heap.size < w36.heap.size := World.block_lt_of_cell? w36 _ q6
            have hz4 : w35.heap.size < w36.heap.size := World.block_lt_of_cell? w36 _ q10
            refine ⟨(fun W => W.cell? ⟨w1.heap.size, 0, none⟩ = some (.int .i64 (x)) ∧ W.cell? ⟨w1.heap.size, 1, none⟩ = some (.int .i64 (y)) ∧ W.cell? ⟨T, 0, none⟩ = some (.int .i64 (u)) ∧ W.cell? ⟨T, 1, none⟩ = some (.int .i64 (v)) ∧ w.grownBy W (some g)), ⟨hS.2.1, hS.2.2.1, hS.2.2.2.1, hS.2.2.2.2.1, hS.2.2.2.2.2.2.2.2.2.2.2.2.2.2⟩, (fun W h => h), ?_⟩
            simp only [Act.put, pa, pb, pc]
            repeat (first
              | ((refine seq_skip (by rfl) (by rfl) ?_); simp only [Act.put, pa, pb, pc])
              | ((refine seq_val (v := ?_) (by rfl) (by rfl) (fun w hS => ?_) ?_); rotate_left; (focus ((try dsimp only at hS); go_simp; (try (with_reducible rfl)); done)); simp only [Act.put, pa, pb, pc]))
            obtain ⟨w37, hw37⟩ : ∃ W, W = ((w36.setCell ⟨w35.heap.size, 0, none⟩ (.bool o)).setCell ⟨w35.heap.size, 1, none⟩ (.int .i64 a)).setCell ⟨w35.heap.size, 2, none⟩ (.int .i64 b) := ⟨_, rfl⟩
            obtain ⟨dd0, dd1, dd2, dd3, dd4⟩ := box3_sets q10 q11 q12 (.bool o) (.int .i64 a) (.int .i64 b)
            refine seq_store (w' := w37) (by rfl) (by rfl) (by rw [hw37]; go_simp; (try (with_reducible rfl)); done) ?_
            obtain ⟨dw0, dw1, dw2⟩ := s3w hw37 q10 q11 q12
            have hT := ai (s3c hw37 (by omega) hq0) <| ai (s3o hw37 (by omega) q0) <| ai (s3o hw37 (by omega) q1) <| ai (s3o hw37 (by omega) q2) <| ai (s3o hw37 (by omega) q3) <| ai (s3g hw37 (by omega) q4) <| ai (s3f hw37 f5 fr5) <| ai (s3o hw37 (by omega) q6) <| ai (s3o hw37 (by omega) q7) <| ai (s3o hw37 (by omega) q8) <| ai (s3f hw37 f9 fr9) <| ai (dw0) <| ai (dw1) <| ai (dw2) <| s3g hw37 (by omega) hF
            clear dw0 dw1 dw2
            (try clear hS)
            have hS := hT
            clear hT dd0 dd1 dd2 dd3 dd4 hw37
            have hS2 := hS
            obtain ⟨hq0, q0, q1, q2, q3, q4, ⟨f5, fr5⟩, q6, q7, q8, ⟨f9, fr9⟩, q10, q11, q12, hF⟩ := hS2
            have hgl : g < w37.heap.size := hq0.lt
            have hzw : w.heap.size ≤ w37.heap.size := hF.size
            have hz1 : w1.heap.size < w37.heap.size := World.block_lt_of_cell? w37 _ q0
            have hz2 : T < w37.heap.size := World.block_lt_of_cell? w37 _ q2
            have hzk37 : w32.heap.size ≤ w37.heap.size := q4.size
            have hz3 : w33.heap.size < w37.heap.size := World.block_lt_of_cell? w37 _ q6
            have hz4 : w35.heap.size < w37.heap.size := World.block_lt_of_cell? w37 _ q10
            refine ⟨(fun W => W.cell? ⟨w1.heap.size, 0, none⟩ = some (.int .i64 (x)) ∧ W.cell? ⟨w1.heap.size, 1, none⟩ = some (.int .i64 (y)) ∧ W.cell? ⟨T, 0, none⟩ = some (.int .i64 (u)) ∧ W.cell? ⟨T, 1, none⟩ = some (.int .i64 (v)) ∧ w.grownBy W (some g)), ⟨hS.2.1, hS.2.2.1, hS.2.2.2.1, hS.2.2.2.2.1, hS.2.2.2.2.2.2.2.2.2.2.2.2.2.2⟩, (fun W h => h), ?_⟩
            simp only [Act.put, pa, pb, pc]
            repeat (first
              | ((refine seq_skip (by rfl) (by rfl) ?_); simp only [Act.put, pa, pb, pc])
              | ((refine seq_val (v := ?_) (by rfl) (by rfl) (fun w hS => ?_) ?_); rotate_left; (focus ((try dsimp only at hS); go_simp; (try (with_reducible rfl)); done)); simp only [Act.put, pa, pb, pc]))
            obtain ⟨w38, hw38⟩ : ∃ W, W = ((w37.setCell ⟨w33.heap.size, 0, none⟩ (.bool (!o))).setCell ⟨w33.heap.size, 1, none⟩ (.int .i64 a2)).setCell ⟨w33.heap.size, 2, none⟩ (.int .i64 b2) := ⟨_, rfl⟩
            obtain ⟨dd0, dd1, dd2, dd3, dd4⟩ := box3_sets q6 q7 q8 (.bool (!o)) (.int .i64 a2) (.int .i64 b2)
            refine seq_store (w' := w38) (by rfl) (by rfl) (by rw [hw38]; go_simp; (try (with_reducible rfl)); done) ?_
            obtain ⟨dw0, dw1, dw2⟩ := s3w hw38 q6 q7 q8
            have hT := ai (s3c hw38 (by omega) hq0) <| ai (s3o hw38 (by omega) q0) <| ai (s3o hw38 (by omega) q1) <| ai (s3o hw38 (by omega) q2) <| ai (s3o hw38 (by omega) q3) <| ai (s3g hw38 (by omega) q4) <| ai (s3f hw38 f5 fr5) <| ai (dw0) <| ai (dw1) <| ai (dw2) <| ai (s3f hw38 f9 fr9) <| ai (s3o hw38 (by omega) q10) <| ai (s3o hw38 (by omega) q11) <| ai (s3o hw38 (by omega) q12) <| s3g hw38 (by omega) hF
            clear dw0 dw1 dw2
            (try clear hS)
            have hS := hT
            clear hT dd0 dd1 dd2 dd3 dd4 hw38
            have hS2 := hS
            obtain ⟨hq0, q0, q1, q2, q3, q4, ⟨f5, fr5⟩, q6, q7, q8, ⟨f9, fr9⟩, q10, q11, q12, hF⟩ := hS2
            have hgl : g < w38.heap.size := hq0.lt
            have hzw : w.heap.size ≤ w38.heap.size := hF.size
            have hz1 : w1.heap.size < w38.heap.size := World.block_lt_of_cell? w38 _ q0
            have hz2 : T < w38.heap.size := World.block_lt_of_cell? w38 _ q2
            have hzk38 : w32.heap.size ≤ w38.heap.size := q4.size
            have hz3 : w33.heap.size < w38.heap.size := World.block_lt_of_cell? w38 _ q6
            have hz4 : w35.heap.size < w38.heap.size := World.block_lt_of_cell? w38 _ q10
            refine ⟨(fun W => W.cell? ⟨w1.heap.size, 0, none⟩ = some (.int .i64 (x)) ∧ W.cell? ⟨w1.heap.size, 1, none⟩ = some (.int .i64 (y)) ∧ W.cell? ⟨T, 0, none⟩ = some (.int .i64 (u)) ∧ W.cell? ⟨T, 1, none⟩ = some (.int .i64 (v)) ∧ w.grownBy W (some g)), ⟨hS.2.1, hS.2.2.1, hS.2.2.2.1, hS.2.2.2.2.1, hS.2.2.2.2.2.2.2.2.2.2.2.2.2.2⟩, (fun W h => h), ?_⟩
            simp only [Act.put, pa, pb, pc]
            repeat (first
              | ((refine seq_skip (by rfl) (by rfl) ?_); simp only [Act.put, pa, pb, pc])
              | ((refine seq_val (v := ?_) (by rfl) (by rfl) (fun w hS => ?_) ?_); rotate_left; (focus ((try dsimp only at hS); go_simp; (try (with_reducible rfl)); done)); simp only [Act.put, pa, pb, pc]))
            refine seq_nil ?_
            go_wp2_with fail
            go_meet
            case rel => exact ⟨w35.heap.size, w33.heap.size, a, b, a2, b2, rfl, rfl, ⟨by omega, by omega, by omega⟩, hS.1, gf (hS.2.2.2.2.2.1) (HK9.out.2.1).1 (HK9.out.2.1).2 (by omega), gc (hS.2.2.2.2.2.1) (HK9.out.2.2.1) (by omega), gc (hS.2.2.2.2.2.1) (HK9.out.2.2.2.1) (by omega), gc (hS.2.2.2.2.2.1) (HK9.out.2.2.2.2.1) (by omega), gf (hS.2.2.2.2.2.1) (HK9.out.2.2.2.2.2.1).1 (HK9.out.2.2.2.2.2.1).2 (by omega), gc (hS.2.2.2.2.2.1) (HK9.out.2.2.2.2.2.2.1) (by omega), gc (hS.2.2.2.2.2.1) (HK9.out.2.2.2.2.2.2.2.1) (by omega), gc (hS.2.2.2.2.2.1) (HK9.out.2.2.2.2.2.2.2.2.1) (by omega), hS.2.2.2.2.2.2.2.2.2.2.1, hS.2.2.2.2.2.2.2.2.2.2.2.1, hS.2.2.2.2.2.2.2.2.2.2.2.2.1, hS.2.2.2.2.2.2.2.2.2.2.2.2.2.1, hS.2.2.2.2.2.2.1, hS.2.2.2.2.2.2.2.1, hS.2.2.2.2.2.2.2.2.1, hS.2.2.2.2.2.2.2.2.2.1, hS.2.2.2.2.2.2.2.2.2.2.2.2.2.2⟩
          · refine all_split 8 7 (by decide) ?_ ?_
            · refine all_seq_core [0, 1, 3, 4, 5, 2, 6, 8, 7, 9, 10] (fun W => W.cell? ⟨w1.heap.size, 0, none⟩ = some (.int .i64 (x)) ∧ W.cell? ⟨w1.heap.size, 1, none⟩ = some (.int .i64 (y)) ∧ W.cell? ⟨T, 0, none⟩ = some (.int .i64 (u)) ∧ W.cell? ⟨T, 1, none⟩ = some (.int .i64 (v)) ∧ w.grownBy W (some g)) (Core.trans (Core.trans (Core.trans (Core.trans (addE_core 2 7 _) (addE_core 6 7 _)) (addE_core 2 8 _)) (addE_core 6 8 _)) (addE_core 8 7 _)) (by kernel_rfl) ⟨hS.2.1, hS.2.2.1, hS.2.2.2.1, hS.2.2.2.2.1, hS.2.2.2.2.2.2⟩ ?_
              simp only [byNum, List.getElem?_cons_zero, List.getElem?_cons_succ]
              repeat (first
                | ((refine seq_skip (by rfl) (by rfl) ?_); simp only [Act.put, pa, pb, pc])
                | ((refine seq_val (v := ?_) (by rfl) (by rfl) (fun w hS => ?_) ?_); rotate_left; (focus ((try dsimp only at hS); go_simp; (try (with_reducible rfl)); done)); simp only [Act.put, pa, pb, pc]))
              refine seq_call (f := ?_) (args := ?_) (by rfl) (by rfl) ?_ ?_
              rotate_left
              rotate_left
              focus (go_simp; (constructor <;> (with_reducible rfl)); done)
              refine (l7Of_ex x y o (by omega) (by omega) _).mono ?_
              rintro e w33 ⟨a, b, rfl, hb⟩
              have hT := ai (hq0.below hb) <| ai (kc hb q0) <| ai (kc hb q1) <| ai (kc hb q2) <| ai (kc hb q3) <| ai (gb_below q4 hb) <| gb_below hF hb
              clear hS hb
              have hS := hT
              clear hT
              have hS2 := hS
              obtain ⟨hq0, q0, q1, q2, q3, q4, hF⟩ := hS2
              have hgl : g < w33.heap.size := hq0.lt
              have hzw : w.heap.size ≤ w33.heap.size := hF.size
              have hz1 : w1.heap.size < w33.heap.size := World.block_lt_of_cell? w33 _ q0
              have hz2 : T < w33.heap.size := World.block_lt_of_cell? w33 _ q2
              have hzk33 : w32.heap.size ≤ w33.heap.size := q4.size
              refine ⟨_, rfl, (fun W => W.cell? ⟨w1.heap.size, 0, none⟩ = some (.int .i64 (x)) ∧ W.cell? ⟨w1.heap.size, 1, none⟩ = some (.int .i64 (y)) ∧ W.cell? ⟨T, 0, none⟩ = some (.int .i64 (u)) ∧ W.cell? ⟨T, 1, none⟩ = some (.int .i64 (v)) ∧ w.grownBy W (some g)), ⟨hS.2.1, hS.2.2.1, hS.2.2.2.1, hS.2.2.2.2.1, hS.2.2.2.2.2.2⟩, (fun W h => h), ?_⟩
              simp only [Act.put, pa, pb, pc]
              repeat (first
                | ((refine seq_skip (by rfl) (by rfl) ?_); simp only [Act.put, pa, pb, pc])
                | ((refine seq_val (v := ?_) (by rfl) (by rfl) (fun w hS => ?_) ?_); rotate_left; (focus ((try dsimp only at hS); go_simp; (try (with_reducible rfl)); done)); simp only [Act.put, pa, pb, pc]))
              refine seq_call (f := ?_) (args := ?_) (by rfl) (by rfl) ?_ ?_
              rotate_left
              rotate_left
              focus (go_simp; (constructor <;> (with_reducible rfl)); done)
              refine (l7Of_ex u v (!o) (by omega) (by omega) _).mono ?_
              rintro e w34 ⟨a2, b2, rfl, hb⟩
              have hT := ai (hq0.below hb) <| ai (kc hb q0) <| ai (kc hb q1) <| ai (kc hb q2) <| ai (kc hb q3) <| ai (gb_below q4 hb) <| gb_below hF hb
              clear hS hb
              have hS := hT
              clear hT
              have hS2 := hS
              obtain ⟨hq0, q0, q1, q2, q3, q4, hF⟩ := hS2
              have hgl : g < w34.heap.size := hq0.lt
              have hzw : w.heap.size ≤ w34.heap.size := hF.size
              have hz1 : w1.heap.size < w34.heap.size := World.block_lt_of_cell? w34 _ q0
              have hz2 : T < w34.heap.size := World.block_lt_of_cell? w34 _ q2
              have hzk34 : w32.heap.size ≤ w34.heap.size := q4.size
              refine ⟨_, rfl, (fun W => W.cell? ⟨w1.heap.size, 0, none⟩ = some (.int .i64 (x)) ∧ W.cell? ⟨w1.heap.size, 1, none⟩ = some (.int .i64 (y)) ∧ W.cell? ⟨T, 0, none⟩ = some (.int .i64 (u)) ∧ W.cell? ⟨T, 1, none⟩ = some (.int .i64 (v)) ∧ w.grownBy W (some g)), ⟨hS.2.1, hS.2.2.1, hS.2.2.2.1, hS.2.2.2.2.1, hS.2.2.2.2.2.2⟩, (fun W h => h), ?_⟩
              simp only [Act.put, pa, pb, pc]
              repeat (first
                | ((refine seq_skip (by rfl) (by rfl) ?_); simp only [Act.put, pa, pb, pc])
                | ((refine seq_val (v := ?_) (by rfl) (by rfl) (fun w hS => ?_) ?_); rotate_left; (focus ((try dsimp only at hS); go_simp; (try (with_reducible rfl)); done)); simp only [Act.put, pa, pb, pc]))
              refine seq_deed (v := ?_) (w' := ?_) (by rfl) (by rfl) ?_ ?_
              rotate_left
              rotate_left
              focus (go_simp; (constructor <;> (with_reducible rfl)); done)
              generalize hgw35 : World.alloc w34 _ = w35
              have hb : Below w34.heap.size w34 w35 := by rw [← hgw35]; go_grown
              obtain ⟨n9, n0, n1, n2⟩ := al3 hgw35
              have hT := ai (hq0.below hb) <| ai (kc hb q0) <| ai (kc hb q1) <| ai (kc hb q2) <| ai (kc hb q3) <| ai (gb_below q4 hb) <| ai (n9) <| ai (n0) <| ai (n1) <| ai (n2) <| gb_below (hS.2.2.2.2.2.2) hb
              clear n9 n0 n1 n2
              clear hS hb hgw35
              have hS := hT
              clear hT
              have hS2 := hS
              obtain ⟨hq0, q0, q1, q2, q3, q4, ⟨f5, fr5⟩, q6, q7, q8, hF⟩ := hS2
              have hgl : g < w35.heap.size := hq0.lt
              have hzw : w.heap.size ≤ w35.heap.size := hF.size
              have hz1 : w1.heap.size < w35.heap.size := World.block_lt_of_cell? w35 _ q0
              have hz2 : T < w35.heap.size := World.block_lt_of_cell? w35 _ q2
              have hzk35 : w32.heap.size ≤ w35.heap.size := q4.size
              have hz3 : w34.heap.size < w35.heap.size := World.block_lt_of_cell? w35 _ q6
              refine ⟨(fun W => W.cell? ⟨w1.heap.size, 0, none⟩ = some (.int .i64 (x)) ∧ W.cell? ⟨w1.heap.size, 1, none⟩ = some (.int .i64 (y)) ∧ W.cell? ⟨T, 0, none⟩ = some (.int .i64 (u)) ∧ W.cell? ⟨T, 1, none⟩ = some (.int .i64 (v)) ∧ w.grownBy W (some g)), ⟨hS.2.1, hS.2.2.1, hS.2.2.2.1, hS.2.2.2.2.1, hS.2.2.2.2.2.2.2.2.2.2⟩, (fun W h => h), ?_⟩
              simp only [Act.put, pa, pb, pc]
              repeat (first
                | ((refine seq_skip (by rfl) (by rfl) ?_); simp only [Act.put, pa, pb, pc])
                | ((refine seq_val (v := ?_) (by rfl) (by rfl) (fun w hS => ?_) ?_); rotate_left; (focus ((try dsimp only at hS); go_simp; (try (with_reducible rfl)); done)); simp only [Act.put, pa, pb, pc]))
              refine seq_deed (v := ?_) (w' := ?_) (by rfl) (by rfl) ?_ ?_
              rotate_left
              rotate_left
              focus (go_simp; (constructor <;> (with_reducible rfl)); done)
              generalize hgw36 : World.alloc w35 _ = w36
              have hb : Below w35.heap.size w35 w36 := by rw [← hgw36]; go_grown
              obtain ⟨n9, n0, n1, n2⟩ := al3 hgw36
              have hT := ai (hq0.below hb) <| ai (kc hb q0) <| ai (kc hb q1) <| ai (kc hb q2) <| ai (kc hb q3) <| ai (gb_below q4 hb) <| ai (kf hb f5 fr5) <| ai (kc hb q6) <| ai (kc hb q7) <| ai (kc hb q8) <| ai (n9) <| ai (n0) <| ai (n1) <| ai (n2) <| gb_below (hS.2.2.2.2.2.2.2.2.2.2) hb
              clear n9 n0 n1 n2
              clear hS hb hgw36
              have hS := hT
              clear hT
              have hS2 := hS
              obtain ⟨hq0, q0, q1, q2, q3, q4, ⟨f5, fr5⟩, q6, q7, q8, ⟨f9, fr9⟩, q10, q11, q12, hF⟩ := hS2
              have hgl : g < w36.heap.size := hq0.lt
              have hzw : w.heap.size ≤ w36.heap.size := hF.size
              have hz1 : w1.heap.size < w36.heap.size := World.block_lt_of_cell? w36 _ q0
              have hz2 : T < w36.heap.size := World.block_lt_of_cell? w36 _ q2
              have hzk36 : w32.heap.size ≤ w36.heap.size := q4.size
              have hz3 : w34.heap.size < w36.heap.size := World.block_lt_of_cell? w36 _ q6
              have hz4 : w35.heap.size < w36.heap.size := World.block_lt_of_cell? w36 _ q10
              refine ⟨(fun W => W.cell? ⟨w1.heap.size, 0, none⟩ = some (.int .i64 (x)) ∧ W.cell? ⟨w1.heap.size, 1, none⟩ = some (.int .i64 (y)) ∧ W.cell? ⟨T, 0, none⟩ = some (.int .i64 (u)) ∧ W.cell? ⟨T, 1, none⟩ = some (.int .i64 (v)) ∧ w.grownBy W (some g)), ⟨hS.2.1, hS.2.2.1, hS.2.2.2.1, hS.2.2.2.2.1, hS.2.2.2.2.2.2.2.2.2.2.2.2.2.2⟩, (fun W h => h), ?_⟩
              simp only [Act.put, pa, pb, pc]
              repeat (first
                | ((refine seq_skip (by rfl) (by rfl) ?_); simp only [Act.put, pa, pb, pc])
                | ((refine seq_val (v := ?_) (by rfl) (by rfl) (fun w hS => ?_) ?_); rotate_left; (focus ((try dsimp only at hS); go_simp; (try (with_reducible rfl)); done)); simp only [Act.put, pa, pb, pc]))
              obtain ⟨w37, hw37⟩ : ∃ W, W = ((w36.setCell ⟨w35.heap.size, 0, none⟩ (.bool o)).setCell ⟨w35.heap.size, 1, none⟩ (.int .i64 a)).setCell ⟨w35.heap.size, 2, none⟩ (.int .i64 b) := ⟨_, rfl⟩
              obtain ⟨dd0, dd1, dd2, dd3, dd4⟩ := box3_sets q10 q11 q12 (.bool o) (.int .i64 a) (.int .i64 b)
              refine seq_store (w' := w37) (by rfl) (by rfl) (by rw [hw37]; go_simp; (try (with_reducible rfl)); done) ?_
              obtain ⟨dw0, dw1, dw2⟩ := s3w hw37 q10 q11 q12
              have hT := ai (s3c hw37 (by omega) hq0) <| ai (s3o hw37 (by omega) q0) <| ai (s3o hw37 (by omega) q1) <| ai (s3o hw37 (by omega) q2) <| ai (s3o hw37 (by omega) q3) <| ai (s3g hw37 (by omega) q4) <| ai (s3f hw37 f5 fr5) <| ai (s3o hw37 (by omega) q6) <| ai (s3o hw37 (by omega) q7) <| ai (s3o hw37 (by omega) q8) <| ai (s3f hw37 f9 fr9) <| ai (dw0) <| ai (dw1) <| ai (dw2) <| s3g hw37 (by omega) hF
              clear dw0 dw1 dw2
              (try clear hS)
              have hS := hT
              clear hT dd0 dd1 dd2 dd3 dd4 hw37
              have hS2 := hS
              obtain ⟨hq0, q0, q1, q2, q3, q4, ⟨f5, fr5⟩, q6, q7, q8, ⟨f9, fr9⟩, q10, q11, q12, hF⟩ := hS2
              have hgl : g < w37.heap.size := hq0.lt
              have hzw : w.heap.size ≤ w37.heap.size := hF.size
              have hz1 : w1.heap.size < w37.heap.size := World.block_lt_of_cell? w37 _ q0
              have hz2 : T < w37.heap.size := World.block_lt_of_cell? w37 _ q2
              have hzk37 : w32.heap.size ≤ w37.heap.size := q4.size
              have hz3 : w34.heap.size < w37.heap.size := World.block_lt_of_cell? w37 _ q6
              have hz4 : w35.heap.size < w37.heap.size := World.block_lt_of_cell? w37 _ q10
              refine ⟨(fun W => W.cell? ⟨w1.heap.size, 0, none⟩ = some (.int .i64 (x)) ∧ W.cell? ⟨w1.heap.size, 1, none⟩ = some (.int .i64 (y)) ∧ W.cell? ⟨T, 0, none⟩ = some (.int .i64 (u)) ∧ W.cell? ⟨T, 1, none⟩ = some (.int .i64 (v)) ∧ w.grownBy W (some g)), ⟨hS.2.1, hS.2.2.1, hS.2.2.2.1, hS.2.2.2.2.1, hS.2.2.2.2.2.2.2.2.2.2.2.2.2.2⟩, (fun W h => h), ?_⟩
              simp only [Act.put, pa, pb, pc]
              repeat (first
                | ((refine seq_skip (by rfl) (by rfl) ?_); simp only [Act.put, pa, pb, pc])
                | ((refine seq_val (v := ?_) (by rfl) (by rfl) (fun w hS => ?_) ?_); rotate_left; (focus ((try dsimp only at hS); go_simp; (try (with_reducible rfl)); done)); simp only [Act.put, pa, pb, pc]))
              obtain ⟨w38, hw38⟩ : ∃ W, W = ((w37.setCell ⟨w34.heap.size, 0, none⟩ (.bool (!o))).setCell ⟨w34.heap.size, 1, none⟩ (.int .i64 a2)).setCell ⟨w34.heap.size, 2, none⟩ (.int .i64 b2) := ⟨_, rfl⟩
              obtain ⟨dd0, dd1, dd2, dd3, dd4⟩ := box3_sets q6 q7 q8 (.bool (!o)) (.int .i64 a2) (.int .i64 b2)
              refine seq_store (w' := w38) (by rfl) (by rfl) (by rw [hw38]; go_simp; (try (with_reducible rfl)); done) ?_
              obtain ⟨dw0, dw1, dw2⟩ := s3w hw38 q6 q7 q8
              have hT := ai (s3c hw38 (by omega) hq0) <| ai (s3o hw38 (by omega) q0) <| ai (s3o hw38 (by omega) q1) <| ai (s3o hw38 (by omega) q2) <| ai (s3o hw38 (by omega) q3) <| ai (s3g hw38 (by omega) q4) <| ai (s3f hw38 f5 fr5) <| ai (dw0) <| ai (dw1) <| ai (dw2) <| ai (s3f hw38 f9 fr9) <| ai (s3o hw38 (by omega) q10) <| ai (s3o hw38 (by omega) q11) <| ai (s3o hw38 (by omega) q12) <| s3g hw38 (by omega) hF
              clear dw0 dw1 dw2
              (try clear hS)
              have hS := hT
              clear hT dd0 dd1 dd2 dd3 dd4 hw38
              have hS2 := hS
              obtain ⟨hq0, q0, q1, q2, q3, q4, ⟨f5, fr5⟩, q6, q7, q8, ⟨f9, fr9⟩, q10, q11, q12, hF⟩ := hS2
              have hgl : g < w38.heap.size := hq0.lt
              have hzw : w.heap.size ≤ w38.heap.size := hF.size
              have hz1 : w1.heap.size < w38.heap.size := World.block_lt_of_cell? w38 _ q0
              have hz2 : T < w38.heap.size := World.block_lt_of_cell? w38 _ q2
              have hzk38 : w32.heap.size ≤ w38.heap.size := q4.size
              have hz3 : w34.heap.size < w38.heap.size := World.block_lt_of_cell? w38 _ q6
              have hz4 : w35.heap.size < w38.heap.size := World.block_lt_of_cell? w38 _ q10
              refine ⟨(fun W => W.cell? ⟨w1.heap.size, 0, none⟩ = some (.int .i64 (x)) ∧ W.cell? ⟨w1.heap.size, 1, none⟩ = some (.int .i64 (y)) ∧ W.cell? ⟨T, 0, none⟩ = some (.int .i64 (u)) ∧ W.cell? ⟨T, 1, none⟩ = some (.int .i64 (v)) ∧ w.grownBy W (some g)), ⟨hS.2.1, hS.2.2.1, hS.2.2.2.1, hS.2.2.2.2.1, hS.2.2.2.2.2.2.2.2.2.2.2.2.2.2⟩, (fun W h => h), ?_⟩
              simp only [Act.put, pa, pb, pc]
              repeat (first
                | ((refine seq_skip (by rfl) (by rfl) ?_); simp only [Act.put, pa, pb, pc])
                | ((refine seq_val (v := ?_) (by rfl) (by rfl) (fun w hS => ?_) ?_); rotate_left; (focus ((try dsimp only at hS); go_simp; (try (with_reducible rfl)); done)); simp only [Act.put, pa, pb, pc]))
              refine seq_nil ?_
              go_wp2_with fail
              go_meet
              case rel => exact ⟨w35.heap.size, w34.heap.size, a, b, a2, b2, rfl, rfl, ⟨by omega, by omega, by omega⟩, hS.1, gf (hS.2.2.2.2.2.1) (HK9.out.2.1).1 (HK9.out.2.1).2 (by omega), gc (hS.2.2.2.2.2.1) (HK9.out.2.2.1) (by omega), gc (hS.2.2.2.2.2.1) (HK9.out.2.2.2.1) (by omega), gc (hS.2.2.2.2.2.1) (HK9.out.2.2.2.2.1) (by omega), gf (hS.2.2.2.2.2.1) (HK9.out.2.2.2.2.2.1).1 (HK9.out.2.2.2.2.2.1).2 (by omega), gc (hS.2.2.2.2.2.1) (HK9.out.2.2.2.2.2.2.1) (by omega), gc (hS.2.2.2.2.2.1) (HK9.out.2.2.2.2.2.2.2.1) (by omega), gc (hS.2.2.2.2.2.1) (HK9.out.2.2.2.2.2.2.2.2.1) (by omega), hS.2.2.2.2.2.2.2.2.2.2.1, hS.2.2.2.2.2.2.2.2.2.2.2.1, hS.2.2.2.2.2.2.2.2.2.2.2.2.1, hS.2.2.2.2.2.2.2.2.2.2.2.2.2.1, hS.2.2.2.2.2.2.1, hS.2.2.2.2.2.2.2.1, hS.2.2.2.2.2.2.2.2.1, hS.2.2.2.2.2.2.2.2.2.1, hS.2.2.2.2.2.2.2.2.2.2.2.2.2.2⟩
            · refine all_seq_core [0, 1, 3, 4, 5, 2, 6, 7, 8, 9, 10] (fun W => W.cell? ⟨w1.heap.size, 0, none⟩ = some (.int .i64 (x)) ∧ W.cell? ⟨w1.heap.size, 1, none⟩ = some (.int .i64 (y)) ∧ W.cell? ⟨T, 0, none⟩ = some (.int .i64 (u)) ∧ W.cell? ⟨T, 1, none⟩ = some (.int .i64 (v)) ∧ w.grownBy W (some g)) (Core.trans (Core.trans (Core.trans (Core.trans (addE_core 2 7 _) (addE_core 6 7 _)) (addE_core 2 8 _)) (addE_core 6 8 _)) (addE_core 7 8 _)) (by kernel_rfl) ⟨hS.2.1, hS.2.2.1, hS.2.2.2.1, hS.2.2.2.2.1, hS.2.2.2.2.2.2⟩ ?_
              simp only [byNum, List.getElem?_cons_zero, List.getElem?_cons_succ]
              repeat (first
                | ((refine seq_skip (by rfl) (by rfl) ?_); simp only [Act.put, pa, pb, pc])
                | ((refine seq_val (v := ?_) (by rfl) (by rfl) (fun w hS => ?_) ?_); rotate_left; (focus ((try dsimp only at hS); go_simp; (try (with_reducible rfl)); done)); simp only [Act.put, pa, pb, pc]))
              refine seq_call (f := ?_) (args := ?_) (by rfl) (by rfl) ?_ ?_
              rotate_left
              rotate_left
              focus (go_simp; (constructor <;> (with_reducible rfl)); done)
              refine (l7Of_ex x y o (by omega) (by omega) _).mono ?_
              rintro e w33 ⟨a, b, rfl, hb⟩
              have hT := ai (hq0.below hb) <| ai (kc hb q0) <| ai (kc hb q1) <| ai (kc hb q2) <| ai (kc hb q3) <| ai (gb_below q4 hb) <| gb_below hF hb
              clear hS hb
              have hS := hT
              clear hT
              have hS2 := hS
              obtain ⟨hq0, q0, q1, q2, q3, q4, hF⟩ := hS2
              have hgl : g < w33.heap.size := hq0.lt
              have hzw : w.heap.size ≤ w33.heap.size := hF.size
              have hz1 : w1.heap.size < w33.heap.size := World.block_lt_of_cell? w33 _ q0
              have hz2 : T < w33.heap.size := World.block_lt_of_cell? w33 _ q2
              have hzk33 : w32.heap.size ≤ w33.heap.size := q4.size
              refine ⟨_, rfl, (fun W => W.cell? ⟨w1.heap.size, 0, none⟩ = some (.int .i64 (x)) ∧ W.cell? ⟨w1.heap.size, 1, none⟩ = some (.int .i64 (y)) ∧ W.cell? ⟨T, 0, none⟩ = some (.int .i64 (u)) ∧ W.cell? ⟨T, 1, none⟩ = some (.int .i64 (v)) ∧ w.grownBy W (some g)), ⟨hS.2.1, hS.2.2.1, hS.2.2.2.1, hS.2.2.2.2.1, hS.2.2.2.2.2.2⟩, (fun W h => h), ?_⟩
              simp only [Act.put, pa, pb, pc]
              repeat (first
                | ((refine seq_skip (by rfl) (by rfl) ?_); simp only [Act.put, pa, pb, pc])
                | ((refine seq_val (v := ?_) (by rfl) (by rfl) (fun w hS => ?_) ?_); rotate_left; (focus ((try dsimp only at hS); go_simp; (try (with_reducible rfl)); done)); simp only [Act.put, pa, pb, pc]))
              refine seq_call (f := ?_) (args := ?_) (by rfl) (by rfl) ?_ ?_
              rotate_left
              rotate_left
              focus (go_simp; (constructor <;> (with_reducible rfl)); done)
              refine (l7Of_ex u v (!o) (by omega) (by omega) _).mono ?_
              rintro e w34 ⟨a2, b2, rfl, hb⟩
              have hT := ai (hq0.below hb) <| ai (kc hb q0) <| ai (kc hb q1) <| ai (kc hb q2) <| ai (kc hb q3) <| ai (gb_below q4 hb) <| gb_below hF hb
              clear hS hb
              have hS := hT
              clear hT
              have hS2 := hS
              obtain ⟨hq0, q0, q1, q2, q3, q4, hF⟩ := hS2
              have hgl : g < w34.heap.size := hq0.lt
              have hzw : w.heap.size ≤ w34.heap.size := hF.size
              have hz1 : w1.heap.size < w34.heap.size := World.block_lt_of_cell? w34 _ q0
              have hz2 : T < w34.heap.size := World.block_lt_of_cell? w34 _ q2
              have hzk34 : w32.heap.size ≤ w34.heap.size := q4.size
              refine ⟨_, rfl, (fun W => W.cell? ⟨w1.heap.size, 0, none⟩ = some (.int .i64 (x)) ∧ W.cell? ⟨w1.heap.size, 1, none⟩ = some (.int .i64 (y)) ∧ W.cell? ⟨T, 0, none⟩ = some (.int .i64 (u)) ∧ W.cell? ⟨T, 1, none⟩ = some (.int .i64 (v)) ∧ w.grownBy W (some g)), ⟨hS.2.1, hS.2.2.1, hS.2.2.2.1, hS.2.2.2.2.1, hS.2.2.2.2.2.2⟩, (fun W h => h), ?_⟩
              simp only [Act.put, pa, pb, pc]
              repeat (first
                | ((refine seq_skip (by rfl) (by rfl) ?_); simp only [Act.put, pa, pb, pc])
                | ((refine seq_val (v := ?_) (by rfl) (by rfl) (fun w hS => ?_) ?_); rotate_left; (focus ((try dsimp only at hS); go_simp; (try (with_reducible rfl)); done)); simp only [Act.put, pa, pb, pc]))
              refine seq_deed (v := ?_) (w' := ?_) (by rfl) (by rfl) ?_ ?_
              rotate_left
              rotate_left
              focus (go_simp; (constructor <;> (with_reducible rfl)); done)
              generalize hgw35 : World.alloc w34 _ = w35
              have hb : Below w34.heap.size w34 w35 := by rw [← hgw35]; go_grown
              obtain ⟨n9, n0, n1, n2⟩ := al3 hgw35
              have hT := ai (hq0.below hb) <| ai (kc hb q0) <| ai (kc hb q1) <| ai (kc hb q2) <| ai (kc hb q3) <| ai (gb_below q4 hb) <| ai (n9) <| ai (n0) <| ai (n1) <| ai (n2) <| gb_below (hS.2.2.2.2.2.2) hb
              clear n9 n0 n1 n2
              clear hS hb hgw35
              have hS := hT
              clear hT
              have hS2 := hS
              obtain ⟨hq0, q0, q1, q2, q3, q4, ⟨f5, fr5⟩, q6, q7, q8, hF⟩ := hS2
              have hgl : g < w35.heap.size := hq0.lt
              have hzw : w.heap.size ≤ w35.heap.size := hF.size
              have hz1 : w1.heap.size < w35.heap.size := World.block_lt_of_cell? w35 _ q0
              have hz2 : T < w35.heap.size := World.block_lt_of_cell? w35 _ q2
              have hzk35 : w32.heap.size ≤ w35.heap.size := q4.size
              have hz3 : w34.heap.size < w35.heap.size := World.block_lt_of_cell? w35 _ q6
              refine ⟨(fun W => W.cell? ⟨w1.heap.size, 0, none⟩ = some (.int .i64 (x)) ∧ W.cell? ⟨w1.heap.size, 1, none⟩ = some (.int .i64 (y)) ∧ W.cell? ⟨T, 0, none⟩ = some (.int .i64 (u)) ∧ W.cell? ⟨T, 1, none⟩ = some (.int .i64 (v)) ∧ w.grownBy W (some g)), ⟨hS.2.1, hS.2.2.1, hS.2.2.2.1, hS.2.2.2.2.1, hS.2.2.2.2.2.2.2.2.2.2⟩, (fun W h => h), ?_⟩
              simp only [Act.put, pa, pb, pc]
              repeat (first
                | ((refine seq_skip (by rfl) (by rfl) ?_); simp only [Act.put, pa, pb, pc])
                | ((refine seq_val (v := ?_) (by rfl) (by rfl) (fun w hS => ?_) ?_); rotate_left; (focus ((try dsimp only at hS); go_simp; (try (with_reducible rfl)); done)); simp only [Act.put, pa, pb, pc]))
              refine seq_deed (v := ?_) (w' := ?_) (by rfl) (by rfl) ?_ ?_
              rotate_left
              rotate_left
              focus (go_simp; (constructor <;> (with_reducible rfl)); done)
              generalize hgw36 : World.alloc w35 _ = w36
              have hb : Below w35.heap.size w35 w36 := by rw [← hgw36]; go_grown
              obtain ⟨n9, n0, n1, n2⟩ := al3 hgw36
              have hT := ai (hq0.below hb) <| ai (kc hb q0) <| ai (kc hb q1) <| ai (kc hb q2) <| ai (kc hb q3) <| ai (gb_below q4 hb) <| ai (kf hb f5 fr5) <| ai (kc hb q6) <| ai (kc hb q7) <| ai (kc hb q8) <| ai (n9) <| ai (n0) <| ai (n1) <| ai (n2) <| gb_below (hS.2.2.2.2.2.2.2.2.2.2) hb
              clear n9 n0 n1 n2
              clear hS hb hgw36
              have hS := hT
              clear hT
              have hS2 := hS
              obtain ⟨hq0, q0, q1, q2, q3, q4, ⟨f5, fr5⟩, q6, q7, q8, ⟨f9, fr9⟩, q10, q11, q12, hF⟩ := hS2
              have hgl : g < w36.heap.size := hq0.lt
              have hzw : w.heap.size ≤ w36.heap.size := hF.size
              have hz1 : w1.heap.size < w36.heap.size := World.block_lt_of_cell? w36 _ q0
              have hz2 : T < w36.heap.size := World.block_lt_of_cell? w36 _ q2
              have hzk36 : w32.heap.size ≤ w36.heap.size := q4.size
              have hz3 : w34.heap.size < w36.heap.size := World.block_lt_of_cell? w36 _ q6
              have hz4 : w35.heap.size < w36.heap.size := World.block_lt_of_cell? w36 _ q10
              refine ⟨(fun W => W.cell? ⟨w1.heap.size, 0, none⟩ = some (.int .i64 (x)) ∧ W.cell? ⟨w1.heap.size, 1, none⟩ = some (.int .i64 (y)) ∧ W.cell? ⟨T, 0, none⟩ = some (.int .i64 (u)) ∧ W.cell? ⟨T, 1, none⟩ = some (.int .i64 (v)) ∧ w.grownBy W (some g)), ⟨hS.2.1, hS.2.2.1, hS.2.2.2.1, hS.2.2.2.2.1, hS.2.2.2.2.2.2.2.2.2.2.2.2.2.2⟩, (fun W h => h), ?_⟩
              simp only [Act.put, pa, pb, pc]
              repeat (first
                | ((refine seq_skip (by rfl) (by rfl) ?_); simp only [Act.put, pa, pb, pc])
                | ((refine seq_val (v := ?_) (by rfl) (by rfl) (fun w hS => ?_) ?_); rotate_left; (focus ((try dsimp only at hS); go_simp; (try (with_reducible rfl)); done)); simp only [Act.put, pa, pb, pc]))
              obtain ⟨w37, hw37⟩ : ∃ W, W = ((w36.setCell ⟨w34.heap.size, 0, none⟩ (.bool o)).setCell ⟨w34.heap.size, 1, none⟩ (.int .i64 a)).setCell ⟨w34.heap.size, 2, none⟩ (.int .i64 b) := ⟨_, rfl⟩
              obtain ⟨dd0, dd1, dd2, dd3, dd4⟩ := box3_sets q6 q7 q8 (.bool o) (.int .i64 a) (.int .i64 b)
              refine seq_store (w' := w37) (by rfl) (by rfl) (by rw [hw37]; go_simp; (try (with_reducible rfl)); done) ?_
              obtain ⟨dw0, dw1, dw2⟩ := s3w hw37 q6 q7 q8
              have hT := ai (s3c hw37 (by omega) hq0) <| ai (s3o hw37 (by omega) q0) <| ai (s3o hw37 (by omega) q1) <| ai (s3o hw37 (by omega) q2) <| ai (s3o hw37 (by omega) q3) <| ai (s3g hw37 (by omega) q4) <| ai (s3f hw37 f5 fr5) <| ai (dw0) <| ai (dw1) <| ai (dw2) <| ai (s3f hw37 f9 fr9) <| ai (s3o hw37 (by omega) q10) <| ai (s3o hw37 (by omega) q11) <| ai (s3o hw37 (by omega) q12) <| s3g hw37 (by omega) hF
              clear dw0 dw1 dw2
              (try clear hS)
              have hS := hT
              clear hT dd0 dd1 dd2 dd3 dd4 hw37
              have hS2 := hS
              obtain ⟨hq0, q0, q1, q2, q3, q4, ⟨f5, fr5⟩, q6, q7, q8, ⟨f9, fr9⟩, q10, q11, q12, hF⟩ := hS2
              have hgl : g < w37.heap.size := hq0.lt
              have hzw : w.heap.size ≤ w37.heap.size := hF.size
              have hz1 : w1.heap.size < w37.heap.size := World.block_lt_of_cell? w37 _ q0
              have hz2 : T < w37.heap.size := World.block_lt_of_cell? w37 _ q2
              have hzk37 : w32.heap.size ≤ w37.heap.size := q4.size
              have hz3 : w34.heap.size < w37.heap.size := World.block_lt_of_cell? w37 _ q6
              have hz4 : w35.heap.size < w37.heap.size := World.block_lt_of_cell? w37 _ q10
              refine ⟨(fun W => W.cell? ⟨w1.heap.size, 0, none⟩ = some (.int .i64 (x)) ∧ W.cell? ⟨w1.heap.size, 1, none⟩ = some (.int .i64 (y)) ∧ W.cell? ⟨T, 0, none⟩ = some (.int .i64 (u)) ∧ W.cell? ⟨T, 1, none⟩ = some (.int .i64 (v)) ∧ w.grownBy W (some g)), ⟨hS.2.1, hS.2.2.1, hS.2.2.2.1, hS.2.2.2.2.1, hS.2.2.2.2.2.2.2.2.2.2.2.2.2.2⟩, (fun W h => h), ?_⟩
              simp only [Act.put, pa, pb, pc]
              repeat (first
                | ((refine seq_skip (by rfl) (by rfl) ?_); simp only [Act.put, pa, pb, pc])
                | ((refine seq_val (v := ?_) (by rfl) (by rfl) (fun w hS => ?_) ?_); rotate_left; (focus ((try dsimp only at hS); go_simp; (try (with_reducible rfl)); done)); simp only [Act.put, pa, pb, pc]))
              obtain ⟨w38, hw38⟩ : ∃ W, W = ((w37.setCell ⟨w35.heap.size, 0, none⟩ (.bool (!o))).setCell ⟨w35.heap.size, 1, none⟩ (.int .i64 a2)).setCell ⟨w35.heap.size, 2, none⟩ (.int .i64 b2) := ⟨_, rfl⟩
              obtain ⟨dd0, dd1, dd2, dd3, dd4⟩ := box3_sets q10 q11 q12 (.bool (!o)) (.int .i64 a2) (.int .i64 b2)
              refine seq_store (w' := w38) (by rfl) (by rfl) (by rw [hw38]; go_simp; (try (with_reducible rfl)); done) ?_
              obtain ⟨dw0, dw1, dw2⟩ := s3w hw38 q10 q11 q12
              have hT := ai (s3c hw38 (by omega) hq0) <| ai (s3o hw38 (by omega) q0) <| ai (s3o hw38 (by omega) q1) <| ai (s3o hw38 (by omega) q2) <| ai (s3o hw38 (by omega) q3) <| ai (s3g hw38 (by omega) q4) <| ai (s3f hw38 f5 fr5) <| ai (s3o hw38 (by omega) q6) <| ai (s3o hw38 (by omega) q7) <| ai (s3o hw38 (by omega) q8) <| ai (s3f hw38 f9 fr9) <| ai (dw0) <| ai (dw1) <| ai (dw2) <| s3g hw38 (by omega) hF
              clear dw0 dw1 dw2
              (try clear hS)
              have hS := hT
              clear hT dd0 dd1 dd2 dd3 dd4 hw38
              have hS2 := hS
              obtain ⟨hq0, q0, q1, q2, q3, q4, ⟨f5, fr5⟩, q6, q7, q8, ⟨f9, fr9⟩, q10, q11, q12, hF⟩ := hS2
              have hgl : g < w38.heap.size := hq0.lt
              have hzw : w.heap.size ≤ w38.heap.size := hF.size
              have hz1 : w1.heap.size < w38.heap.size := World.block_lt_of_cell? w38 _ q0
              have hz2 : T < w38.heap.size := World.block_lt_of_cell? w38 _ q2
              have hzk38 : w32.heap.size ≤ w38.heap.size := q4.size
              have hz3 : w34.heap.size < w38.heap.size := World.block_lt_of_cell? w38 _ q6
              have hz4 : w35.heap.size < w38.heap.size := World.block_lt_of_cell? w38 _ q10
              refine ⟨(fun W => W.cell? ⟨w1.heap.size, 0, none⟩ = some (.int .i64 (x)) ∧ W.cell? ⟨w1.heap.size, 1, none⟩ = some (.int .i64 (y)) ∧ W.cell? ⟨T, 0, none⟩ = some (.int .i64 (u)) ∧ W.cell? ⟨T, 1, none⟩ = some (.int .i64 (v)) ∧ w.grownBy W (some g)), ⟨hS.2.1, hS.2.2.1, hS.2.2.2.1, hS.2.2.2.2.1, hS.2.2.2.2.2.2.2.2.2.2.2.2.2.2⟩, (fun W h => h), ?_⟩
              simp only [Act.put, pa, pb, pc]
              repeat (first
                | ((refine seq_skip (by rfl) (by rfl) ?_); simp only [Act.put, pa, pb, pc])
                | ((refine seq_val (v := ?_) (by rfl) (by rfl) (fun w hS => ?_) ?_); rotate_left; (focus ((try dsimp only at hS); go_simp; (try (with_reducible rfl)); done)); simp only [Act.put, pa, pb, pc]))
              refine seq_nil ?_
              go_wp2_with fail
              go_meet
              case rel => exact ⟨w34.heap.size, w35.heap.size, a, b, a2, b2, rfl, rfl, ⟨by omega, by omega, by omega⟩, hS.1, gf (hS.2.2.2.2.2.1) (HK9.out.2.1).1 (HK9.out.2.1).2 (by omega), gc (hS.2.2.2.2.2.1) (HK9.out.2.2.1) (by omega), gc (hS.2.2.2.2.2.1) (HK9.out.2.2.2.1) (by omega), gc (hS.2.2.2.2.2.1) (HK9.out.2.2.2.2.1) (by omega), gf (hS.2.2.2.2.2.1) (HK9.out.2.2.2.2.2.1).1 (HK9.out.2.2.2.2.2.1).2 (by omega), gc (hS.2.2.2.2.2.1) (HK9.out.2.2.2.2.2.2.1) (by omega), gc (hS.2.2.2.2.2.1) (HK9.out.2.2.2.2.2.2.2.1) (by omega), gc (hS.2.2.2.2.2.1) (HK9.out.2.2.2.2.2.2.2.2.1) (by omega), hS.2.2.2.2.2.2.1, hS.2.2.2.2.2.2.2.1, hS.2.2.2.2.2.2.2.2.1, hS.2.2.2.2.2.2.2.2.2.1, hS.2.2.2.2.2.2.2.2.2.2.1, hS.2.2.2.2.2.2.2.2.2.2.2.1, hS.2.2.2.2.2.2.2.2.2.2.2.2.1, hS.2.2.2.2.2.2.2.2.2.2.2.2.2.1, hS.2.2.2.2.2.2.2.2.2.2.2.2.2.2⟩
  obtain ⟨A, B, a, b, a2, b2, rfl, rfl, ⟨hA1, hB1, hAB⟩, hS3⟩ := hcut
  (try clear hS)
  have hS := hS3
  clear hS3
  have hS2 := hS
  obtain ⟨hq0, ⟨f0, fr0⟩, q1, q2, q3, ⟨f4, fr4⟩, q5, q6, q7, ⟨f8, fr8⟩, q9, q10, q11, ⟨f12, fr12⟩, q13, q14, q15, hF⟩ := hS2
  have hgl : g < wc.heap.size := hq0.lt
  have hzw : w.heap.size ≤ wc.heap.size := hF.size
  have hz1 : w.heap.size < wc.heap.size := World.block_lt_of_cell? wc _ q1
  have hz2 : w.heap.size + 1 < wc.heap.size := World.block_lt_of_cell? wc _ q5
  have hz3 : A < wc.heap.size := World.block_lt_of_cell? wc _ q9
  have hz4 : B < wc.heap.size := World.block_lt_of_cell? wc _ q13
  go_wp2_with fail
  refine (one_c (10) (by omega) (g) (k + 14) _ (hide hq0) (by omega)).mono ?_
  rintro e w61 ⟨_, rfl, ⟨z, rfl⟩, hcn, hgn⟩
  have hT := ai (hcn) <| ai (gf hgn f0 fr0 (by omega)) <| ai (gc hgn q1 (by omega)) <| ai (gc hgn q2 (by omega)) <| ai (gc hgn q3 (by omega)) <| ai (gf hgn f4 fr4 (by omega)) <| ai (gc hgn q5 (by omega)) <| ai (gc hgn q6 (by omega)) <| ai (gc hgn q7 (by omega)) <| ai (gf hgn f8 fr8 (by omega)) <| ai (gc hgn q9 (by omega)) <| ai (gc hgn q10 (by omega)) <| ai (gc hgn q11 (by omega)) <| ai (gf hgn f12 fr12 (by omega)) <| ai (gc hgn q13 (by omega)) <| ai (gc hgn q14 (by omega)) <| ai (gc hgn q15 (by omega)) <| grown_trans hF hgn
  clear hS hcn hgn
  have hS := hT
  clear hT
  have hS2 := hS
  obtain ⟨hq0, ⟨f0, fr0⟩, q1, q2, q3, ⟨f4, fr4⟩, q5, q6, q7, ⟨f8, fr8⟩, q9, q10, q11, ⟨f12, fr12⟩, q13, q14, q15, hF⟩ := hS2
  have hgl : g < w61.heap.size := hq0.lt
  have hzw : w.heap.size ≤ w61.heap.size := hF.size
  have hz1 : w.heap.size < w61.heap.size := World.block_lt_of_cell? w61 _ q1
  have hz2 : w.heap.size + 1 < w61.heap.size := World.block_lt_of_cell? w61 _ q5
  have hz3 : A < w61.heap.size := World.block_lt_of_cell? w61 _ q9
  have hz4 : B < w61.heap.size := World.block_lt_of_cell? w61 _ q13
  rcases z with _ | _
  · go_upto_region 7 with fail
    refine wp_region_all (by kernel_rfl) ?_
    obtain ⟨w62, hwq⟩ : ∃ W, World.drew w61 = W := ⟨_, rfl⟩
    have hb : Below w61.heap.size w61 w62 := by rw [← hwq]; go_grown
    rw [hwq]
    have hT := ai (hq0.below hb) <| ai (kf hb f0 fr0) <| ai (kc hb q1) <| ai (kc hb q2) <| ai (kc hb q3) <| ai (kf hb f4 fr4) <| ai (kc hb q5) <| ai (kc hb q6) <| ai (kc hb q7) <| ai (kf hb f8 fr8) <| ai (kc hb q9) <| ai (kc hb q10) <| ai (kc hb q11) <| ai (kf hb f12 fr12) <| ai (kc hb q13) <| ai (kc hb q14) <| ai (kc hb q15) <| gb_below hF hb
    clear hS hb hwq
    have hS := hT
    clear hT
    have hS2 := hS
    obtain ⟨hq0, ⟨f0, fr0⟩, q1, q2, q3, ⟨f4, fr4⟩, q5, q6, q7, ⟨f8, fr8⟩, q9, q10, q11, ⟨f12, fr12⟩, q13, q14, q15, hF⟩ := hS2
    have hgl : g < w62.heap.size := hq0.lt
    have hzw : w.heap.size ≤ w62.heap.size := hF.size
    have hz1 : w.heap.size < w62.heap.size := World.block_lt_of_cell? w62 _ q1
    have hz2 : w.heap.size + 1 < w62.heap.size := World.block_lt_of_cell? w62 _ q5
    have hz3 : A < w62.heap.size := World.block_lt_of_cell? w62 _ q9
    have hz4 : B < w62.heap.size := World.block_lt_of_cell? w62 _ q13
    refine all_seq_core [0, 1, 2, 3] (fun W => W.cell? ⟨A, 0, none⟩ = some (.bool o) ∧ W.cell? ⟨A, 1, none⟩ = some (.int .i64 a) ∧ W.cell? ⟨A, 2, none⟩ = some (.int .i64 b) ∧ W.cell? ⟨B, 0, none⟩ = some (.bool (!o)) ∧ W.cell? ⟨B, 1, none⟩ = some (.int .i64 a2) ∧ W.cell? ⟨B, 2, none⟩ = some (.int .i64 b2) ∧ w.grownBy W (some g)) (Core.refl _) (by kernel_rfl) ⟨hS.2.2.2.2.2.2.2.2.2.2.1, hS.2.2.2.2.2.2.2.2.2.2.2.1, hS.2.2.2.2.2.2.2.2.2.2.2.2.1, hS.2.2.2.2.2.2.2.2.2.2.2.2.2.2.1, hS.2.2.2.2.2.2.2.2.2.2.2.2.2.2.2.1, hS.2.2.2.2.2.2.2.2.2.2.2.2.2.2.2.2.1, hS.2.2.2.2.2.2.2.2.2.2.2.2.2.2.2.2.2⟩ ?_
    simp only [byNum, List.getElem?_cons_zero, List.getElem?_cons_succ]
    repeat (first
      | ((refine seq_skip (by rfl) (by rfl) ?_); simp only [Act.put, pa, pb, pc])
      | ((refine seq_val (v := ?_) (by rfl) (by rfl) (fun w hS => ?_) ?_); rotate_left; (focus ((try dsimp only at hS); go_simp; (try (with_reducible rfl)); done)); simp only [Act.put, pa, pb, pc]))
    obtain ⟨w63, hw63⟩ : ∃ W, W = ((w62.setCell ⟨w.heap.size, 0, none⟩ (.bool o)).setCell ⟨w.heap.size, 1, none⟩ (.int .i64 a)).setCell ⟨w.heap.size, 2, none⟩ (.int .i64 b) := ⟨_, rfl⟩
    obtain ⟨dd0, dd1, dd2, dd3, dd4⟩ := box3_sets q1 q2 q3 (.bool o) (.int .i64 a) (.int .i64 b)
    refine seq_store (w' := w63) (by rfl) (by rfl) (by rw [hw63]; go_simp; (try (with_reducible rfl)); done) ?_
    obtain ⟨dw0, dw1, dw2⟩ := s3w hw63 q1 q2 q3
    have hT := ai (s3c hw63 (by omega) hq0) <| ai (s3f hw63 f0 fr0) <| ai (dw0) <| ai (dw1) <| ai (dw2) <| ai (s3f hw63 f4 fr4) <| ai (s3o hw63 (by omega) q5) <| ai (s3o hw63 (by omega) q6) <| ai (s3o hw63 (by omega) q7) <| ai (s3f hw63 f8 fr8) <| ai (s3o hw63 (by omega) q9) <| ai (s3o hw63 (by omega) q10) <| ai (s3o hw63 (by omega) q11) <| ai (s3f hw63 f12 fr12) <| ai (s3o hw63 (by omega) q13) <| ai (s3o hw63 (by omega) q14) <| ai (s3o hw63 (by omega) q15) <| s3g hw63 (by omega) hF
    clear dw0 dw1 dw2
    (try clear hS)
    have hS := hT
    clear hT dd0 dd1 dd2 dd3 dd4 hw63
    have hS2 := hS
    obtain ⟨hq0, ⟨f0, fr0⟩, q1, q2, q3, ⟨f4, fr4⟩, q5, q6, q7, ⟨f8, fr8⟩, q9, q10, q11, ⟨f12, fr12⟩, q13, q14, q15, hF⟩ := hS2
    have hgl : g < w63.heap.size := hq0.lt
    have hzw : w.heap.size ≤ w63.heap.size := hF.size
    have hz1 : w.heap.size < w63.heap.size := World.block_lt_of_cell? w63 _ q1
    have hz2 : w.heap.size + 1 < w63.heap.size := World.block_lt_of_cell? w63 _ q5
    have hz3 : A < w63.heap.size := World.block_lt_of_cell? w63 _ q9
    have hz4 : B < w63.heap.size := World.block_lt_of_cell? w63 _ q13
    refine ⟨(fun W => W.cell? ⟨A, 0, none⟩ = some (.bool o) ∧ W.cell? ⟨A, 1, none⟩ = some (.int .i64 a) ∧ W.cell? ⟨A, 2, none⟩ = some (.int .i64 b) ∧ W.cell? ⟨B, 0, none⟩ = some (.bool (!o)) ∧ W.cell? ⟨B, 1, none⟩ = some (.int .i64 a2) ∧ W.cell? ⟨B, 2, none⟩ = some (.int .i64 b2) ∧ w.grownBy W (some g)), ⟨hS.2.2.2.2.2.2.2.2.2.2.1, hS.2.2.2.2.2.2.2.2.2.2.2.1, hS.2.2.2.2.2.2.2.2.2.2.2.2.1, hS.2.2.2.2.2.2.2.2.2.2.2.2.2.2.1, hS.2.2.2.2.2.2.2.2.2.2.2.2.2.2.2.1, hS.2.2.2.2.2.2.2.2.2.2.2.2.2.2.2.2.1, hS.2.2.2.2.2.2.2.2.2.2.2.2.2.2.2.2.2⟩, (fun W h => h), ?_⟩
    simp only [Act.put, pa, pb, pc]
    repeat (first
      | ((refine seq_skip (by rfl) (by rfl) ?_); simp only [Act.put, pa, pb, pc])
      | ((refine seq_val (v := ?_) (by rfl) (by rfl) (fun w hS => ?_) ?_); rotate_left; (focus ((try dsimp only at hS); go_simp; (try (with_reducible rfl)); done)); simp only [Act.put, pa, pb, pc]))
    obtain ⟨w64, hw64⟩ : ∃ W, W = ((w63.setCell ⟨w.heap.size + 1, 0, none⟩ (.bool (!o))).setCell ⟨w.heap.size + 1, 1, none⟩ (.int .i64 a2)).setCell ⟨w.heap.size + 1, 2, none⟩ (.int .i64 b2) := ⟨_, rfl⟩
    obtain ⟨dd0, dd1, dd2, dd3, dd4⟩ := box3_sets q5 q6 q7 (.bool (!o)) (.int .i64 a2) (.int .i64 b2)
    refine seq_store (w' := w64) (by rfl) (by rfl) (by rw [hw64]; go_simp; (try (with_reducible rfl)); done) ?_
    obtain ⟨dw0, dw1, dw2⟩ := s3w hw64 q5 q6 q7
    have hT := ai (s3c hw64 (by omega) hq0) <| ai (s3f hw64 f0 fr0) <| ai (s3o hw64 (by omega) q1) <| ai (s3o hw64 (by omega) q2) <| ai (s3o hw64 (by omega) q3) <| ai (s3f hw64 f4 fr4) <| ai (dw0) <| ai (dw1) <| ai (dw2) <| ai (s3f hw64 f8 fr8) <| ai (s3o hw64 (by omega) q9) <| ai (s3o hw64 (by omega) q10) <| ai (s3o hw64 (by omega) q11) <| ai (s3f hw64 f12 fr12) <| ai (s3o hw64 (by omega) q13) <| ai (s3o hw64 (by omega) q14) <| ai (s3o hw64 (by omega) q15) <| s3g hw64 (by omega) hF
    clear dw0 dw1 dw2
    (try clear hS)
    have hS := hT
    clear hT dd0 dd1 dd2 dd3 dd4 hw64
    have hS2 := hS
    obtain ⟨hq0, ⟨f0, fr0⟩, q1, q2, q3, ⟨f4, fr4⟩, q5, q6, q7, ⟨f8, fr8⟩, q9, q10, q11, ⟨f12, fr12⟩, q13, q14, q15, hF⟩ := hS2
    have hgl : g < w64.heap.size := hq0.lt
    have hzw : w.heap.size ≤ w64.heap.size := hF.size
    have hz1 : w.heap.size < w64.heap.size := World.block_lt_of_cell? w64 _ q1
    have hz2 : w.heap.size + 1 < w64.heap.size := World.block_lt_of_cell? w64 _ q5
    have hz3 : A < w64.heap.size := World.block_lt_of_cell? w64 _ q9
    have hz4 : B < w64.heap.size := World.block_lt_of_cell? w64 _ q13
    refine ⟨(fun W => W.cell? ⟨A, 0, none⟩ = some (.bool o) ∧ W.cell? ⟨A, 1, none⟩ = some (.int .i64 a) ∧ W.cell? ⟨A, 2, none⟩ = some (.int .i64 b) ∧ W.cell? ⟨B, 0, none⟩ = some (.bool (!o)) ∧ W.cell? ⟨B, 1, none⟩ = some (.int .i64 a2) ∧ W.cell? ⟨B, 2, none⟩ = some (.int .i64 b2) ∧ w.grownBy W (some g)), ⟨hS.2.2.2.2.2.2.2.2.2.2.1, hS.2.2.2.2.2.2.2.2.2.2.2.1, hS.2.2.2.2.2.2.2.2.2.2.2.2.1, hS.2.2.2.2.2.2.2.2.2.2.2.2.2.2.1, hS.2.2.2.2.2.2.2.2.2.2.2.2.2.2.2.1, hS.2.2.2.2.2.2.2.2.2.2.2.2.2.2.2.2.1, hS.2.2.2.2.2.2.2.2.2.2.2.2.2.2.2.2.2⟩, (fun W h => h), ?_⟩
    simp only [Act.put, pa, pb, pc]
    repeat (first
      | ((refine seq_skip (by rfl) (by rfl) ?_); simp only [Act.put, pa, pb, pc])
      | ((refine seq_val (v := ?_) (by rfl) (by rfl) (fun w hS => ?_) ?_); rotate_left; (focus ((try dsimp only at hS); go_simp; (try (with_reducible rfl)); done)); simp only [Act.put, pa, pb, pc]))
    refine seq_nil ?_
    go_wp2
    refine bodyPost_ret (by simp [results, Try.results61, go_sem, q1, q2, q3, q5, q6, q7]; try rfl) rfl ?_
    exact ⟨_, rfl, ⟨_, _, _, _, _, _, rfl⟩, (by repeat' (first | (with_reducible exact (hS.1.more (by omega))) | (with_reducible refine Cur.drew ?_) | (with_reducible refine Cur.alloc ?_ _) | (with_reducible refine Cur.setc ?_ (by first | omega | (simp; done) | (simp; omega)) _))), (by repeat' (first | (with_reducible assumption) | (with_reducible exact gb_refl _ _) | (with_reducible refine gb_drew ?_) | (with_reducible refine gb_alloc ?_ _) | (with_reducible refine gb_seta ?_ (by first | omega | (simp; done) | (simp; omega)) _)))⟩
  · go_wp2_with fail
    refine (report_c (g) (k + 16) _ (hide hq0) (by omega)).mono ?_
    rintro e w62 ⟨_, rfl, ⟨o3, a3, b3, rfl, ⟨a30, a31⟩, b30, b31⟩, hcn, hgn⟩
    have hT := ai (hcn) <| ai (gf hgn f0 fr0 (by omega)) <| ai (gc hgn q1 (by omega)) <| ai (gc hgn q2 (by omega)) <| ai (gc hgn q3 (by omega)) <| ai (gf hgn f4 fr4 (by omega)) <| ai (gc hgn q5 (by omega)) <| ai (gc hgn q6 (by omega)) <| ai (gc hgn q7 (by omega)) <| ai (gf hgn f8 fr8 (by omega)) <| ai (gc hgn q9 (by omega)) <| ai (gc hgn q10 (by omega)) <| ai (gc hgn q11 (by omega)) <| ai (gf hgn f12 fr12 (by omega)) <| ai (gc hgn q13 (by omega)) <| ai (gc hgn q14 (by omega)) <| ai (gc hgn q15 (by omega)) <| grown_trans hF hgn
    clear hS hcn hgn
    have hS := hT
    clear hT
    have hS2 := hS
    obtain ⟨hq0, ⟨f0, fr0⟩, q1, q2, q3, ⟨f4, fr4⟩, q5, q6, q7, ⟨f8, fr8⟩, q9, q10, q11, ⟨f12, fr12⟩, q13, q14, q15, hF⟩ := hS2
    have hgl : g < w62.heap.size := hq0.lt
    have hzw : w.heap.size ≤ w62.heap.size := hF.size
    have hz1 : w.heap.size < w62.heap.size := World.block_lt_of_cell? w62 _ q1
    have hz2 : w.heap.size + 1 < w62.heap.size := World.block_lt_of_cell? w62 _ q5
    have hz3 : A < w62.heap.size := World.block_lt_of_cell? w62 _ q9
    have hz4 : B < w62.heap.size := World.block_lt_of_cell? w62 _ q13
    go_upto_region 7 with fail
    obtain ⟨w63, hw63⟩ : ∃ W, W = ((w62.setCell ⟨B, 0, none⟩ (.bool o3)).setCell ⟨B, 1, none⟩ (.int .i64 a3)).setCell ⟨B, 2, none⟩ (.int .i64 b3) := ⟨_, rfl⟩
    obtain ⟨dd0, dd1, dd2, dd3, dd4⟩ := box3_sets q13 q14 q15 (.bool o3) (.int .i64 a3) (.int .i64 b3)
    obtain ⟨dw0, dw1, dw2⟩ := s3w hw63 q13 q14 q15
    have hT := ai (s3c hw63 (by omega) hq0) <| ai (s3f hw63 f0 fr0) <| ai (s3o hw63 (by omega) q1) <| ai (s3o hw63 (by omega) q2) <| ai (s3o hw63 (by omega) q3) <| ai (s3f hw63 f4 fr4) <| ai (s3o hw63 (by omega) q5) <| ai (s3o hw63 (by omega) q6) <| ai (s3o hw63 (by omega) q7) <| ai (s3f hw63 f8 fr8) <| ai (s3o hw63 (by omega) q9) <| ai (s3o hw63 (by omega) q10) <| ai (s3o hw63 (by omega) q11) <| ai (s3f hw63 f12 fr12) <| ai (dw0) <| ai (dw1) <| ai (dw2) <| s3g hw63 (by omega) hF
    clear dw0 dw1 dw2
    rw [← hw63]
    clear hS dd0 dd1 dd2 dd3 dd4 hw63
    have hS := hT
    clear hT
    have hS2 := hS
    obtain ⟨hq0, ⟨f0, fr0⟩, q1, q2, q3, ⟨f4, fr4⟩, q5, q6, q7, ⟨f8, fr8⟩, q9, q10, q11, ⟨f12, fr12⟩, q13, q14, q15, hF⟩ := hS2
    have hgl : g < w63.heap.size := hq0.lt
    have hzw : w.heap.size ≤ w63.heap.size := hF.size
    have hz1 : w.heap.size < w63.heap.size := World.block_lt_of_cell? w63 _ q1
    have hz2 : w.heap.size + 1 < w63.heap.size := World.block_lt_of_cell? w63 _ q5
    have hz3 : A < w63.heap.size := World.block_lt_of_cell? w63 _ q9
    have hz4 : B < w63.heap.size := World.block_lt_of_cell? w63 _ q13
    refine wp_region_all (by kernel_rfl) ?_
    obtain ⟨w64, hwq⟩ : ∃ W, World.drew w63 = W := ⟨_, rfl⟩
    have hb : Below w63.heap.size w63 w64 := by rw [← hwq]; go_grown
    rw [hwq]
    have hT := ai (hq0.below hb) <| ai (kf hb f0 fr0) <| ai (kc hb q1) <| ai (kc hb q2) <| ai (kc hb q3) <| ai (kf hb f4 fr4) <| ai (kc hb q5) <| ai (kc hb q6) <| ai (kc hb q7) <| ai (kf hb f8 fr8) <| ai (kc hb q9) <| ai (kc hb q10) <| ai (kc hb q11) <| ai (kf hb f12 fr12) <| ai (kc hb q13) <| ai (kc hb q14) <| ai (kc hb q15) <| gb_below hF hb
    clear hS hb hwq
    have hS := hT
    clear hT
    have hS2 := hS
    obtain ⟨hq0, ⟨f0, fr0⟩, q1, q2, q3, ⟨f4, fr4⟩, q5, q6, q7, ⟨f8, fr8⟩, q9, q10, q11, ⟨f12, fr12⟩, q13, q14, q15, hF⟩ := hS2
    have hgl : g < w64.heap.size := hq0.lt
    have hzw : w.heap.size ≤ w64.heap.size := hF.size
    have hz1 : w.heap.size < w64.heap.size := World.block_lt_of_cell? w64 _ q1
    have hz2 : w.heap.size + 1 < w64.heap.size := World.block_lt_of_cell? w64 _ q5
    have hz3 : A < w64.heap.size := World.block_lt_of_cell? w64 _ q9
    have hz4 : B < w64.heap.size := World.block_lt_of_cell? w64 _ q13
    refine all_seq_core [0, 1, 2, 3] (fun W => W.cell? ⟨A, 0, none⟩ = some (.bool o) ∧ W.cell? ⟨A, 1, none⟩ = some (.int .i64 a) ∧ W.cell? ⟨A, 2, none⟩ = some (.int .i64 b) ∧ W.cell? ⟨B, 0, none⟩ = some (.bool o3) ∧ W.cell? ⟨B, 1, none⟩ = some (.int .i64 a3) ∧ W.cell? ⟨B, 2, none⟩ = some (.int .i64 b3) ∧ w.grownBy W (some g)) (Core.refl _) (by kernel_rfl) ⟨hS.2.2.2.2.2.2.2.2.2.2.1, hS.2.2.2.2.2.2.2.2.2.2.2.1, hS.2.2.2.2.2.2.2.2.2.2.2.2.1, hS.2.2.2.2.2.2.2.2.2.2.2.2.2.2.1, hS.2.2.2.2.2.2.2.2.2.2.2.2.2.2.2.1, hS.2.2.2.2.2.2.2.2.2.2.2.2.2.2.2.2.1, hS.2.2.2.2.2.2.2.2.2.2.2.2.2.2.2.2.2⟩ ?_
    simp only [byNum, List.getElem?_cons_zero, List.getElem?_cons_succ]
    repeat (first
      | ((refine seq_skip (by rfl) (by rfl) ?_); simp only [Act.put, pa, pb, pc])
      | ((refine seq_val (v := ?_) (by rfl) (by rfl) (fun w hS => ?_) ?_); rotate_left; (focus ((try dsimp only at hS); go_simp; (try (with_reducible rfl)); done)); simp only [Act.put, pa, pb, pc]))
    obtain ⟨w65, hw65⟩ : ∃ W, W = ((w64.setCell ⟨w.heap.size, 0, none⟩ (.bool o)).setCell ⟨w.heap.size, 1, none⟩ (.int .i64 a)).setCell ⟨w.heap.size, 2, none⟩ (.int .i64 b) := ⟨_, rfl⟩
    obtain ⟨dd0, dd1, dd2, dd3, dd4⟩ := box3_sets q1 q2 q3 (.bool o) (.int .i64 a) (.int .i64 b)
    refine seq_store (w' := w65) (by rfl) (by rfl) (by rw [hw65]; go_simp; (try (with_reducible rfl)); done) ?_
    obtain ⟨dw0, dw1, dw2⟩ := s3w hw65 q1 q2 q3
    have hT := ai (s3c hw65 (by omega) hq0) <| ai (s3f hw65 f0 fr0) <| ai (dw0) <| ai (dw1) <| ai (dw2) <| ai (s3f hw65 f4 fr4) <| ai (s3o hw65 (by omega) q5) <| ai (s3o hw65 (by omega) q6) <| ai (s3o hw65 (by omega) q7) <| ai (s3f hw65 f8 fr8) <| ai (s3o hw65 (by omega) q9) <| ai (s3o hw65 (by omega) q10) <| ai (s3o hw65 (by omega) q11) <| ai (s3f hw65 f12 fr12) <| ai (s3o hw65 (by omega) q13) <| ai (s3o hw65 (by omega) q14) <| ai (s3o hw65 (by omega) q15) <| s3g hw65 (by omega) hF
    clear dw0 dw1 dw2
    (try clear hS)
    have hS := hT
    clear hT dd0 dd1 dd2 dd3 dd4 hw65
    have hS2 := hS
    obtain ⟨hq0, ⟨f0, fr0⟩, q1, q2, q3, ⟨f4, fr4⟩, q5, q6, q7, ⟨f8, fr8⟩, q9, q10, q11, ⟨f12, fr12⟩, q13, q14, q15, hF⟩ := hS2
    have hgl : g < w65.heap.size := hq0.lt
    have hzw : w.heap.size ≤ w65.heap.size := hF.size
    have hz1 : w.heap.size < w65.heap.size := World.block_lt_of_cell? w65 _ q1
    have hz2 : w.heap.size + 1 < w65.heap.size := World.block_lt_of_cell? w65 _ q5
    have hz3 : A < w65.heap.size := World.block_lt_of_cell? w65 _ q9
    have hz4 : B < w65.heap.size := World.block_lt_of_cell? w65 _ q13
    refine ⟨(fun W => W.cell? ⟨A, 0, none⟩ = some (.bool o) ∧ W.cell? ⟨A, 1, none⟩ = some (.int .i64 a) ∧ W.cell? ⟨A, 2, none⟩ = some (.int .i64 b) ∧ W.cell? ⟨B, 0, none⟩ = some (.bool o3) ∧ W.cell? ⟨B, 1, none⟩ = some (.int .i64 a3) ∧ W.cell? ⟨B, 2, none⟩ = some (.int .i64 b3) ∧ w.grownBy W (some g)), ⟨hS.2.2.2.2.2.2.2.2.2.2.1, hS.2.2.2.2.2.2.2.2.2.2.2.1, hS.2.2.2.2.2.2.2.2.2.2.2.2.1, hS.2.2.2.2.2.2.2.2.2.2.2.2.2.2.1, hS.2.2.2.2.2.2.2.2.2.2.2.2.2.2.2.1, hS.2.2.2.2.2.2.2.2.2.2.2.2.2.2.2.2.1, hS.2.2.2.2.2.2.2.2.2.2.2.2.2.2.2.2.2⟩, (fun W h => h), ?_⟩
    simp only [Act.put, pa, pb, pc]
    repeat (first
      | ((refine seq_skip (by rfl) (by rfl) ?_); simp only [Act.put, pa, pb, pc])
      | ((refine seq_val (v := ?_) (by rfl) (by rfl) (fun w hS => ?_) ?_); rotate_left; (focus ((try dsimp only at hS); go_simp; (try (with_reducible rfl)); done)); simp only [Act.put, pa, pb, pc]))
    obtain ⟨w66, hw66⟩ : ∃ W, W = ((w65.setCell ⟨w.heap.size + 1, 0, none⟩ (.bool o3)).setCell ⟨w.heap.size + 1, 1, none⟩ (.int .i64 a3)).setCell ⟨w.heap.size + 1, 2, none⟩ (.int .i64 b3) := ⟨_, rfl⟩
    obtain ⟨dd0, dd1, dd2, dd3, dd4⟩ := box3_sets q5 q6 q7 (.bool o3) (.int .i64 a3) (.int .i64 b3)
    refine seq_store (w' := w66) (by rfl) (by rfl) (by rw [hw66]; go_simp; (try (with_reducible rfl)); done) ?_
    obtain ⟨dw0, dw1, dw2⟩ := s3w hw66 q5 q6 q7
    have hT := ai (s3c hw66 (by omega) hq0) <| ai (s3f hw66 f0 fr0) <| ai (s3o hw66 (by omega) q1) <| ai (s3o hw66 (by omega) q2) <| ai (s3o hw66 (by omega) q3) <| ai (s3f hw66 f4 fr4) <| ai (dw0) <| ai (dw1) <| ai (dw2) <| ai (s3f hw66 f8 fr8) <| ai (s3o hw66 (by omega) q9) <| ai (s3o hw66 (by omega) q10) <| ai (s3o hw66 (by omega) q11) <| ai (s3f hw66 f12 fr12) <| ai (s3o hw66 (by omega) q13) <| ai (s3o hw66 (by omega) q14) <| ai (s3o hw66 (by omega) q15) <| s3g hw66 (by omega) hF
    clear dw0 dw1 dw2
    (try clear hS)
    have hS := hT
    clear hT dd0 dd1 dd2 dd3 dd4 hw66
    have hS2 := hS
    obtain ⟨hq0, ⟨f0, fr0⟩, q1, q2, q3, ⟨f4, fr4⟩, q5, q6, q7, ⟨f8, fr8⟩, q9, q10, q11, ⟨f12, fr12⟩, q13, q14, q15, hF⟩ := hS2
    have hgl : g < w66.heap.size := hq0.lt
    have hzw : w.heap.size ≤ w66.heap.size := hF.size
    have hz1 : w.heap.size < w66.heap.size := World.block_lt_of_cell? w66 _ q1
    have hz2 : w.heap.size + 1 < w66.heap.size := World.block_lt_of_cell? w66 _ q5
    have hz3 : A < w66.heap.size := World.block_lt_of_cell? w66 _ q9
    have hz4 : B < w66.heap.size := World.block_lt_of_cell? w66 _ q13
    refine ⟨(fun W => W.cell? ⟨A, 0, none⟩ = some (.bool o) ∧ W.cell? ⟨A, 1, none⟩ = some (.int .i64 a) ∧ W.cell? ⟨A, 2, none⟩ = some (.int .i64 b) ∧ W.cell? ⟨B, 0, none⟩ = some (.bool o3) ∧ W.cell? ⟨B, 1, none⟩ = some (.int .i64 a3) ∧ W.cell? ⟨B, 2, none⟩ = some (.int .i64 b3) ∧ w.grownBy W (some g)), ⟨hS.2.2.2.2.2.2.2.2.2.2.1, hS.2.2.2.2.2.2.2.2.2.2.2.1, hS.2.2.2.2.2.2.2.2.2.2.2.2.1, hS.2.2.2.2.2.2.2.2.2.2.2.2.2.2.1, hS.2.2.2.2.2.2.2.2.2.2.2.2.2.2.2.1, hS.2.2.2.2.2.2.2.2.2.2.2.2.2.2.2.2.1, hS.2.2.2.2.2.2.2.2.2.2.2.2.2.2.2.2.2⟩, (fun W h => h), ?_⟩
    simp only [Act.put, pa, pb, pc]
    repeat (first
      | ((refine seq_skip (by rfl) (by rfl) ?_); simp only [Act.put, pa, pb, pc])
      | ((refine seq_val (v := ?_) (by rfl) (by rfl) (fun w hS => ?_) ?_); rotate_left; (focus ((try dsimp only at hS); go_simp; (try (with_reducible rfl)); done)); simp only [Act.put, pa, pb, pc]))
    refine seq_nil ?_
    go_wp2
    refine bodyPost_ret (by simp [results, Try.results61, go_sem, q1, q2, q3, q5, q6, q7]; try rfl) rfl ?_
    exact ⟨_, rfl, ⟨_, _, _, _, _, _, rfl⟩, (by repeat' (first | (with_reducible exact (hS.1.more (by omega))) | (with_reducible refine Cur.drew ?_) | (with_reducible refine Cur.alloc ?_ _) | (with_reducible refine Cur.setc ?_ (by first | omega | (simp; done) | (simp; omega)) _))), (by repeat' (first | (with_reducible assumption) | (with_reducible exact gb_refl _ _) | (with_reducible refine gb_drew ?_) | (with_reducible refine gb_alloc ?_ _) | (with_reducible refine gb_seta ?_ (by first | omega | (simp; done) | (simp; omega)) _)))⟩
end Go.Proofs.Ytpabfkodlgglcaa
