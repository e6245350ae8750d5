/- Contracts: the cursor of the draws. -/
import Derived.Test.YtpabfkodlgglcaaCurMath
import Derived.Test.YtpabfkodlgglcaaRegion
import Derived.Test.YtpabfkodlgglcaaProg
import Derived.Test.YtpabfkodlgglcaaFloat
import Derived.Test.YtpabfkodlgglcaaSeq
namespace Go.Proofs.Ytpabfkodlgglcaa
open Go.RowKit

theorem next_c (g k : Nat) (w : World) (hc : Hid (Cur w g k)) (hk : k ≤ 1000000)  : Calls Try.prog 80 #[.pointer (some ⟨g, 0, none⟩)] w (CurG w g (k + 1) (IsI 0 255)) := by
  obtain ⟨i, sd, hi, hat⟩ := hc.out
  have HAT := hide hat
  obtain ⟨A, n, c, c0, c1, c2, hn, hf, hx⟩ := hat
  have hz1 : g < w.heap.size := World.block_lt_of_cell? w _ c0
  have HX := hide hx
  clear hx
  by_cases hlt : i < n
  · obtain ⟨ad, rfl, hadg, ha⟩ := HX.out (by omega)
    obtain ⟨b, b0, b1, cb⟩ := ha i hlt
    clear ha
    have ewb : IntKind.i64.wrap b = b := IntWalk.i64_in _ (by omega)
    go_enter Try.func80, Try.ntmps80
    go_wp2
    refine wp_region_det (fun w' => w'.cell? ⟨g, 0, none⟩ = some (.slice (some ad) n c) ∧ w'.cell? ⟨g, 1, none⟩ = some (.int .i64 (i : Int)) ∧ w'.cell? ⟨g, 2, none⟩ = some (.int .u64 sd) ∧ (g < w'.heap.size ∧ ∀ i, w'.frozen? ⟨g, i, none⟩ = false) ∧ Below w.heap.size w w') (by kernel_rfl) (by kernel_rfl) ⟨c0, c1, c2, ⟨hz1, hf⟩, by go_grown⟩ ?_
    repeat (first
      | ((refine wpDet_skip (by rfl) ?_); simp only [Act.put, List.setIfInBounds_toArray, List.set_cons_zero, List.set_cons_succ])
      | ((refine wpDet_val (v := ?_) (by rfl) (fun w hS => ?_) ?_); rotate_left; (focus ((try dsimp only at hS); go_simp; (try (with_reducible rfl)); done)); simp only [Act.put, List.setIfInBounds_toArray, List.set_cons_zero, List.set_cons_succ]))
    refine wpDet_nil ?_
    intro wa hS
    have hT : wa.cell? ⟨g, 0, none⟩ = some (.slice (some ad) n c) ∧ wa.cell? ⟨g, 1, none⟩ = some (.int .i64 (i : Int)) ∧ wa.cell? ⟨g, 2, none⟩ = some (.int .u64 sd) ∧ (g < wa.heap.size ∧ ∀ i, wa.frozen? ⟨g, i, none⟩ = false) ∧ Below w.heap.size w wa := hS
    clear hS
    have hS := hT
    obtain ⟨c0, c1, c2, c3, hB⟩ := hT
    have hzwa : w.heap.size ≤ wa.heap.size := hB.size
    have hz1 : g < wa.heap.size := World.block_lt_of_cell? wa _ (hS.1)
    go_wp2
    refine wp_region_det (fun w' => w'.cell? ⟨g, 0, none⟩ = some (.slice (some ad) n c) ∧ w'.cell? ⟨g, 1, none⟩ = some (.int .i64 (i : Int)) ∧ w'.cell? ⟨g, 2, none⟩ = some (.int .u64 sd) ∧ (g < w'.heap.size ∧ ∀ i, w'.frozen? ⟨g, i, none⟩ = false) ∧ w'.cell? (ad.add i) = some (.int .u8 b) ∧ Below w.heap.size w w') (by kernel_rfl) (by kernel_rfl) (by first | (with_reducible assumption) | (exact hS) | (exact ⟨hS.1, hS.2.1, hS.2.2.1, hS.2.2.2.1, hS.2.2.2.2.1, (by go_grown)⟩) | (exact ⟨(by first | (with_reducible assumption) | (simp [go_sem]; done) | ((simp only [go_sem]); (with_reducible assumption)) | ((refine keep_cell ?_ (by with_reducible assumption)); go_grown; done) | (simp [go_sem, *]; done)), (by first | (with_reducible assumption) | (simp [go_sem]; done) | ((simp only [go_sem]); (with_reducible assumption)) | ((refine keep_cell ?_ (by with_reducible assumption)); go_grown; done) | (simp [go_sem, *]; done)), (by first | (with_reducible assumption) | (simp [go_sem]; done) | ((simp only [go_sem]); (with_reducible assumption)) | ((refine keep_cell ?_ (by with_reducible assumption)); go_grown; done) | (simp [go_sem, *]; done)), (by first | (with_reducible assumption) | (simp [go_sem]; done) | (refine keep_fre ?_ ⟨by with_reducible assumption, by with_reducible assumption⟩; go_grown; done) | (simp [go_sem, *]; done)), (by first | (with_reducible assumption) | (simp [go_sem]; done) | ((simp only [go_sem]); (with_reducible assumption)) | ((refine keep_cell ?_ (by with_reducible assumption)); go_grown; done) | (simp [go_sem, *]; done)), (by go_grown)⟩)) ?_
    repeat (first
      | ((refine wpDet_skip (by rfl) ?_); simp only [Act.put, List.setIfInBounds_toArray, List.set_cons_zero, List.set_cons_succ])
      | ((refine wpDet_val (v := ?_) (by rfl) (fun w hS => ?_) ?_); rotate_left; (focus ((try dsimp only at hS); go_simp; (try (with_reducible rfl)); done)); simp only [Act.put, List.setIfInBounds_toArray, List.set_cons_zero, List.set_cons_succ]))
    refine wpDet_nil ?_
    intro wb hS
    have hT : wb.cell? ⟨g, 0, none⟩ = some (.slice (some ad) n c) ∧ wb.cell? ⟨g, 1, none⟩ = some (.int .i64 (i : Int)) ∧ wb.cell? ⟨g, 2, none⟩ = some (.int .u64 sd) ∧ (g < wb.heap.size ∧ ∀ i, wb.frozen? ⟨g, i, none⟩ = false) ∧ wb.cell? (ad.add i) = some (.int .u8 b) ∧ Below w.heap.size w wb := hS
    clear hS
    have hS := hT
    obtain ⟨c0, c1, c2, c3, c4, hB⟩ := hT
    have hzwb : w.heap.size ≤ wb.heap.size := hB.size
    have hy1 : g < wb.heap.size := World.block_lt_of_cell? wb _ (hS.1)
    go_wp2
    generalize hW2 : World.setCell (World.setCell _ _ _) _ _ = W2
    have hC2 : ∃ sd2, CurAt W2 g (i + 1) sd2 := ⟨_, by rw [← hW2]; exact set_cur (HAT.out.keep fun b hb => hB.block b (by omega)) (i + 1) _⟩
    obtain ⟨sd2, hC2⟩ := hC2
    have HC2 := hide hC2
    clear hC2
    have hG : w.grownBy W2 (some g) := by rw [← hW2]; exact gb_set (gb_set (gb_below (gb_refl _ _) hB) _ _) _ _
    have HG := hide hG
    clear hG
    have hdd := cur_cells (x := .slice (some ad) n c) (y := .int .i64 (i : Int)) (z := .int .u64 sd) c0 c1 c2 (.int .i64 ((i : Int) + 1))
    obtain ⟨sd3, d0, d1, d2⟩ : ∃ sd3 : Int, W2.cell? ⟨g, 0, none⟩ = some (.slice (some ad) n c) ∧ W2.cell? ⟨g, 1, none⟩ = some (.int .i64 ((i : Int) + 1)) ∧ W2.cell? ⟨g, 2, none⟩ = some (.int .u64 sd3) := by rw [← hW2]; exact ⟨_, hdd _⟩
    have hgz : g < W2.heap.size := World.block_lt_of_cell? W2 _ d0
    clear hdd hW2 hS hB c0 c1 c2
    refine wp_region_det (fun w' => w'.cell? ⟨g, 0, none⟩ = some (.slice (some ad) n c) ∧ w'.cell? ⟨g, 1, none⟩ = some (.int .i64 ((i : Int) + 1)) ∧ w'.cell? ⟨g, 2, none⟩ = some (.int .u64 sd3) ∧ Below W2.heap.size W2 w') (by kernel_rfl) (by kernel_rfl) ⟨d0, d1, d2, by go_grown⟩ ?_
    repeat (first
      | ((refine wpDet_skip (by rfl) ?_); simp only [Act.put, List.setIfInBounds_toArray, List.set_cons_zero, List.set_cons_succ])
      | ((refine wpDet_val (v := ?_) (by rfl) (fun w hS => ?_) ?_); rotate_left; (focus ((try dsimp only at hS); go_simp; (try (with_reducible rfl)); done)); simp only [Act.put, List.setIfInBounds_toArray, List.set_cons_zero, List.set_cons_succ]))
    refine wpDet_nil ?_
    intro wc hS
    have hT : wc.cell? ⟨g, 0, none⟩ = some (.slice (some ad) n c) ∧ wc.cell? ⟨g, 1, none⟩ = some (.int .i64 ((i : Int) + 1)) ∧ wc.cell? ⟨g, 2, none⟩ = some (.int .u64 sd3) ∧ Below W2.heap.size W2 wc := hS
    clear hS
    have hS := hT
    obtain ⟨c0, c1, c2, hB⟩ := hT
    have hzwc : W2.heap.size ≤ wc.heap.size := hB.size
    have hw1 : g < wc.heap.size := World.block_lt_of_cell? wc _ (hS.1)
    go_wp2
    go_returns
    refine ⟨_, rfl, ⟨_, rfl, by omega⟩, ⟨i + 1, sd2, by omega, HC2.out.keep fun b hb => hB.block b (by omega)⟩, gb_below HG.out hB⟩
  · go_enter Try.func80, Try.ntmps80
    go_wp2
    refine wp_region_det (fun w' => w'.cell? ⟨g, 0, none⟩ = some (.slice A n c) ∧ w'.cell? ⟨g, 1, none⟩ = some (.int .i64 (i : Int)) ∧ w'.cell? ⟨g, 2, none⟩ = some (.int .u64 sd) ∧ (g < w'.heap.size ∧ ∀ i, w'.frozen? ⟨g, i, none⟩ = false) ∧ Below w.heap.size w w') (by kernel_rfl) (by kernel_rfl) ⟨c0, c1, c2, ⟨hz1, hf⟩, by go_grown⟩ ?_
    repeat (first
      | ((refine wpDet_skip (by rfl) ?_); simp only [Act.put, List.setIfInBounds_toArray, List.set_cons_zero, List.set_cons_succ])
      | ((refine wpDet_val (v := ?_) (by rfl) (fun w hS => ?_) ?_); rotate_left; (focus ((try dsimp only at hS); go_simp; (try (with_reducible rfl)); done)); simp only [Act.put, List.setIfInBounds_toArray, List.set_cons_zero, List.set_cons_succ]))
    refine wpDet_nil ?_
    intro wa hS
    have hT : wa.cell? ⟨g, 0, none⟩ = some (.slice A n c) ∧ wa.cell? ⟨g, 1, none⟩ = some (.int .i64 (i : Int)) ∧ wa.cell? ⟨g, 2, none⟩ = some (.int .u64 sd) ∧ (g < wa.heap.size ∧ ∀ i, wa.frozen? ⟨g, i, none⟩ = false) ∧ Below w.heap.size w wa := hS
    clear hS
    have hS := hT
    obtain ⟨c0, c1, c2, c3, hB⟩ := hT
    have hzwa : w.heap.size ≤ wa.heap.size := hB.size
    have hz1 : g < wa.heap.size := World.block_lt_of_cell? wa _ (hS.1)
    go_wp2
    generalize hW2 : World.setCell (World.setCell _ _ _) _ _ = W2
    have hC2 : ∃ sd2, CurAt W2 g (i + 1) sd2 := ⟨_, by rw [← hW2]; exact set_cur (HAT.out.keep fun b hb => hB.block b (by omega)) (i + 1) _⟩
    obtain ⟨sd2, hC2⟩ := hC2
    have HC2 := hide hC2
    clear hC2
    have hG : w.grownBy W2 (some g) := by rw [← hW2]; exact gb_set (gb_set (gb_below (gb_refl _ _) hB) _ _) _ _
    have HG := hide hG
    clear hG
    have hdd := cur_cells (x := .slice A n c) (y := .int .i64 (i : Int)) (z := .int .u64 sd) c0 c1 c2 (.int .i64 ((i : Int) + 1))
    obtain ⟨sd3, d0, d1, d2⟩ : ∃ sd3 : Int, W2.cell? ⟨g, 0, none⟩ = some (.slice A n c) ∧ W2.cell? ⟨g, 1, none⟩ = some (.int .i64 ((i : Int) + 1)) ∧ W2.cell? ⟨g, 2, none⟩ = some (.int .u64 sd3) := by rw [← hW2]; exact ⟨_, hdd _⟩
    have hgz : g < W2.heap.size := World.block_lt_of_cell? W2 _ d0
    clear hdd hW2 hS hB c0 c1 c2
    refine wp_region_det (fun w' => w'.cell? ⟨g, 0, none⟩ = some (.slice A n c) ∧ w'.cell? ⟨g, 1, none⟩ = some (.int .i64 ((i : Int) + 1)) ∧ w'.cell? ⟨g, 2, none⟩ = some (.int .u64 sd3) ∧ Below W2.heap.size W2 w') (by kernel_rfl) (by kernel_rfl) ⟨d0, d1, d2, by go_grown⟩ ?_
    repeat (first
      | ((refine wpDet_skip (by rfl) ?_); simp only [Act.put, List.setIfInBounds_toArray, List.set_cons_zero, List.set_cons_succ])
      | ((refine wpDet_val (v := ?_) (by rfl) (fun w hS => ?_) ?_); rotate_left; (focus ((try dsimp only at hS); go_simp; (try (with_reducible rfl)); done)); simp only [Act.put, List.setIfInBounds_toArray, List.set_cons_zero, List.set_cons_succ]))
    refine wpDet_nil ?_
    intro wc hS
    have hT : wc.cell? ⟨g, 0, none⟩ = some (.slice A n c) ∧ wc.cell? ⟨g, 1, none⟩ = some (.int .i64 ((i : Int) + 1)) ∧ wc.cell? ⟨g, 2, none⟩ = some (.int .u64 sd3) ∧ Below W2.heap.size W2 wc := hS
    clear hS
    have hS := hT
    obtain ⟨c0, c1, c2, hB⟩ := hT
    have hzwc : W2.heap.size ≤ wc.heap.size := hB.size
    have hw1 : g < wc.heap.size := World.block_lt_of_cell? wc _ (hS.1)
    go_wp2
    go_returns
    obtain ⟨u0, u1⟩ := u64_and255 (sd3 / 1099511627776)
    have ew : wrap64 (bits .and .u64 (sd3 / 1099511627776) 255) = bits .and .u64 (sd3 / 1099511627776) 255 := IntWalk.wrap64_in _ (by omega)
    refine ⟨_, rfl, ⟨_, rfl, by rw [ew]; omega⟩, ⟨i + 1, sd2, by omega, HC2.out.keep fun b hb => hB.block b (by omega)⟩, gb_below HG.out hB⟩

def IsPick (n : Int) (v : Value) (_ : World) : Prop := ∃ x : Int, v = .int .i64 x ∧ 0 ≤ x ∧ x < max n 1

theorem pick_c (n : Int) (hn : n ≤ 1000000000) (g k : Nat) (w : World) (hc : Hid (Cur w g k)) (hk : k ≤ 100000)  : Calls Try.prog 76 #[.pointer (some ⟨g, 0, none⟩), .int .i64 n] w (CurG w g (k + 2) (IsPick n)) := by
  obtain ⟨ci, csd, hci, hca⟩ := hc.out
  by_cases h1 : n ≤ 1
  · go_enter Try.func76, Try.ntmps76
    go_wp2
    go_returns
    exact ⟨_, rfl, ⟨0, rfl, by omega, by omega⟩, ⟨ci, csd, by omega, hca⟩, gb_refl _ _⟩
  by_cases h2 : 200 < n
  · go_enter Try.func76, Try.ntmps76
    go_wp2_with fail
    refine (next_c g (k) _ (hide hc.out) (by omega)).mono ?_
    rintro e w1 ⟨_, rfl, ⟨x, rfl, x0, x1⟩, hc1, hg1⟩
    go_wp2_with fail
    refine (next_c g (k + 1) _ (hide (hc1)) (by omega)).mono ?_
    rintro e w2 ⟨_, rfl, ⟨y, rfl, y0, y1⟩, hc2, hg2⟩
    have ew1 : IntKind.i64.wrap (x * 256) = x * 256 := IntWalk.i64_in _ (by omega)
    have ew2 : IntKind.i64.wrap (x * 256 + y) = x * 256 + y := IntWalk.i64_in _ (by omega)
    go_wp2
    go_returns
    have hm0 := Int.emod_nonneg (x * 256 + y) (show n ≠ 0 by omega)
    have hm1 := Int.emod_lt_of_pos (x * 256 + y) (show 0 < n by omega)
    exact ⟨_, rfl, ⟨_, rfl, by omega, by omega⟩, hc2, grown_trans hg1 hg2⟩
  go_enter Try.func76, Try.ntmps76
  go_wp2_with fail
  refine (next_c g (k) _ (hide hc.out) (by omega)).mono ?_
  rintro e w1 ⟨_, rfl, ⟨x, rfl, x0, x1⟩, hc1, hg1⟩
  go_wp2
  go_returns
  have hm0 := Int.emod_nonneg x (show n ≠ 0 by omega)
  have hm1 := Int.emod_lt_of_pos x (show 0 < n by omega)
  obtain ⟨di, dsd, hdi, hda⟩ := hc1
  exact ⟨_, rfl, ⟨_, rfl, by omega, by omega⟩, ⟨di, dsd, by omega, hda⟩, hg1⟩

theorem one_c (n : Int) (hn : n ≤ 1000000000) (g k : Nat) (w : World) (hc : Hid (Cur w g k)) (hk : k ≤ 100000)  : Calls Try.prog 55 #[.pointer (some ⟨g, 0, none⟩), .int .i64 n] w (CurG w g (k + 2) IsB) := by
  go_enter Try.func55, Try.ntmps55
  go_wp2_with fail
  refine (pick_c (n) (by omega) g (k) _ (hide (hc.out)) (by omega)).mono ?_
  rintro e w1 ⟨_, rfl, ⟨x, rfl, x0, x1⟩, hc1, hg1⟩
  go_wp2
  go_returns
  exact ⟨_, rfl, ⟨_, rfl⟩, hc1, hg1⟩

theorem among_c (a b : Int) (l : List Int) (ad : Addr) (c : Nat) (g k : Nat) (w : World) (hc : Hid (Cur w g k)) (hk : k ≤ 100000) (hrd : Hid (∀ j, j < l.length → w.cell? (ad.add j) = some (.int .i64 (nth l j)))) (hne : ad.block ≠ g) (hlen : 0 < l.length ∧ l.length ≤ 1000) (hall : Hid (∀ x ∈ l, a ≤ x ∧ x ≤ b))  : Calls Try.prog 62 #[.pointer (some ⟨g, 0, none⟩), .slice (some ad) l.length c] w (CurG w g (k + 2) (IsI a b)) := by
  obtain ⟨hl0, hl1⟩ := hlen
  go_enter Try.func62, Try.ntmps62
  go_wp2_with fail
  refine (pick_c (l.length) (by omega) g (k) _ (hide (hc.out)) (by omega)).mono ?_
  rintro e w1 ⟨_, rfl, ⟨x, rfl, x0, x1⟩, hc1, hg1⟩
  obtain ⟨j, rfl⟩ := Int.eq_ofNat_of_zero_le x0
  have hj : j < l.length := by omega
  have hcell : w1.cell? (ad.add j) = some (.int .i64 (nth l j)) := hg1.cell (hrd.out j hj) (by rw [block_of_add]; intro e; injection e with e; exact hne e)
  obtain ⟨m0, m1⟩ := hall.out _ (nth_mem hj)
  go_wp2
  go_returns
  exact ⟨_, rfl, ⟨_, rfl, m0, m1⟩, hc1, hg1⟩
end Go.Proofs.Ytpabfkodlgglcaa
