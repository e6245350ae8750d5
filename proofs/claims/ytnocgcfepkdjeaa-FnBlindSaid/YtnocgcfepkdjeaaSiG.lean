/- Contracts: covers and the ground. -/
import Derived.Test.YtnocgcfepkdjeaaSiF
namespace Go.Proofs.Ytnocgcfepkdjeaa
open Go.RowKit

theorem l10Cover_c (w : World) (A : Option Addr) (c : Nat) (l : List Pt) (x y r : Int) (h1 : Hid (Reads w w.heap.size 2 A l.length (flat l))) (hn : l.length ≤ 1000) (hsm : Hid (small l)) (hx0 : -1000000 ≤ x) (hx1 : x ≤ 1000000) (hy0 : -1000000 ≤ y) (hy1 : y ≤ 1000000)  : Calls Try.prog 93 #[.slice A l.length c, .agg #[.int .i64 x, .int .i64 y], .int .i64 r] w (GivesS w 3 1 (covN l (x, y) r l.length).length (ints (covN l (x, y) r l.length)) id) := by
  obtain ⟨i0, hi0, iz0, iy0, ix0⟩ := info_parts infoInt
  go_enter Try.func93, Try.ntmps93
  go_wp2
  go_loopw [7, 8] (fun ov iv wr => ∃ (i : Nat) (k : Nat) (B : Option Addr) (d : Nat), i ≤ l.length ∧ iv = .int .i64 i ∧ ov = .slice B k d ∧ k ≤ i ∧ Hid (wr.ownsRow (w.heap.size + 1) 3 1 (.slice B k d) k (ints (covN l (x, y) r i))) ∧ (wr.cell? ⟨w.heap.size, 0, none⟩ = some (.int .i64 x) ∧ wr.cell? ⟨w.heap.size, 1, none⟩ = some (.int .i64 y) ∧ Below w.heap.size w wr)) (fun _ iv _ => l.length - (intOf iv).toNat)
  case atStart =>
    refine ⟨0, 0, _, _, by omega, rfl, rfl, by omega, hide ?_, ?_⟩
    · exact own_empty _ (by simp) (by omega)
    · exact (by first | (with_reducible assumption) | (exact hS) | (exact ⟨hS.1, hS.2.1, (by go_grown)⟩) | (exact ⟨(by first | (with_reducible assumption) | (simp [go_sem]; done) | ((simp only [go_sem]); (with_reducible assumption)) | ((refine keep_cell ?_ (by with_reducible assumption)); go_grown; done) | (simp [go_sem, *]; done)), (by first | (with_reducible assumption) | (simp [go_sem]; done) | ((simp only [go_sem]); (with_reducible assumption)) | ((refine keep_cell ?_ (by with_reducible assumption)); go_grown; done) | (simp [go_sem, *]; done)), (by go_grown)⟩))
  case round =>
    obtain ⟨i, k, B, d, hi, rfl, rfl, hki, hown, hS⟩ := hrel
    have hS2 := hS
    obtain ⟨e0, e1, hB⟩ := hS2
    have hrow := hown.out
    have hzw : w.heap.size ≤ wr.heap.size := hB.size
    have hzb0 : w.heap.size < wr.heap.size := World.block_lt_of_cell? wr _ e0
    by_cases hlt : i < l.length
    · obtain ⟨a1, rfl, kb, cx, cy⟩ := (h1.out.below hB).pt (k := i) (by omega)
      obtain ⟨⟨bx0, bx1⟩, by0, by1⟩ := hsm.out i (by omega)
      obtain ⟨d0, d1⟩ := dst_bd bx0 bx1 by0 by1 hx0 hx1 hy0 hy1
      by_cases hd : dst (px l i, py l i) (x, y) ≤ r
      · go_wp2
        refine wp_region_det (fun w' => w'.cell? ⟨w.heap.size, 0, none⟩ = some (.int .i64 x) ∧ w'.cell? ⟨w.heap.size, 1, none⟩ = some (.int .i64 y) ∧ w'.cell? (a1.add (i * 2)) = some (.int .i64 (px l i)) ∧ w'.cell? ⟨(a1.add (i * 2)).block, (a1.add (i * 2)).off + 1, none⟩ = some (.int .i64 (py l i)) ∧ w'.ownsRow (w.heap.size + 1) 3 1 (.slice B k d) (k) (ints (covN l (x, y) r i)) ∧ Below w.heap.size w w') (by kernel_rfl) (by kernel_rfl) (by first | (with_reducible assumption) | (exact hS) | (exact ⟨hS.1, hS.2.1, hS.2.2.1, hS.2.2.2.1, hS.2.2.2.2.1, (by go_grown)⟩) | (exact ⟨(by first | (with_reducible assumption) | (simp [go_sem]; done) | ((simp only [go_sem]); (with_reducible assumption)) | ((refine keep_cell ?_ (by with_reducible assumption)); go_grown; done) | (simp [go_sem, *]; done)), (by first | (with_reducible assumption) | (simp [go_sem]; done) | ((simp only [go_sem]); (with_reducible assumption)) | ((refine keep_cell ?_ (by with_reducible assumption)); go_grown; done) | (simp [go_sem, *]; done)), (by first | (with_reducible assumption) | (simp [go_sem]; done) | ((simp only [go_sem]); (with_reducible assumption)) | ((refine keep_cell ?_ (by with_reducible assumption)); go_grown; done) | (simp [go_sem, *]; done)), (by first | (with_reducible assumption) | (simp [go_sem]; done) | ((simp only [go_sem]); (with_reducible assumption)) | ((refine keep_cell ?_ (by with_reducible assumption)); go_grown; done) | (simp [go_sem, *]; done)), (by first | (with_reducible assumption) | (exact World.ownsRow.alloc (by with_reducible assumption) _) | ((refine own_below (by with_reducible assumption) ?_); go_grown)), (by go_grown)⟩)) ?_
        repeat (first
          | ((refine wpDet_skip (by rfl) ?_); simp only [Act.put, List.setIfInBounds_toArray, List.set_cons_zero, List.set_cons_succ])
          | ((refine wpDet_val (v := ?_) (by rfl) (fun w hS => ?_) ?_); rotate_left; (focus ((try dsimp only at hS); go_simp; (try (with_reducible rfl)); done)); simp only [Act.put, List.setIfInBounds_toArray, List.set_cons_zero, List.set_cons_succ])
          | ((refine wpDet_call (v := ?_) (f := ?_) (args := ?_) (by rfl) (fun w => ?_) (fun w hS => ?_) ?_); rotate_left; rotate_left; rotate_left; (focus (go_simp; (constructor <;> (with_reducible rfl)); done)); (focus (first | (go_at_call 104; refine (l10Dist_c _ _ _ _ (by omega) (by omega) (by omega) (by omega) (by omega) (by omega) (by omega) (by omega) _).mono ?_; intro e w' h; refine ⟨h.1.trans ?_, ⟨keep_cell (h.2) hS.1, keep_cell (h.2) hS.2.1, keep_cell (h.2) hS.2.2.1, keep_cell (h.2) hS.2.2.2.1, own_below hS.2.2.2.2.1 (h.2), below_via hS.2.2.2.2.2 (h.2)⟩⟩; with_reducible rfl))); simp only [Act.put, List.setIfInBounds_toArray, List.set_cons_zero, List.set_cons_succ]))
        refine wpDet_nil ?_
        intro w1 hS
        have hT : w1.cell? ⟨w.heap.size, 0, none⟩ = some (.int .i64 x) ∧ w1.cell? ⟨w.heap.size, 1, none⟩ = some (.int .i64 y) ∧ w1.cell? (a1.add (i * 2)) = some (.int .i64 (px l i)) ∧ w1.cell? ⟨(a1.add (i * 2)).block, (a1.add (i * 2)).off + 1, none⟩ = some (.int .i64 (py l i)) ∧ w1.ownsRow (w.heap.size + 1) 3 1 (.slice B k d) (k) (ints (covN l (x, y) r i)) ∧ Below w.heap.size w w1 := hS
        clear hS
        have hS := hT
        obtain ⟨c0, c1, c2, c3, c4, hB⟩ := hT
        have hzw : w.heap.size ≤ w1.heap.size := hB.size
        have hz1 : w.heap.size < w1.heap.size := World.block_lt_of_cell? w1 _ (hS.1)
        go_wp2_with (first | (at_builtin; refine wpList_append_lies _ rfl _ _ 30 rfl (w.heap.size + 1) 3 i0 (.int .i64 0) 1 8 Try.underlying30 hi0 iz0 iy0 ix0 rfl (by decide) _ k _ rfl (c4.alloc _) ⟨w1.heap.size, 0, none⟩ 1 1 [.int .i64 (i : Int)] rfl rfl (news_one (by simp [go_sem])) (by intro u hu; simp at hu; subst hu; rfl) (by decide) (by unfold maxLen; omega) (by omega) (by first | (simp [go_sem]; done) | (simp [go_sem]; omega)) _ rfl ?_; intro g cap w2 hown2 hgrow _ _; have hT : w2.cell? ⟨w.heap.size, 0, none⟩ = some (.int .i64 x) ∧ w2.cell? ⟨w.heap.size, 1, none⟩ = some (.int .i64 y) ∧ Below w.heap.size w w2 := ⟨own_cell ((c4.alloc _)) hgrow (by simp [go_sem, *]) (by first | omega | (simp; done) | (simp; omega)), own_cell ((c4.alloc _)) hgrow (by simp [go_sem, *]) (by first | omega | (simp; done) | (simp; omega)), own_grown (a := w) (B := w.heap.size) ((c4.alloc _)) hgrow (by go_grown) (by first | (simp [go_sem]; done) | (simp [go_sem]; omega)) (by omega)⟩; (try clear hS hB hzw hgrow); have hS := hT; clear hT; have hB := hS.2.2; have hzw : w.heap.size ≤ w2.heap.size := hB.size; have hz1 : w.heap.size < w2.heap.size := World.block_lt_of_cell? w2 _ (hS.1)))
        go_wp2
        go_roundw
        case rel => exact ⟨i + 1, k + 1, _, _, by omega, by go_num, rfl, by omega, hide (by rw [covN_yes hd, ints_snoc]; exact hown2), hS⟩
        case measure => simp [intOf]; omega
      · have hdb : decide (dst (px l i, py l i) (x, y) ≤ r) = false := decide_eq_false hd
        have HD := hide hd
        clear hd
        go_wp2
        refine wp_region_det (fun w' => w'.cell? ⟨w.heap.size, 0, none⟩ = some (.int .i64 x) ∧ w'.cell? ⟨w.heap.size, 1, none⟩ = some (.int .i64 y) ∧ w'.cell? (a1.add (i * 2)) = some (.int .i64 (px l i)) ∧ w'.cell? ⟨(a1.add (i * 2)).block, (a1.add (i * 2)).off + 1, none⟩ = some (.int .i64 (py l i)) ∧ w'.ownsRow (w.heap.size + 1) 3 1 (.slice B k d) (k) (ints (covN l (x, y) r i)) ∧ Below w.heap.size w w') (by kernel_rfl) (by kernel_rfl) (by first | (with_reducible assumption) | (exact hS) | (exact ⟨hS.1, hS.2.1, hS.2.2.1, hS.2.2.2.1, hS.2.2.2.2.1, (by go_grown)⟩) | (exact ⟨(by first | (with_reducible assumption) | (simp [go_sem]; done) | ((simp only [go_sem]); (with_reducible assumption)) | ((refine keep_cell ?_ (by with_reducible assumption)); go_grown; done) | (simp [go_sem, *]; done)), (by first | (with_reducible assumption) | (simp [go_sem]; done) | ((simp only [go_sem]); (with_reducible assumption)) | ((refine keep_cell ?_ (by with_reducible assumption)); go_grown; done) | (simp [go_sem, *]; done)), (by first | (with_reducible assumption) | (simp [go_sem]; done) | ((simp only [go_sem]); (with_reducible assumption)) | ((refine keep_cell ?_ (by with_reducible assumption)); go_grown; done) | (simp [go_sem, *]; done)), (by first | (with_reducible assumption) | (simp [go_sem]; done) | ((simp only [go_sem]); (with_reducible assumption)) | ((refine keep_cell ?_ (by with_reducible assumption)); go_grown; done) | (simp [go_sem, *]; done)), (by first | (with_reducible assumption) | (exact World.ownsRow.alloc (by with_reducible assumption) _) | ((refine own_below (by with_reducible assumption) ?_); go_grown)), (by go_grown)⟩)) ?_
        repeat (first
          | ((refine wpDet_skip (by rfl) ?_); simp only [Act.put, List.setIfInBounds_toArray, List.set_cons_zero, List.set_cons_succ])
          | ((refine wpDet_val (v := ?_) (by rfl) (fun w hS => ?_) ?_); rotate_left; (focus ((try dsimp only at hS); go_simp; (try (with_reducible rfl)); done)); simp only [Act.put, List.setIfInBounds_toArray, List.set_cons_zero, List.set_cons_succ])
          | ((refine wpDet_call (v := ?_) (f := ?_) (args := ?_) (by rfl) (fun w => ?_) (fun w hS => ?_) ?_); rotate_left; rotate_left; rotate_left; (focus (go_simp; (constructor <;> (with_reducible rfl)); done)); (focus (first | (go_at_call 104; refine (l10Dist_c _ _ _ _ (by omega) (by omega) (by omega) (by omega) (by omega) (by omega) (by omega) (by omega) _).mono ?_; intro e w' h; refine ⟨h.1.trans ?_, ⟨keep_cell (h.2) hS.1, keep_cell (h.2) hS.2.1, keep_cell (h.2) hS.2.2.1, keep_cell (h.2) hS.2.2.2.1, own_below hS.2.2.2.2.1 (h.2), below_via hS.2.2.2.2.2 (h.2)⟩⟩; with_reducible rfl))); simp only [Act.put, List.setIfInBounds_toArray, List.set_cons_zero, List.set_cons_succ]))
        refine wpDet_nil ?_
        intro w1 hS
        have hT : w1.cell? ⟨w.heap.size, 0, none⟩ = some (.int .i64 x) ∧ w1.cell? ⟨w.heap.size, 1, none⟩ = some (.int .i64 y) ∧ w1.cell? (a1.add (i * 2)) = some (.int .i64 (px l i)) ∧ w1.cell? ⟨(a1.add (i * 2)).block, (a1.add (i * 2)).off + 1, none⟩ = some (.int .i64 (py l i)) ∧ w1.ownsRow (w.heap.size + 1) 3 1 (.slice B k d) (k) (ints (covN l (x, y) r i)) ∧ Below w.heap.size w w1 := hS
        clear hS
        have hS := hT
        obtain ⟨c0, c1, c2, c3, c4, hB⟩ := hT
        have hzw : w.heap.size ≤ w1.heap.size := hB.size
        have hz1 : w.heap.size < w1.heap.size := World.block_lt_of_cell? w1 _ (hS.1)
        go_wp2
        go_roundw
        case rel => exact ⟨i + 1, k, _, _, by omega, by go_num, rfl, by omega, hide (by rw [covN_no (show ¬ dst (px l i, py l i) (x, y) ≤ r by have := HD.out; omega)]; exact c4), ⟨c0, c1, hB⟩⟩
        case measure => simp [intOf]; omega
    obtain rfl : i = l.length := by omega
    have hk := own_len hown.out
    obtain rfl : k = (covN l (x, y) r l.length).length := by rw [← hk, ints_len]
    go_wp2
    go_returns
    exact ⟨_, _, rfl, own_mono hown.out (by omega), hB⟩

theorem cover_c (w : World) (A : Option Addr) (c : Nat) (l : List Pt) (x y r : Int) (h1 : Hid (Reads w w.heap.size 2 A l.length (flat l))) (hn : l.length ≤ 1000) (hsm : Hid (small l)) (hx0 : -1000000 ≤ x) (hx1 : x ≤ 1000000) (hy0 : -1000000 ≤ y) (hy1 : y ≤ 1000000)  : Calls Try.prog 90 #[.slice A l.length c, .agg #[.int .i64 x, .int .i64 y], .int .i64 r] w (GivesS w 3 1 (covN l (x, y) r l.length).length (ints (covN l (x, y) r l.length)) id) := by
  obtain ⟨i0, hi0, iz0, iy0, ix0⟩ := info_parts infoInt
  go_enter Try.func90, Try.ntmps90
  go_wp2
  go_loopw [7, 12] (fun ov iv wr => ∃ (i : Nat) (k : Nat) (B : Option Addr) (d : Nat), i ≤ l.length ∧ iv = .int .i64 i ∧ ov = .slice B k d ∧ k ≤ i ∧ Hid (wr.ownsRow (w.heap.size + 1) 3 1 (.slice B k d) k (ints (covN l (x, y) r i))) ∧ (wr.cell? ⟨w.heap.size, 0, none⟩ = some (.int .i64 x) ∧ wr.cell? ⟨w.heap.size, 1, none⟩ = some (.int .i64 y) ∧ Below w.heap.size w wr)) (fun _ iv _ => l.length - (intOf iv).toNat)
  case atStart =>
    refine ⟨0, 0, _, _, by omega, rfl, rfl, by omega, hide ?_, ?_⟩
    · exact World.ownsRow_nil _ _ _ _
    · exact (by first | (with_reducible assumption) | (exact hS) | (exact ⟨hS.1, hS.2.1, (by go_grown)⟩) | (exact ⟨(by first | (with_reducible assumption) | (simp [go_sem]; done) | ((simp only [go_sem]); (with_reducible assumption)) | ((refine keep_cell ?_ (by with_reducible assumption)); go_grown; done) | (simp [go_sem, *]; done)), (by first | (with_reducible assumption) | (simp [go_sem]; done) | ((simp only [go_sem]); (with_reducible assumption)) | ((refine keep_cell ?_ (by with_reducible assumption)); go_grown; done) | (simp [go_sem, *]; done)), (by go_grown)⟩))
  case round =>
    obtain ⟨i, k, B, d, hi, rfl, rfl, hki, hown, hS⟩ := hrel
    have hS2 := hS
    obtain ⟨e0, e1, hB⟩ := hS2
    have hrow := hown.out
    have hzw : w.heap.size ≤ wr.heap.size := hB.size
    have hzb0 : w.heap.size < wr.heap.size := World.block_lt_of_cell? wr _ e0
    by_cases hlt : i < l.length
    · obtain ⟨a1, rfl, kb, cx, cy⟩ := (h1.out.below hB).pt (k := i) (by omega)
      obtain ⟨⟨bx0, bx1⟩, by0, by1⟩ := hsm.out i (by omega)
      obtain ⟨d0, d1⟩ := dst_bd bx0 bx1 by0 by1 hx0 hx1 hy0 hy1
      by_cases hd : dst (px l i, py l i) (x, y) ≤ r
      · go_wp2_with (first | (go_at_call 94; refine (siteDist_c _ _ _ _ (by omega) (by omega) (by omega) (by omega) (by omega) (by omega) (by omega) (by omega) _).mono ?_; rintro e w1 ⟨rfl, hb⟩; have hT : w1.cell? ⟨w.heap.size, 0, none⟩ = some (.int .i64 x) ∧ w1.cell? ⟨w.heap.size, 1, none⟩ = some (.int .i64 y) ∧ w1.ownsRow (w.heap.size + 1) 3 1 (.slice B k d) (k) (ints (covN l (x, y) r i)) ∧ Below w.heap.size w w1 := (fun W h hb => ⟨keep_cell (hb) h.1, keep_cell (hb) h.2.1, own_below h.2.2.1 (hb), below_via h.2.2.2 (hb)⟩ : ∀ W : World, (W.cell? ⟨w.heap.size, 0, none⟩ = some (.int .i64 x) ∧ W.cell? ⟨w.heap.size, 1, none⟩ = some (.int .i64 y) ∧ W.ownsRow (w.heap.size + 1) 3 1 (.slice B k d) (k) (ints (covN l (x, y) r i)) ∧ Below w.heap.size w W) → Below W.heap.size W w1 → (w1.cell? ⟨w.heap.size, 0, none⟩ = some (.int .i64 x) ∧ w1.cell? ⟨w.heap.size, 1, none⟩ = some (.int .i64 y) ∧ w1.ownsRow (w.heap.size + 1) 3 1 (.slice B k d) (k) (ints (covN l (x, y) r i)) ∧ Below w.heap.size w w1)) _ (by first | (with_reducible assumption) | (exact hS) | (exact ⟨hS.1, hS.2.1, hS.2.2.1, (by go_grown)⟩) | (exact ⟨(by first | (with_reducible assumption) | (simp [go_sem]; done) | ((simp only [go_sem]); (with_reducible assumption)) | ((refine keep_cell ?_ (by with_reducible assumption)); go_grown; done) | (simp [go_sem, *]; done)), (by first | (with_reducible assumption) | (simp [go_sem]; done) | ((simp only [go_sem]); (with_reducible assumption)) | ((refine keep_cell ?_ (by with_reducible assumption)); go_grown; done) | (simp [go_sem, *]; done)), (by first | (with_reducible assumption) | (exact World.ownsRow.alloc (by with_reducible assumption) _) | ((refine own_below (by with_reducible assumption) ?_); go_grown)), (by go_grown)⟩)) hb; (try clear hS); have hS := hT; clear hT; have hB := hS.2.2.2; have hzw : w.heap.size ≤ w1.heap.size := hB.size; have hz1 : w.heap.size < w1.heap.size := World.block_lt_of_cell? w1 _ (hS.1); clear hb) | (at_builtin; refine wpList_append_lies _ rfl _ _ 30 rfl (w.heap.size + 1) 3 i0 (.int .i64 0) 1 8 Try.underlying30 hi0 iz0 iy0 ix0 rfl (by decide) _ k _ rfl (hS.2.2.1.alloc _) ⟨w1.heap.size, 0, none⟩ 1 1 [.int .i64 (i : Int)] rfl rfl (news_one (by simp [go_sem])) (by intro u hu; simp at hu; subst hu; rfl) (by decide) (by unfold maxLen; omega) (by omega) (by first | (simp [go_sem]; done) | (simp [go_sem]; omega)) _ rfl ?_; intro g cap w2 hown2 hgrow _ _; have hT : w2.cell? ⟨w.heap.size, 0, none⟩ = some (.int .i64 x) ∧ w2.cell? ⟨w.heap.size, 1, none⟩ = some (.int .i64 y) ∧ Below w.heap.size w w2 := ⟨own_cell ((hS.2.2.1.alloc _)) hgrow (by simp [go_sem, *]) (by first | omega | (simp; done) | (simp; omega)), own_cell ((hS.2.2.1.alloc _)) hgrow (by simp [go_sem, *]) (by first | omega | (simp; done) | (simp; omega)), own_grown (a := w) (B := w.heap.size) ((hS.2.2.1.alloc _)) hgrow (by go_grown) (by first | (simp [go_sem]; done) | (simp [go_sem]; omega)) (by omega)⟩; (try clear hS hB hzw hgrow); have hS := hT; clear hT; have hB := hS.2.2; have hzw : w.heap.size ≤ w2.heap.size := hB.size; have hz1 : w.heap.size < w2.heap.size := World.block_lt_of_cell? w2 _ (hS.1)))
        go_wp2
        go_roundw
        case rel => exact ⟨i + 1, k + 1, _, _, by omega, by go_num, rfl, by omega, hide (by rw [covN_yes hd, ints_snoc]; exact hown2), hS⟩
        case measure => simp [intOf]; omega
      · have hdb : decide (dst (px l i, py l i) (x, y) ≤ r) = false := decide_eq_false hd
        have HD := hide hd
        clear hd
        go_wp2_with (first | (go_at_call 94; refine (siteDist_c _ _ _ _ (by omega) (by omega) (by omega) (by omega) (by omega) (by omega) (by omega) (by omega) _).mono ?_; rintro e w1 ⟨rfl, hb⟩; have hT : w1.cell? ⟨w.heap.size, 0, none⟩ = some (.int .i64 x) ∧ w1.cell? ⟨w.heap.size, 1, none⟩ = some (.int .i64 y) ∧ w1.ownsRow (w.heap.size + 1) 3 1 (.slice B k d) (k) (ints (covN l (x, y) r i)) ∧ Below w.heap.size w w1 := (fun W h hb => ⟨keep_cell (hb) h.1, keep_cell (hb) h.2.1, own_below h.2.2.1 (hb), below_via h.2.2.2 (hb)⟩ : ∀ W : World, (W.cell? ⟨w.heap.size, 0, none⟩ = some (.int .i64 x) ∧ W.cell? ⟨w.heap.size, 1, none⟩ = some (.int .i64 y) ∧ W.ownsRow (w.heap.size + 1) 3 1 (.slice B k d) (k) (ints (covN l (x, y) r i)) ∧ Below w.heap.size w W) → Below W.heap.size W w1 → (w1.cell? ⟨w.heap.size, 0, none⟩ = some (.int .i64 x) ∧ w1.cell? ⟨w.heap.size, 1, none⟩ = some (.int .i64 y) ∧ w1.ownsRow (w.heap.size + 1) 3 1 (.slice B k d) (k) (ints (covN l (x, y) r i)) ∧ Below w.heap.size w w1)) _ (by first | (with_reducible assumption) | (exact hS) | (exact ⟨hS.1, hS.2.1, hS.2.2.1, (by go_grown)⟩) | (exact ⟨(by first | (with_reducible assumption) | (simp [go_sem]; done) | ((simp only [go_sem]); (with_reducible assumption)) | ((refine keep_cell ?_ (by with_reducible assumption)); go_grown; done) | (simp [go_sem, *]; done)), (by first | (with_reducible assumption) | (simp [go_sem]; done) | ((simp only [go_sem]); (with_reducible assumption)) | ((refine keep_cell ?_ (by with_reducible assumption)); go_grown; done) | (simp [go_sem, *]; done)), (by first | (with_reducible assumption) | (exact World.ownsRow.alloc (by with_reducible assumption) _) | ((refine own_below (by with_reducible assumption) ?_); go_grown)), (by go_grown)⟩)) hb; (try clear hS); have hS := hT; clear hT; have hB := hS.2.2.2; have hzw : w.heap.size ≤ w1.heap.size := hB.size; have hz1 : w.heap.size < w1.heap.size := World.block_lt_of_cell? w1 _ (hS.1); clear hb))
        go_wp2
        go_roundw
        case rel => exact ⟨i + 1, k, _, _, by omega, by go_num, rfl, by omega, hide (by rw [covN_no (show ¬ dst (px l i, py l i) (x, y) ≤ r by have := HD.out; omega)]; exact hS.2.2.1), ⟨hS.1, hS.2.1, hB⟩⟩
        case measure => simp [intOf]; omega
    obtain rfl : i = l.length := by omega
    have hk := own_len hown.out
    obtain rfl : k = (covN l (x, y) r l.length).length := by rw [← hk, ints_len]
    go_wp2
    go_returns
    exact ⟨_, _, rfl, own_mono hown.out (by omega), hB⟩

theorem ground_c (w : World)  : Calls Try.prog 74 #[] w (GivesS w 32 2 961 (flat (groundN 961)) id) := by
  obtain ⟨i0, hi0, iz0, iy0, ix0⟩ := info_parts infoSite
  go_enter Try.func74, Try.ntmps74
  go_wp2
  go_loopw [1, 2] (fun ov yv wr => ∃ (y : Nat) (B : Option Addr) (d : Nat), y ≤ 31 ∧ yv = .int .i64 y ∧ ov = .slice B (31 * y) d ∧ Hid (wr.ownsRow w.heap.size 32 2 (.slice B (31 * y) d) (31 * y) (flat (groundN (31 * y)))) ∧ Below w.heap.size w wr) (fun _ yv _ => 31 - (intOf yv).toNat)
  case atStart =>
    refine ⟨0, _, _, by omega, rfl, rfl, hide ?_, Below.refl _ _⟩
    exact World.ownsRow_nil _ _ _ _
  case round =>
    obtain ⟨y, B, d, hy, rfl, rfl, hown, hB⟩ := hrel
    have hzw : w.heap.size ≤ wr.heap.size := hB.size
    by_cases hlt : y < 31
    rotate_left
    · obtain rfl : y = 31 := by omega
      go_wp2
      go_returns
      exact ⟨_, _, rfl, hown.out, hB⟩
    have hy30 : (y : Int) ≤ 30 := by omega
    go_wp2
    obtain ⟨wo, hwo⟩ : ∃ wo : World, wo = wr := ⟨_, rfl⟩
    rw [← hwo] at hown hB hzw ⊢
    clear hwo
    go_loopw [1, 3] (fun ov xv wr => ∃ (x : Nat) (B : Option Addr) (d : Nat), x ≤ 31 ∧ xv = .int .i64 x ∧ ov = .slice B (31 * y + x) d ∧ Hid (wr.ownsRow w.heap.size 32 2 (.slice B (31 * y + x) d) (31 * y + x) (flat (groundN (31 * y + x)))) ∧ Below w.heap.size w wr) (fun _ xv _ => 31 - (intOf xv).toNat)
    case atStart => exact ⟨0, _, _, by omega, rfl, rfl, hown, hB⟩
    case round =>
      obtain ⟨x, B, d, hx, rfl, rfl, hown, hB⟩ := hrel
      have hzw : w.heap.size ≤ wr.heap.size := hB.size
      by_cases hltx : x < 31
      · have hx30 : (x : Int) ≤ 30 := by omega
        have hrow := hown.out
        go_wp2_with (first | (at_builtin; refine wpList_append_lies _ rfl _ _ 26 rfl (w.heap.size) 32 i0 (.agg #[.int .i64 0, .int .i64 0]) 2 16 Try.underlying26 hi0 iz0 iy0 ix0 rfl (by decide) _ (31 * y + x) _ rfl (hrow.alloc _) ⟨wr.heap.size, 0, none⟩ 1 1 [.int .i64 (x : Int), .int .i64 (y : Int)] rfl rfl (news_two (by simp [go_sem]) (by simp [go_sem])) (by intro u hu; simp at hu; rcases hu with rfl | rfl <;> rfl) (by decide) (by unfold maxLen; omega) (by omega) (by first | (simp [go_sem]; done) | (simp [go_sem]; omega)) _ rfl ?_; intro g cap w2 hown2 hgrow _ _; have hT : Below w.heap.size w w2 := own_grown (a := w) (B := w.heap.size) ((hrow.alloc _)) hgrow (by go_grown) (by first | (simp [go_sem]; done) | (simp [go_sem]; omega)) (by omega); (try clear hS hB hzw hgrow); have hS := hT; clear hT; have hB := hS; have hzw : w.heap.size ≤ w2.heap.size := hB.size))
        go_wp2
        go_roundw
        case rel => exact ⟨x + 1, _, _, by omega, by go_num, rfl, hide (by rw [show 31 * y + (x + 1) = 31 * y + x + 1 from by omega, groundN_succ, flat_snoc, gpt_at hltx]; exact hown2), hS⟩
        case measure => simp [intOf]; omega
      · obtain rfl : x = 31 := by omega
        go_wp2
        go_roundw
        case rel => exact ⟨y + 1, _, _, by omega, by go_num, by rw [show 31 * (y + 1) = 31 * y + 31 from by omega], by rw [show 31 * (y + 1) = 31 * y + 31 from by omega]; exact hown, hB⟩
        case measure => simp [intOf]; omega
end Go.Proofs.Ytnocgcfepkdjeaa
