/- Contracts: arrivals and times of sending. -/
import Derived.Test.YtnocgcfepkdjeaaSiE
namespace Go.Proofs.Ytnocgcfepkdjeaa
open Go.RowKit

theorem l10Arrivals_c (w : World) (A : Option Addr) (c : Nat) (l : List Pt) (x y t : Int) (h1 : Hid (Reads w w.heap.size 2 A l.length (flat l))) (hn : l.length ≤ 1000) (hsm : Hid (small l)) (hx0 : -1000000 ≤ x) (hx1 : x ≤ 1000000) (hy0 : -1000000 ≤ y) (hy1 : y ≤ 1000000) (ht0 : -1000000 ≤ t) (ht1 : t ≤ 1000000)  : Calls Try.prog 71 #[.slice A l.length c, .agg #[.int .i64 x, .int .i64 y], .int .i64 t] w (GivesS w 3 1 l.length (ints (arrL l (x, y) t)) id) := by
  obtain ⟨i0, hi0, iz0, iy0, ix0⟩ := info_parts infoInt
  go_enter Try.func71, Try.ntmps71
  go_wp2
  go_loopw [7, 8] (fun ov iv wr => ∃ (i : Nat) (B : Option Addr) (d : Nat), i ≤ l.length ∧ iv = .int .i64 i ∧ ov = .slice B i d ∧ Hid (wr.ownsRow (w.heap.size + 1) 3 1 (.slice B i d) i (ints (arrL (l.take i) (x, y) t))) ∧ (wr.cell? ⟨w.heap.size, 0, none⟩ = some (.int .i64 x) ∧ wr.cell? ⟨w.heap.size, 1, none⟩ = some (.int .i64 y) ∧ Below w.heap.size w wr)) (fun _ iv _ => l.length - (intOf iv).toNat)
  case atStart =>
    refine ⟨0, _, _, by omega, rfl, rfl, hide ?_, ?_⟩
    · exact own_empty _ (by simp) (by omega)
    · exact (by first | (with_reducible assumption) | (exact hS) | (exact ⟨hS.1, hS.2.1, (by go_grown)⟩) | (exact ⟨(by first | (with_reducible assumption) | (simp [go_sem]; done) | ((simp only [go_sem]); (with_reducible assumption)) | ((refine keep_cell ?_ (by with_reducible assumption)); go_grown; done) | (simp [go_sem, *]; done)), (by first | (with_reducible assumption) | (simp [go_sem]; done) | ((simp only [go_sem]); (with_reducible assumption)) | ((refine keep_cell ?_ (by with_reducible assumption)); go_grown; done) | (simp [go_sem, *]; done)), (by go_grown)⟩))
  case round =>
    obtain ⟨i, B, d, hi, rfl, rfl, hown, hS⟩ := hrel
    have hS2 := hS
    obtain ⟨e0, e1, hB⟩ := hS2
    have hrow := hown.out
    have hzw : w.heap.size ≤ wr.heap.size := hB.size
    have hzb0 : w.heap.size < wr.heap.size := World.block_lt_of_cell? wr _ e0
    by_cases hlt : i < l.length
    · obtain ⟨a1, rfl, kb, cx, cy⟩ := (h1.out.below hB).pt (k := i) (by omega)
      obtain ⟨⟨bx0, bx1⟩, by0, by1⟩ := hsm.out i (by omega)
      obtain ⟨d0, d1⟩ := dst_bd bx0 bx1 by0 by1 hx0 hx1 hy0 hy1
      have ew : IntKind.i64.wrap (t + dst (px l i, py l i) (x, y)) = t + dst (px l i, py l i) (x, y) := IntWalk.i64_in _ (by omega)
      go_wp2
      refine wp_region_tailF [0] 9 (fun w' => w'.cell? ⟨w.heap.size, 0, none⟩ = some (.int .i64 x) ∧ w'.cell? ⟨w.heap.size, 1, none⟩ = some (.int .i64 y) ∧ w'.cell? (a1.add (i * 2)) = some (.int .i64 (px l i)) ∧ w'.cell? ⟨(a1.add (i * 2)).block, (a1.add (i * 2)).off + 1, none⟩ = some (.int .i64 (py l i)) ∧ w'.ownsRow (w.heap.size + 1) 3 1 (.slice B i d) (i) (ints (arrL (l.take i) (x, y) t)) ∧ Below w.heap.size w w') (by kernel_rfl) (by kernel_rfl) (by kernel_rfl) (by kernel_rfl) (of_decide_eq_true (by kernel_rfl)) (by first | (with_reducible assumption) | (exact hS) | (exact ⟨hS.1, hS.2.1, hS.2.2.1, hS.2.2.2.1, hS.2.2.2.2.1, (by go_grown)⟩) | (exact ⟨(by first | (with_reducible assumption) | (simp [go_sem]; done) | ((simp only [go_sem]); (with_reducible assumption)) | ((refine keep_cell ?_ (by with_reducible assumption)); go_grown; done) | (simp [go_sem, *]; done)), (by first | (with_reducible assumption) | (simp [go_sem]; done) | ((simp only [go_sem]); (with_reducible assumption)) | ((refine keep_cell ?_ (by with_reducible assumption)); go_grown; done) | (simp [go_sem, *]; done)), (by first | (with_reducible assumption) | (simp [go_sem]; done) | ((simp only [go_sem]); (with_reducible assumption)) | ((refine keep_cell ?_ (by with_reducible assumption)); go_grown; done) | (simp [go_sem, *]; done)), (by first | (with_reducible assumption) | (simp [go_sem]; done) | ((simp only [go_sem]); (with_reducible assumption)) | ((refine keep_cell ?_ (by with_reducible assumption)); go_grown; done) | (simp [go_sem, *]; done)), (by first | (with_reducible assumption) | (exact World.ownsRow.alloc (by with_reducible assumption) _) | ((refine own_below (by with_reducible assumption) ?_); go_grown)), (by go_grown)⟩)) ?_
      dsimp only [List.take, List.drop]
      repeat (first
        | ((refine wpDet_skip (by rfl) ?_); simp only [Act.put, List.setIfInBounds_toArray, List.set_cons_zero, List.set_cons_succ])
        | ((refine wpDet_val (v := ?_) (by rfl) (fun w hS => ?_) ?_); rotate_left; (focus ((try dsimp only at hS); go_simp; (try (with_reducible rfl)); done)); simp only [Act.put, List.setIfInBounds_toArray, List.set_cons_zero, List.set_cons_succ])
        | ((refine wpDet_call (v := ?_) (f := ?_) (args := ?_) (by rfl) (fun w => ?_) (fun w hS => ?_) ?_); rotate_left; rotate_left; rotate_left; (focus (go_simp; (constructor <;> (with_reducible rfl)); done)); (focus (first | (go_at_call 104; refine (l10Dist_c _ _ _ _ (by omega) (by omega) (by omega) (by omega) (by omega) (by omega) (by omega) (by omega) _).mono ?_; intro e w' h; refine ⟨h.1.trans ?_, ⟨keep_cell (h.2) hS.1, keep_cell (h.2) hS.2.1, keep_cell (h.2) hS.2.2.1, keep_cell (h.2) hS.2.2.2.1, own_below hS.2.2.2.2.1 (h.2), below_via hS.2.2.2.2.2 (h.2)⟩⟩; with_reducible rfl))); simp only [Act.put, List.setIfInBounds_toArray, List.set_cons_zero, List.set_cons_succ]))
      refine wpDet_nil ?_
      intro w1 hS
      have hT : w1.cell? ⟨w.heap.size, 0, none⟩ = some (.int .i64 x) ∧ w1.cell? ⟨w.heap.size, 1, none⟩ = some (.int .i64 y) ∧ w1.cell? (a1.add (i * 2)) = some (.int .i64 (px l i)) ∧ w1.cell? ⟨(a1.add (i * 2)).block, (a1.add (i * 2)).off + 1, none⟩ = some (.int .i64 (py l i)) ∧ w1.ownsRow (w.heap.size + 1) 3 1 (.slice B i d) (i) (ints (arrL (l.take i) (x, y) t)) ∧ Below w.heap.size w w1 := hS
      clear hS
      have hS := hT
      obtain ⟨c0, c1, c2, c3, c4, hB⟩ := hT
      have hzw : w.heap.size ≤ w1.heap.size := hB.size
      have hz1 : w.heap.size < w1.heap.size := World.block_lt_of_cell? w1 _ (hS.1)
      go_wp2_with (first | (at_builtin; refine wpList_append_lies _ rfl _ _ 30 rfl (w.heap.size + 1) 3 i0 (.int .i64 0) 1 8 Try.underlying30 hi0 iz0 iy0 ix0 rfl (by decide) _ i _ rfl (c4.alloc _) ⟨w1.heap.size, 0, none⟩ 1 1 [.int .i64 (t + dst (px l i, py l i) (x, y))] rfl rfl (news_one (by simp [go_sem])) (by intro u hu; simp at hu; subst hu; rfl) (by decide) (by unfold maxLen; omega) (by omega) (by first | (simp [go_sem]; done) | (simp [go_sem]; omega)) _ rfl ?_; intro g cap w2 hown2 hgrow _ _; have hT : w2.cell? ⟨w.heap.size, 0, none⟩ = some (.int .i64 x) ∧ w2.cell? ⟨w.heap.size, 1, none⟩ = some (.int .i64 y) ∧ Below w.heap.size w w2 := ⟨own_cell ((c4.alloc _)) hgrow (by simp [go_sem, *]) (by first | omega | (simp; done) | (simp; omega)), own_cell ((c4.alloc _)) hgrow (by simp [go_sem, *]) (by first | omega | (simp; done) | (simp; omega)), own_grown (a := w) (B := w.heap.size) ((c4.alloc _)) hgrow (by go_grown) (by first | (simp [go_sem]; done) | (simp [go_sem]; omega)) (by omega)⟩; (try clear hS hB hzw hgrow); have hS := hT; clear hT; have hB := hS.2.2; have hzw : w.heap.size ≤ w2.heap.size := hB.size; have hz1 : w.heap.size < w2.heap.size := World.block_lt_of_cell? w2 _ (hS.1)))
      refine ⟨rfl, ?_⟩
      go_wp2
      go_roundw
      case rel => exact ⟨i + 1, _, _, by omega, by go_num, rfl, hide (by rw [arrL_take l (x, y) t i hlt, ints_snoc]; exact hown2), hS⟩
      case measure => simp [intOf]; omega
    obtain rfl : i = l.length := by omega
    go_wp2
    go_returns
    exact ⟨_, _, rfl, by have h9 := own_mono hown.out (base' := w.heap.size) (by omega); rw [List.take_length] at h9; exact h9, hB⟩

theorem arrivals_c (w : World) (A : Option Addr) (c : Nat) (l : List Pt) (x y t : Int) (h1 : Hid (Reads w w.heap.size 2 A l.length (flat l))) (hn : l.length ≤ 1000) (hsm : Hid (small l)) (hx0 : -1000000 ≤ x) (hx1 : x ≤ 1000000) (hy0 : -1000000 ≤ y) (hy1 : y ≤ 1000000) (ht0 : -1000000 ≤ t) (ht1 : t ≤ 1000000)  : Calls Try.prog 76 #[.slice A l.length c, .agg #[.int .i64 x, .int .i64 y], .int .i64 t] w (GivesS w 3 1 l.length (ints (arrL l (x, y) t)) id) := by
  obtain ⟨i0, hi0, iz0, iy0, ix0⟩ := info_parts infoInt
  go_enter Try.func76, Try.ntmps76
  go_wp2
  go_loopw [7, 12] (fun ov iv wr => ∃ (i : Nat) (B : Option Addr) (d : Nat), i ≤ l.length ∧ iv = .int .i64 i ∧ ov = .slice B i d ∧ Hid (wr.ownsRow (w.heap.size + 1) 3 1 (.slice B i d) i (ints (arrL (l.take i) (x, y) t))) ∧ (wr.cell? ⟨w.heap.size, 0, none⟩ = some (.int .i64 x) ∧ wr.cell? ⟨w.heap.size, 1, none⟩ = some (.int .i64 y) ∧ Below w.heap.size w wr)) (fun _ iv _ => l.length - (intOf iv).toNat)
  case atStart =>
    refine ⟨0, _, _, by omega, rfl, rfl, hide ?_, ?_⟩
    · exact World.ownsRow_nil _ _ _ _
    · exact (by first | (with_reducible assumption) | (exact hS) | (exact ⟨hS.1, hS.2.1, (by go_grown)⟩) | (exact ⟨(by first | (with_reducible assumption) | (simp [go_sem]; done) | ((simp only [go_sem]); (with_reducible assumption)) | ((refine keep_cell ?_ (by with_reducible assumption)); go_grown; done) | (simp [go_sem, *]; done)), (by first | (with_reducible assumption) | (simp [go_sem]; done) | ((simp only [go_sem]); (with_reducible assumption)) | ((refine keep_cell ?_ (by with_reducible assumption)); go_grown; done) | (simp [go_sem, *]; done)), (by go_grown)⟩))
  case round =>
    obtain ⟨i, B, d, hi, rfl, rfl, hown, hS⟩ := hrel
    have hS2 := hS
    obtain ⟨e0, e1, hB⟩ := hS2
    have hrow := hown.out
    have hzw : w.heap.size ≤ wr.heap.size := hB.size
    have hzb0 : w.heap.size < wr.heap.size := World.block_lt_of_cell? wr _ e0
    by_cases hlt : i < l.length
    · obtain ⟨a1, rfl, kb, cx, cy⟩ := (h1.out.below hB).pt (k := i) (by omega)
      obtain ⟨⟨bx0, bx1⟩, by0, by1⟩ := hsm.out i (by omega)
      obtain ⟨d0, d1⟩ := dst_bd bx0 bx1 by0 by1 hx0 hx1 hy0 hy1
      have ew : IntKind.i64.wrap (t + dst (px l i, py l i) (x, y)) = t + dst (px l i, py l i) (x, y) := IntWalk.i64_in _ (by omega)
      go_wp2_with (first | (go_at_call 94; refine (siteDist_c _ _ _ _ (by omega) (by omega) (by omega) (by omega) (by omega) (by omega) (by omega) (by omega) _).mono ?_; rintro e w1 ⟨rfl, hb⟩; have hT : w1.cell? ⟨w.heap.size, 0, none⟩ = some (.int .i64 x) ∧ w1.cell? ⟨w.heap.size, 1, none⟩ = some (.int .i64 y) ∧ w1.ownsRow (w.heap.size + 1) 3 1 (.slice B i d) (i) (ints (arrL (l.take i) (x, y) t)) ∧ Below w.heap.size w w1 := (fun W h hb => ⟨keep_cell (hb) h.1, keep_cell (hb) h.2.1, own_below h.2.2.1 (hb), below_via h.2.2.2 (hb)⟩ : ∀ W : World, (W.cell? ⟨w.heap.size, 0, none⟩ = some (.int .i64 x) ∧ W.cell? ⟨w.heap.size, 1, none⟩ = some (.int .i64 y) ∧ W.ownsRow (w.heap.size + 1) 3 1 (.slice B i d) (i) (ints (arrL (l.take i) (x, y) t)) ∧ Below w.heap.size w W) → Below W.heap.size W w1 → (w1.cell? ⟨w.heap.size, 0, none⟩ = some (.int .i64 x) ∧ w1.cell? ⟨w.heap.size, 1, none⟩ = some (.int .i64 y) ∧ w1.ownsRow (w.heap.size + 1) 3 1 (.slice B i d) (i) (ints (arrL (l.take i) (x, y) t)) ∧ Below w.heap.size w w1)) _ (by first | (with_reducible assumption) | (exact hS) | (exact ⟨hS.1, hS.2.1, hS.2.2.1, (by go_grown)⟩) | (exact ⟨(by first | (with_reducible assumption) | (simp [go_sem]; done) | ((simp only [go_sem]); (with_reducible assumption)) | ((refine keep_cell ?_ (by with_reducible assumption)); go_grown; done) | (simp [go_sem, *]; done)), (by first | (with_reducible assumption) | (simp [go_sem]; done) | ((simp only [go_sem]); (with_reducible assumption)) | ((refine keep_cell ?_ (by with_reducible assumption)); go_grown; done) | (simp [go_sem, *]; done)), (by first | (with_reducible assumption) | (exact World.ownsRow.alloc (by with_reducible assumption) _) | ((refine own_below (by with_reducible assumption) ?_); go_grown)), (by go_grown)⟩)) hb; (try clear hS); have hS := hT; clear hT; have hB := hS.2.2.2; have hzw : w.heap.size ≤ w1.heap.size := hB.size; have hz1 : w.heap.size < w1.heap.size := World.block_lt_of_cell? w1 _ (hS.1); clear hb) | (at_builtin; refine wpList_append_lies _ rfl _ _ 30 rfl (w.heap.size + 1) 3 i0 (.int .i64 0) 1 8 Try.underlying30 hi0 iz0 iy0 ix0 rfl (by decide) _ i _ rfl (hS.2.2.1.alloc _) ⟨w1.heap.size, 0, none⟩ 1 1 [.int .i64 (t + dst (px l i, py l i) (x, y))] rfl rfl (news_one (by simp [go_sem])) (by intro u hu; simp at hu; subst hu; rfl) (by decide) (by unfold maxLen; omega) (by omega) (by first | (simp [go_sem]; done) | (simp [go_sem]; omega)) _ rfl ?_; intro g cap w2 hown2 hgrow _ _; have hT : w2.cell? ⟨w.heap.size, 0, none⟩ = some (.int .i64 x) ∧ w2.cell? ⟨w.heap.size, 1, none⟩ = some (.int .i64 y) ∧ Below w.heap.size w w2 := ⟨own_cell ((hS.2.2.1.alloc _)) hgrow (by simp [go_sem, *]) (by first | omega | (simp; done) | (simp; omega)), own_cell ((hS.2.2.1.alloc _)) hgrow (by simp [go_sem, *]) (by first | omega | (simp; done) | (simp; omega)), own_grown (a := w) (B := w.heap.size) ((hS.2.2.1.alloc _)) hgrow (by go_grown) (by first | (simp [go_sem]; done) | (simp [go_sem]; omega)) (by omega)⟩; (try clear hS hB hzw hgrow); have hS := hT; clear hT; have hB := hS.2.2; have hzw : w.heap.size ≤ w2.heap.size := hB.size; have hz1 : w.heap.size < w2.heap.size := World.block_lt_of_cell? w2 _ (hS.1)))
      go_wp2
      go_roundw
      case rel => exact ⟨i + 1, _, _, by omega, by go_num, rfl, hide (by rw [arrL_take l (x, y) t i hlt, ints_snoc]; exact hown2), hS⟩
      case measure => simp [intOf]; omega
    obtain rfl : i = l.length := by omega
    go_wp2
    go_returns
    exact ⟨_, _, rfl, by have h9 := own_mono hown.out (base' := w.heap.size) (by omega); rw [List.take_length] at h9; exact h9, hB⟩

theorem l10Sent_c (w : World) (A : Option Addr) (c : Nat) (l : List Pt) (x y : Int) (A2 : Option Addr) (c2 : Nat) (a : List Int) (h1 : Hid (Reads w w.heap.size 2 A l.length (flat l))) (hn : l.length ≤ 1000) (hsm : Hid (small l)) (h2 : Hid (Reads w w.heap.size 1 A2 a.length (ints a))) (HAL : Hid (a.length = l.length)) (hab : Hid (smallN a l.length)) (hx0 : -1000000 ≤ x) (hx1 : x ≤ 1000000) (hy0 : -1000000 ≤ y) (hy1 : y ≤ 1000000)  : Calls Try.prog 106 #[.slice A l.length c, .agg #[.int .i64 x, .int .i64 y], .slice A2 a.length c2] w (GivesS w 3 1 l.length (ints (sentN l a (x, y) l.length)) id) := by
  have h2l := h2
  rw [HAL.out] at h2l ⊢
  clear h2
  have h2 := h2l
  clear h2l
  obtain ⟨i0, hi0, iz0, iy0, ix0⟩ := info_parts infoInt
  go_enter Try.func106, Try.ntmps106
  go_wp2
  go_loopw [7, 8] (fun ov iv wr => ∃ (i : Nat) (B : Option Addr) (d : Nat), i ≤ l.length ∧ iv = .int .i64 i ∧ ov = .slice B i d ∧ Hid (wr.ownsRow (w.heap.size + 1) 3 1 (.slice B i d) i (ints (sentN l a (x, y) i))) ∧ (wr.cell? ⟨w.heap.size, 0, none⟩ = some (.int .i64 x) ∧ wr.cell? ⟨w.heap.size, 1, none⟩ = some (.int .i64 y) ∧ Below w.heap.size w wr)) (fun _ iv _ => l.length - (intOf iv).toNat)
  case atStart =>
    refine ⟨0, _, _, by omega, rfl, rfl, hide ?_, ?_⟩
    · exact own_empty _ (by simp) (by omega)
    · exact (by first | (with_reducible assumption) | (exact hS) | (exact ⟨hS.1, hS.2.1, (by go_grown)⟩) | (exact ⟨(by first | (with_reducible assumption) | (simp [go_sem]; done) | ((simp only [go_sem]); (with_reducible assumption)) | ((refine keep_cell ?_ (by with_reducible assumption)); go_grown; done) | (simp [go_sem, *]; done)), (by first | (with_reducible assumption) | (simp [go_sem]; done) | ((simp only [go_sem]); (with_reducible assumption)) | ((refine keep_cell ?_ (by with_reducible assumption)); go_grown; done) | (simp [go_sem, *]; done)), (by go_grown)⟩))
  case round =>
    obtain ⟨i, B, d, hi, rfl, rfl, hown, hS⟩ := hrel
    have hS2 := hS
    obtain ⟨e0, e1, hB⟩ := hS2
    have hrow := hown.out
    have hzw : w.heap.size ≤ wr.heap.size := hB.size
    have hzb0 : w.heap.size < wr.heap.size := World.block_lt_of_cell? wr _ e0
    by_cases hlt : i < l.length
    · obtain ⟨a1, rfl, kb, cx, cy⟩ := (h1.out.below hB).pt (k := i) (by omega)
      obtain ⟨⟨bx0, bx1⟩, by0, by1⟩ := hsm.out i (by omega)
      obtain ⟨d0, d1⟩ := dst_bd bx0 bx1 by0 by1 hx0 hx1 hy0 hy1
      obtain ⟨a2, rfl, nkb, nx⟩ := (h2.out.below hB).num (k := i) (by have := Reads.leni h2.out; omega)
      obtain ⟨n0, n1⟩ := hab.out i hlt
      have nz := World.block_lt_of_cell? wr _ nx
      have ew : IntKind.i64.wrap (nth a i - dst (px l i, py l i) (x, y)) = nth a i - dst (px l i, py l i) (x, y) := IntWalk.i64_in _ (by omega)
      go_wp2
      refine wp_region_tailF [0] 12 (fun w' => w'.cell? ⟨w.heap.size, 0, none⟩ = some (.int .i64 x) ∧ w'.cell? ⟨w.heap.size, 1, none⟩ = some (.int .i64 y) ∧ w'.cell? (a1.add (i * 2)) = some (.int .i64 (px l i)) ∧ w'.cell? ⟨(a1.add (i * 2)).block, (a1.add (i * 2)).off + 1, none⟩ = some (.int .i64 (py l i)) ∧ w'.cell? (a2.add i) = some (.int .i64 (nth a i)) ∧ w'.ownsRow (w.heap.size + 1) 3 1 (.slice B i d) (i) (ints (sentN l a (x, y) i)) ∧ Below w.heap.size w w') (by kernel_rfl) (by kernel_rfl) (by kernel_rfl) (by kernel_rfl) (of_decide_eq_true (by kernel_rfl)) (by first | (with_reducible assumption) | (exact hS) | (exact ⟨hS.1, hS.2.1, hS.2.2.1, hS.2.2.2.1, hS.2.2.2.2.1, hS.2.2.2.2.2.1, (by go_grown)⟩) | (exact ⟨(by first | (with_reducible assumption) | (simp [go_sem]; done) | ((simp only [go_sem]); (with_reducible assumption)) | ((refine keep_cell ?_ (by with_reducible assumption)); go_grown; done) | (simp [go_sem, *]; done)), (by first | (with_reducible assumption) | (simp [go_sem]; done) | ((simp only [go_sem]); (with_reducible assumption)) | ((refine keep_cell ?_ (by with_reducible assumption)); go_grown; done) | (simp [go_sem, *]; done)), (by first | (with_reducible assumption) | (simp [go_sem]; done) | ((simp only [go_sem]); (with_reducible assumption)) | ((refine keep_cell ?_ (by with_reducible assumption)); go_grown; done) | (simp [go_sem, *]; done)), (by first | (with_reducible assumption) | (simp [go_sem]; done) | ((simp only [go_sem]); (with_reducible assumption)) | ((refine keep_cell ?_ (by with_reducible assumption)); go_grown; done) | (simp [go_sem, *]; done)), (by first | (with_reducible assumption) | (simp [go_sem]; done) | ((simp only [go_sem]); (with_reducible assumption)) | ((refine keep_cell ?_ (by with_reducible assumption)); go_grown; done) | (simp [go_sem, *]; done)), (by first | (with_reducible assumption) | (exact World.ownsRow.alloc (by with_reducible assumption) _) | ((refine own_below (by with_reducible assumption) ?_); go_grown)), (by go_grown)⟩)) ?_
      dsimp only [List.take, List.drop]
      repeat (first
        | ((refine wpDet_skip (by rfl) ?_); simp only [Act.put, List.setIfInBounds_toArray, List.set_cons_zero, List.set_cons_succ])
        | ((refine wpDet_val (v := ?_) (by rfl) (fun w hS => ?_) ?_); rotate_left; (focus ((try dsimp only at hS); go_simp; (try (with_reducible rfl)); done)); simp only [Act.put, List.setIfInBounds_toArray, List.set_cons_zero, List.set_cons_succ])
        | ((refine wpDet_call (v := ?_) (f := ?_) (args := ?_) (by rfl) (fun w => ?_) (fun w hS => ?_) ?_); rotate_left; rotate_left; rotate_left; (focus (go_simp; (constructor <;> (with_reducible rfl)); done)); (focus (first | (go_at_call 104; refine (l10Dist_c _ _ _ _ (by omega) (by omega) (by omega) (by omega) (by omega) (by omega) (by omega) (by omega) _).mono ?_; intro e w' h; refine ⟨h.1.trans ?_, ⟨keep_cell (h.2) hS.1, keep_cell (h.2) hS.2.1, keep_cell (h.2) hS.2.2.1, keep_cell (h.2) hS.2.2.2.1, keep_cell (h.2) hS.2.2.2.2.1, own_below hS.2.2.2.2.2.1 (h.2), below_via hS.2.2.2.2.2.2 (h.2)⟩⟩; with_reducible rfl))); simp only [Act.put, List.setIfInBounds_toArray, List.set_cons_zero, List.set_cons_succ]))
      refine wpDet_nil ?_
      intro w1 hS
      have hT : w1.cell? ⟨w.heap.size, 0, none⟩ = some (.int .i64 x) ∧ w1.cell? ⟨w.heap.size, 1, none⟩ = some (.int .i64 y) ∧ w1.cell? (a1.add (i * 2)) = some (.int .i64 (px l i)) ∧ w1.cell? ⟨(a1.add (i * 2)).block, (a1.add (i * 2)).off + 1, none⟩ = some (.int .i64 (py l i)) ∧ w1.cell? (a2.add i) = some (.int .i64 (nth a i)) ∧ w1.ownsRow (w.heap.size + 1) 3 1 (.slice B i d) (i) (ints (sentN l a (x, y) i)) ∧ Below w.heap.size w w1 := hS
      clear hS
      have hS := hT
      obtain ⟨c0, c1, c2, c3, c4, c5, hB⟩ := hT
      have hzw : w.heap.size ≤ w1.heap.size := hB.size
      have hz1 : w.heap.size < w1.heap.size := World.block_lt_of_cell? w1 _ (hS.1)
      go_wp2_with (first | (at_builtin; refine wpList_append_lies _ rfl _ _ 30 rfl (w.heap.size + 1) 3 i0 (.int .i64 0) 1 8 Try.underlying30 hi0 iz0 iy0 ix0 rfl (by decide) _ i _ rfl (c5.alloc _) ⟨w1.heap.size, 0, none⟩ 1 1 [.int .i64 (nth a i - dst (px l i, py l i) (x, y))] rfl rfl (news_one (by simp [go_sem])) (by intro u hu; simp at hu; subst hu; rfl) (by decide) (by unfold maxLen; omega) (by omega) (by first | (simp [go_sem]; done) | (simp [go_sem]; omega)) _ rfl ?_; intro g cap w2 hown2 hgrow _ _; have hT : w2.cell? ⟨w.heap.size, 0, none⟩ = some (.int .i64 x) ∧ w2.cell? ⟨w.heap.size, 1, none⟩ = some (.int .i64 y) ∧ Below w.heap.size w w2 := ⟨own_cell ((c5.alloc _)) hgrow (by simp [go_sem, *]) (by first | omega | (simp; done) | (simp; omega)), own_cell ((c5.alloc _)) hgrow (by simp [go_sem, *]) (by first | omega | (simp; done) | (simp; omega)), own_grown (a := w) (B := w.heap.size) ((c5.alloc _)) hgrow (by go_grown) (by first | (simp [go_sem]; done) | (simp [go_sem]; omega)) (by omega)⟩; (try clear hS hB hzw hgrow); have hS := hT; clear hT; have hB := hS.2.2; have hzw : w.heap.size ≤ w2.heap.size := hB.size; have hz1 : w.heap.size < w2.heap.size := World.block_lt_of_cell? w2 _ (hS.1)))
      refine ⟨rfl, ?_⟩
      go_wp2
      go_roundw
      case rel => exact ⟨i + 1, _, _, by omega, by go_num, rfl, hide (by rw [sentN_succ, ints_snoc]; exact hown2), hS⟩
      case measure => simp [intOf]; omega
    obtain rfl : i = l.length := by omega
    go_wp2
    go_returns
    exact ⟨_, _, rfl, by have h9 := own_mono hown.out (base' := w.heap.size) (by omega); exact h9, hB⟩

theorem sent_c (w : World) (A : Option Addr) (c : Nat) (l : List Pt) (x y : Int) (A2 : Option Addr) (c2 : Nat) (a : List Int) (h1 : Hid (Reads w w.heap.size 2 A l.length (flat l))) (hn : l.length ≤ 1000) (hsm : Hid (small l)) (h2 : Hid (Reads w w.heap.size 1 A2 a.length (ints a))) (HAL : Hid (a.length = l.length)) (hab : Hid (smallN a l.length)) (hx0 : -1000000 ≤ x) (hx1 : x ≤ 1000000) (hy0 : -1000000 ≤ y) (hy1 : y ≤ 1000000)  : Calls Try.prog 101 #[.slice A l.length c, .agg #[.int .i64 x, .int .i64 y], .slice A2 a.length c2] w (GivesS w 3 1 l.length (ints (sentN l a (x, y) l.length)) id) := by
  have h2l := h2
  rw [HAL.out] at h2l ⊢
  clear h2
  have h2 := h2l
  clear h2l
  obtain ⟨i0, hi0, iz0, iy0, ix0⟩ := info_parts infoInt
  go_enter Try.func101, Try.ntmps101
  go_wp2
  go_loopw [7, 12] (fun ov iv wr => ∃ (i : Nat) (B : Option Addr) (d : Nat), i ≤ l.length ∧ iv = .int .i64 i ∧ ov = .slice B i d ∧ Hid (wr.ownsRow (w.heap.size + 1) 3 1 (.slice B i d) i (ints (sentN l a (x, y) i))) ∧ (wr.cell? ⟨w.heap.size, 0, none⟩ = some (.int .i64 x) ∧ wr.cell? ⟨w.heap.size, 1, none⟩ = some (.int .i64 y) ∧ Below w.heap.size w wr)) (fun _ iv _ => l.length - (intOf iv).toNat)
  case atStart =>
    refine ⟨0, _, _, by omega, rfl, rfl, hide ?_, ?_⟩
    · exact World.ownsRow_nil _ _ _ _
    · exact (by first | (with_reducible assumption) | (exact hS) | (exact ⟨hS.1, hS.2.1, (by go_grown)⟩) | (exact ⟨(by first | (with_reducible assumption) | (simp [go_sem]; done) | ((simp only [go_sem]); (with_reducible assumption)) | ((refine keep_cell ?_ (by with_reducible assumption)); go_grown; done) | (simp [go_sem, *]; done)), (by first | (with_reducible assumption) | (simp [go_sem]; done) | ((simp only [go_sem]); (with_reducible assumption)) | ((refine keep_cell ?_ (by with_reducible assumption)); go_grown; done) | (simp [go_sem, *]; done)), (by go_grown)⟩))
  case round =>
    obtain ⟨i, B, d, hi, rfl, rfl, hown, hS⟩ := hrel
    have hS2 := hS
    obtain ⟨e0, e1, hB⟩ := hS2
    have hrow := hown.out
    have hzw : w.heap.size ≤ wr.heap.size := hB.size
    have hzb0 : w.heap.size < wr.heap.size := World.block_lt_of_cell? wr _ e0
    by_cases hlt : i < l.length
    · obtain ⟨a1, rfl, kb, cx, cy⟩ := (h1.out.below hB).pt (k := i) (by omega)
      obtain ⟨⟨bx0, bx1⟩, by0, by1⟩ := hsm.out i (by omega)
      obtain ⟨d0, d1⟩ := dst_bd bx0 bx1 by0 by1 hx0 hx1 hy0 hy1
      obtain ⟨a2, rfl, nkb, nx⟩ := (h2.out.below hB).num (k := i) (by have := Reads.leni h2.out; omega)
      obtain ⟨n0, n1⟩ := hab.out i hlt
      have nz := World.block_lt_of_cell? wr _ nx
      have ew : IntKind.i64.wrap (nth a i - dst (px l i, py l i) (x, y)) = nth a i - dst (px l i, py l i) (x, y) := IntWalk.i64_in _ (by omega)
      obtain ⟨g, hg⟩ : ∃ g, wr.heap.size = g := ⟨_, rfl⟩
      go_wp2
      refine wp_region_tailF [0] 9 (fun w' => w'.cell? ⟨w.heap.size, 0, none⟩ = some (.int .i64 x) ∧ w'.cell? ⟨w.heap.size, 1, none⟩ = some (.int .i64 y) ∧ w'.cell? ⟨g, 0, none⟩ = some (.int .i64 (px l i)) ∧ w'.cell? ⟨g, 1, none⟩ = some (.int .i64 (py l i)) ∧ w'.cell? (a2.add i) = some (.int .i64 (nth a i)) ∧ w'.ownsRow (w.heap.size + 1) 3 1 (.slice B i d) (i) (ints (sentN l a (x, y) i)) ∧ Below w.heap.size w w') (by kernel_rfl) (by kernel_rfl) (by kernel_rfl) (by kernel_rfl) (of_decide_eq_true (by kernel_rfl)) (by first | (with_reducible assumption) | (exact hS) | (exact ⟨hS.1, hS.2.1, hS.2.2.1, hS.2.2.2.1, hS.2.2.2.2.1, hS.2.2.2.2.2.1, (by go_grown)⟩) | (exact ⟨(by first | (with_reducible assumption) | (simp [go_sem]; done) | ((simp only [go_sem]); (with_reducible assumption)) | ((refine keep_cell ?_ (by with_reducible assumption)); go_grown; done) | (simp [go_sem, *]; done)), (by first | (with_reducible assumption) | (simp [go_sem]; done) | ((simp only [go_sem]); (with_reducible assumption)) | ((refine keep_cell ?_ (by with_reducible assumption)); go_grown; done) | (simp [go_sem, *]; done)), (by first | (with_reducible assumption) | (simp [go_sem]; done) | ((simp only [go_sem]); (with_reducible assumption)) | ((refine keep_cell ?_ (by with_reducible assumption)); go_grown; done) | (simp [go_sem, *]; done)), (by first | (with_reducible assumption) | (simp [go_sem]; done) | ((simp only [go_sem]); (with_reducible assumption)) | ((refine keep_cell ?_ (by with_reducible assumption)); go_grown; done) | (simp [go_sem, *]; done)), (by first | (with_reducible assumption) | (simp [go_sem]; done) | ((simp only [go_sem]); (with_reducible assumption)) | ((refine keep_cell ?_ (by with_reducible assumption)); go_grown; done) | (simp [go_sem, *]; done)), (by first | (with_reducible assumption) | (exact World.ownsRow.alloc (by with_reducible assumption) _) | ((refine own_below (by with_reducible assumption) ?_); go_grown)), (by go_grown)⟩)) ?_
      dsimp only [List.take, List.drop]
      repeat (first
        | ((refine wpDet_skip (by rfl) ?_); simp only [Act.put, List.setIfInBounds_toArray, List.set_cons_zero, List.set_cons_succ])
        | ((refine wpDet_val (v := ?_) (by rfl) (fun w hS => ?_) ?_); rotate_left; (focus ((try dsimp only at hS); go_simp; (try (with_reducible rfl)); done)); simp only [Act.put, List.setIfInBounds_toArray, List.set_cons_zero, List.set_cons_succ])
        | ((refine wpDet_call (v := ?_) (f := ?_) (args := ?_) (by rfl) (fun w => ?_) (fun w hS => ?_) ?_); rotate_left; rotate_left; rotate_left; (focus (go_simp; (constructor <;> (with_reducible rfl)); done)); (focus (first | (go_at_call 94; refine (siteDist_c _ _ _ _ (by omega) (by omega) (by omega) (by omega) (by omega) (by omega) (by omega) (by omega) _).mono ?_; intro e w' h; refine ⟨h.1.trans ?_, ⟨keep_cell (h.2) hS.1, keep_cell (h.2) hS.2.1, keep_cell (h.2) hS.2.2.1, keep_cell (h.2) hS.2.2.2.1, keep_cell (h.2) hS.2.2.2.2.1, own_below hS.2.2.2.2.2.1 (h.2), below_via hS.2.2.2.2.2.2 (h.2)⟩⟩; with_reducible rfl))); simp only [Act.put, List.setIfInBounds_toArray, List.set_cons_zero, List.set_cons_succ]))
      refine wpDet_nil ?_
      intro w1 hS
      have hT : w1.cell? ⟨w.heap.size, 0, none⟩ = some (.int .i64 x) ∧ w1.cell? ⟨w.heap.size, 1, none⟩ = some (.int .i64 y) ∧ w1.cell? ⟨g, 0, none⟩ = some (.int .i64 (px l i)) ∧ w1.cell? ⟨g, 1, none⟩ = some (.int .i64 (py l i)) ∧ w1.cell? (a2.add i) = some (.int .i64 (nth a i)) ∧ w1.ownsRow (w.heap.size + 1) 3 1 (.slice B i d) (i) (ints (sentN l a (x, y) i)) ∧ Below w.heap.size w w1 := hS
      clear hS
      have hS := hT
      obtain ⟨c0, c1, c2, c3, c4, c5, hB⟩ := hT
      have hzw : w.heap.size ≤ w1.heap.size := hB.size
      have hz1 : w.heap.size < w1.heap.size := World.block_lt_of_cell? w1 _ (hS.1)
      have hz2 : g < w1.heap.size := World.block_lt_of_cell? w1 _ (hS.2.2.1)
      go_wp2_with (first | (at_builtin; refine wpList_append_lies _ rfl _ _ 30 rfl (w.heap.size + 1) 3 i0 (.int .i64 0) 1 8 Try.underlying30 hi0 iz0 iy0 ix0 rfl (by decide) _ i _ rfl (c5.alloc _) ⟨w1.heap.size, 0, none⟩ 1 1 [.int .i64 (nth a i - dst (px l i, py l i) (x, y))] rfl rfl (news_one (by simp [go_sem])) (by intro u hu; simp at hu; subst hu; rfl) (by decide) (by unfold maxLen; omega) (by omega) (by first | (simp [go_sem]; done) | (simp [go_sem]; omega)) _ rfl ?_; intro g cap w2 hown2 hgrow _ _; have hT : w2.cell? ⟨w.heap.size, 0, none⟩ = some (.int .i64 x) ∧ w2.cell? ⟨w.heap.size, 1, none⟩ = some (.int .i64 y) ∧ Below w.heap.size w w2 := ⟨own_cell ((c5.alloc _)) hgrow (by simp [go_sem, *]) (by first | omega | (simp; done) | (simp; omega)), own_cell ((c5.alloc _)) hgrow (by simp [go_sem, *]) (by first | omega | (simp; done) | (simp; omega)), own_grown (a := w) (B := w.heap.size) ((c5.alloc _)) hgrow (by go_grown) (by first | (simp [go_sem]; done) | (simp [go_sem]; omega)) (by omega)⟩; (try clear hS hB hzw hgrow); have hS := hT; clear hT; have hB := hS.2.2; have hzw : w.heap.size ≤ w2.heap.size := hB.size; have hz1 : w.heap.size < w2.heap.size := World.block_lt_of_cell? w2 _ (hS.1)))
      refine ⟨rfl, ?_⟩
      go_wp2
      go_roundw
      case rel => exact ⟨i + 1, _, _, by omega, by go_num, rfl, hide (by rw [sentN_succ, ints_snoc]; exact hown2), hS⟩
      case measure => simp [intOf]; omega
    obtain rfl : i = l.length := by omega
    go_wp2
    go_returns
    exact ⟨_, _, rfl, by have h9 := own_mono hown.out (base' := w.heap.size) (by omega); exact h9, hB⟩
end Go.Proofs.Ytnocgcfepkdjeaa
