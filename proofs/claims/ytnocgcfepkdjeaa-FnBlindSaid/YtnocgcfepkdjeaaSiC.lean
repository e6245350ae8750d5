/- Contracts: lists in the laws. -/
import Derived.Test.YtnocgcfepkdjeaaSiA
namespace Go.Proofs.Ytnocgcfepkdjeaa
open Go.RowKit

theorem infoInt : (Try.prog.info? 3).map (fun i => (i.zero, i.size, i.bytes)) = some (some (.int .i64 0), 1, 8) := by kernel_rfl

theorem infoSite : (Try.prog.info? 32).map (fun i => (i.zero, i.size, i.bytes)) = some (some (.agg #[.int .i64 0, .int .i64 0]), 2, 16) := by kernel_rfl

theorem szSiteS_c (A : Option Addr) (n c : Nat) (k : Int) (b1 : n ≤ 9223372036854775807) (b2 : 0 ≤ k) (b3 : k ≤ 1048576) (w : World) : Calls Try.prog 13 #[.slice A n c, .int .i64 k] w fun e w' => e = .returned (.int .i64 (if k < n then -1 else k - n)) ∧ w = w' := by
  by_cases h : k < n
  all_goals
    go_enter Try.func13, Try.ntmps13
    go_wp2
    all_goals (go_returns; exact ⟨ret_eq (by simp [h]), rfl⟩)

theorem eqSiteS_c (A1 A2 : Option Addr) (c1 c2 : Nat) (l1 l2 : List Pt) (w : World) (h1 : Hid (Reads w w.heap.size 2 A1 l1.length (flat l1))) (h2 : Hid (Reads w w.heap.size 2 A2 l2.length (flat l2))) (b1 : l1.length ≤ 4000000) (b2 : l2.length ≤ 4000000)  : Calls Try.prog 17 #[.slice A1 l1.length c1, .slice A2 l2.length c2] w (Gives w (.bool (decide (l1 = l2)))) := by
  by_cases he : l1.length = l2.length
  rotate_left
  · have HF := hide (show decide (l1 = l2) = false from decide_eq_false (len_ne he))
    have hb : ((l1.length : Int) != (l2.length : Int)) = true := by simp; omega
    go_enter Try.func17, Try.ntmps17
    go_wp2
    go_returns
    exact ⟨ret_eq (by rw [HF.out]; simp), by go_grown⟩
  obtain ⟨n, hn⟩ : ∃ n, l1.length = n := ⟨_, rfl⟩
  have hn2 : l2.length = n := by omega
  clear he
  rw [hn] at b1 h1 ⊢
  rw [hn2] at b2 h2 ⊢
  have Hn := hide hn
  have Hn2 := hide hn2
  clear hn hn2
  go_enter Try.func17, Try.ntmps17
  go_wp2
  go_loopw [5] (fun iv wr => ∃ (i : Nat), i ≤ n ∧ iv = .int .i64 i ∧ Hid (l1.take i = l2.take i) ∧ Below w.heap.size w wr) (fun iv _ => n - (intOf iv).toNat)
  case atStart => exact ⟨0, by omega, rfl, hide rfl, Below.refl _ _⟩
  case round =>
    obtain ⟨i, hi, rfl, H, hB⟩ := hrel
    by_cases hlt : i < n
    · have hl1 : i < l1.length := by have := Hn.out; omega
      have hl2 : i < l2.length := by have := Hn2.out; omega
      obtain ⟨a1, rfl, ekb, ex, ey⟩ := (h1.out.below hB).pt (k := i) (by omega)
      obtain ⟨a2, rfl, fkb, fx, fy⟩ := (h2.out.below hB).pt (k := i) (by omega)
      by_cases hc : (px l1 i, py l1 i) = (px l2 i, py l2 i)
      · have HS := hide (pts_step H.out hl1 hl2 hc)
        clear hl1 hl2
        have hcb : peq (px l1 i, py l1 i) (px l2 i, py l2 i) = true := by simp only [peq]; exact decide_eq_true hc
        clear hc
        go_wp2
        refine wp_region_det (fun w' => w'.cell? (a1.add (i * 2)) = some (.int .i64 (px l1 i)) ∧ w'.cell? ⟨(a1.add (i * 2)).block, (a1.add (i * 2)).off + 1, none⟩ = some (.int .i64 (py l1 i)) ∧ w'.cell? (a2.add (i * 2)) = some (.int .i64 (px l2 i)) ∧ w'.cell? ⟨(a2.add (i * 2)).block, (a2.add (i * 2)).off + 1, none⟩ = some (.int .i64 (py l2 i)) ∧ Below w.heap.size w w') (by kernel_rfl) (by kernel_rfl) (by first | (with_reducible assumption) | (exact hS) | (exact ⟨hS.1, hS.2.1, hS.2.2.1, hS.2.2.2.1, (by go_grown)⟩) | (exact ⟨(by first | (with_reducible assumption) | (simp [go_sem]; done) | ((simp only [go_sem]); (with_reducible assumption)) | ((refine keep_cell ?_ (by with_reducible assumption)); go_grown; done) | (simp [go_sem, *]; done)), (by first | (with_reducible assumption) | (simp [go_sem]; done) | ((simp only [go_sem]); (with_reducible assumption)) | ((refine keep_cell ?_ (by with_reducible assumption)); go_grown; done) | (simp [go_sem, *]; done)), (by first | (with_reducible assumption) | (simp [go_sem]; done) | ((simp only [go_sem]); (with_reducible assumption)) | ((refine keep_cell ?_ (by with_reducible assumption)); go_grown; done) | (simp [go_sem, *]; done)), (by first | (with_reducible assumption) | (simp [go_sem]; done) | ((simp only [go_sem]); (with_reducible assumption)) | ((refine keep_cell ?_ (by with_reducible assumption)); go_grown; done) | (simp [go_sem, *]; done)), (by go_grown)⟩)) ?_
        repeat (first
          | ((refine wpDet_skip (by rfl) ?_); simp only [Act.put, List.setIfInBounds_toArray, List.set_cons_zero, List.set_cons_succ])
          | ((refine wpDet_val (v := ?_) (by rfl) (fun w hS => ?_) ?_); rotate_left; (focus ((try dsimp only at hS); go_simp; (try (with_reducible rfl)); done)); simp only [Act.put, List.setIfInBounds_toArray, List.set_cons_zero, List.set_cons_succ])
          | ((refine wpDet_call (v := ?_) (f := ?_) (args := ?_) (by rfl) (fun w => ?_) (fun w hS => ?_) ?_); rotate_left; rotate_left; rotate_left; (focus (go_simp; (constructor <;> (with_reducible rfl)); done)); (focus (first | (go_at_call 21; refine (eqSite_c _ _ _ _ _).mono ?_; intro e w' h; refine ⟨h.1.trans ?_, ⟨keep_cell (h.2) hS.1, keep_cell (h.2) hS.2.1, keep_cell (h.2) hS.2.2.1, keep_cell (h.2) hS.2.2.2.1, below_via hS.2.2.2.2 (h.2)⟩⟩; with_reducible rfl))); simp only [Act.put, List.setIfInBounds_toArray, List.set_cons_zero, List.set_cons_succ]))
        refine wpDet_nil ?_
        intro w1 hS
        have hT : w1.cell? (a1.add (i * 2)) = some (.int .i64 (px l1 i)) ∧ w1.cell? ⟨(a1.add (i * 2)).block, (a1.add (i * 2)).off + 1, none⟩ = some (.int .i64 (py l1 i)) ∧ w1.cell? (a2.add (i * 2)) = some (.int .i64 (px l2 i)) ∧ w1.cell? ⟨(a2.add (i * 2)).block, (a2.add (i * 2)).off + 1, none⟩ = some (.int .i64 (py l2 i)) ∧ Below w.heap.size w w1 := hS
        clear hS
        have hS := hT
        obtain ⟨c0, c1, c2, c3, hB⟩ := hT
        have hzw : w.heap.size ≤ w1.heap.size := hB.size
        go_wp2
        go_roundw
        case rel => exact ⟨i + 1, by omega, by go_num, HS, by go_grown⟩
        case measure => simp [intOf]; omega
      have HF := hide (show decide (l1 = l2) = false from decide_eq_false (pts_ne hc))
      have hcb : peq (px l1 i, py l1 i) (px l2 i, py l2 i) = false := by simp only [peq]; exact decide_eq_false hc
      clear hc hl1 hl2
      go_wp2
      refine wp_region_det (fun w' => w'.cell? (a1.add (i * 2)) = some (.int .i64 (px l1 i)) ∧ w'.cell? ⟨(a1.add (i * 2)).block, (a1.add (i * 2)).off + 1, none⟩ = some (.int .i64 (py l1 i)) ∧ w'.cell? (a2.add (i * 2)) = some (.int .i64 (px l2 i)) ∧ w'.cell? ⟨(a2.add (i * 2)).block, (a2.add (i * 2)).off + 1, none⟩ = some (.int .i64 (py l2 i)) ∧ Below w.heap.size w w') (by kernel_rfl) (by kernel_rfl) (by first | (with_reducible assumption) | (exact hS) | (exact ⟨hS.1, hS.2.1, hS.2.2.1, hS.2.2.2.1, (by go_grown)⟩) | (exact ⟨(by first | (with_reducible assumption) | (simp [go_sem]; done) | ((simp only [go_sem]); (with_reducible assumption)) | ((refine keep_cell ?_ (by with_reducible assumption)); go_grown; done) | (simp [go_sem, *]; done)), (by first | (with_reducible assumption) | (simp [go_sem]; done) | ((simp only [go_sem]); (with_reducible assumption)) | ((refine keep_cell ?_ (by with_reducible assumption)); go_grown; done) | (simp [go_sem, *]; done)), (by first | (with_reducible assumption) | (simp [go_sem]; done) | ((simp only [go_sem]); (with_reducible assumption)) | ((refine keep_cell ?_ (by with_reducible assumption)); go_grown; done) | (simp [go_sem, *]; done)), (by first | (with_reducible assumption) | (simp [go_sem]; done) | ((simp only [go_sem]); (with_reducible assumption)) | ((refine keep_cell ?_ (by with_reducible assumption)); go_grown; done) | (simp [go_sem, *]; done)), (by go_grown)⟩)) ?_
      repeat (first
        | ((refine wpDet_skip (by rfl) ?_); simp only [Act.put, List.setIfInBounds_toArray, List.set_cons_zero, List.set_cons_succ])
        | ((refine wpDet_val (v := ?_) (by rfl) (fun w hS => ?_) ?_); rotate_left; (focus ((try dsimp only at hS); go_simp; (try (with_reducible rfl)); done)); simp only [Act.put, List.setIfInBounds_toArray, List.set_cons_zero, List.set_cons_succ])
        | ((refine wpDet_call (v := ?_) (f := ?_) (args := ?_) (by rfl) (fun w => ?_) (fun w hS => ?_) ?_); rotate_left; rotate_left; rotate_left; (focus (go_simp; (constructor <;> (with_reducible rfl)); done)); (focus (first | (go_at_call 21; refine (eqSite_c _ _ _ _ _).mono ?_; intro e w' h; refine ⟨h.1.trans ?_, ⟨keep_cell (h.2) hS.1, keep_cell (h.2) hS.2.1, keep_cell (h.2) hS.2.2.1, keep_cell (h.2) hS.2.2.2.1, below_via hS.2.2.2.2 (h.2)⟩⟩; with_reducible rfl))); simp only [Act.put, List.setIfInBounds_toArray, List.set_cons_zero, List.set_cons_succ]))
      refine wpDet_nil ?_
      intro w1 hS
      have hT : w1.cell? (a1.add (i * 2)) = some (.int .i64 (px l1 i)) ∧ w1.cell? ⟨(a1.add (i * 2)).block, (a1.add (i * 2)).off + 1, none⟩ = some (.int .i64 (py l1 i)) ∧ w1.cell? (a2.add (i * 2)) = some (.int .i64 (px l2 i)) ∧ w1.cell? ⟨(a2.add (i * 2)).block, (a2.add (i * 2)).off + 1, none⟩ = some (.int .i64 (py l2 i)) ∧ Below w.heap.size w w1 := hS
      clear hS
      have hS := hT
      obtain ⟨c0, c1, c2, c3, hB⟩ := hT
      have hzw : w.heap.size ≤ w1.heap.size := hB.size
      go_wp2
      go_returns
      exact ⟨ret_eq (by rw [HF.out]; simp), by go_grown⟩
    obtain rfl : i = n := by omega
    have HF := hide (show decide (l1 = l2) = true from decide_eq_true (pts_all (by rw [Hn.out]; exact H.out) (by rw [Hn.out, Hn2.out])))
    go_wp2
    go_returns
    exact ⟨ret_eq (by rw [HF.out]; simp), by go_grown⟩

theorem eqIntS_c (A1 A2 : Option Addr) (c1 c2 : Nat) (l1 l2 : List Int) (w : World) (h1 : Hid (Reads w w.heap.size 1 A1 l1.length (ints l1))) (h2 : Hid (Reads w w.heap.size 1 A2 l2.length (ints l2))) (b1 : l1.length ≤ 4000000) (b2 : l2.length ≤ 4000000)  : Calls Try.prog 22 #[.slice A1 l1.length c1, .slice A2 l2.length c2] w (Gives w (.bool (decide (l1 = l2)))) := by
  by_cases he : l1.length = l2.length
  rotate_left
  · have HF := hide (show decide (l1 = l2) = false from decide_eq_false (len_ne he))
    have hb : ((l1.length : Int) != (l2.length : Int)) = true := by simp; omega
    go_enter Try.func22, Try.ntmps22
    go_wp2
    go_returns
    exact ⟨ret_eq (by rw [HF.out]; simp), by go_grown⟩
  obtain ⟨n, hn⟩ : ∃ n, l1.length = n := ⟨_, rfl⟩
  have hn2 : l2.length = n := by omega
  clear he
  rw [hn] at b1 h1 ⊢
  rw [hn2] at b2 h2 ⊢
  have Hn := hide hn
  have Hn2 := hide hn2
  clear hn hn2
  go_enter Try.func22, Try.ntmps22
  go_wp2
  go_loopw [5] (fun iv wr => ∃ (i : Nat), i ≤ n ∧ iv = .int .i64 i ∧ Hid (l1.take i = l2.take i) ∧ Below w.heap.size w wr) (fun iv _ => n - (intOf iv).toNat)
  case atStart => exact ⟨0, by omega, rfl, hide rfl, Below.refl _ _⟩
  case round =>
    obtain ⟨i, hi, rfl, H, hB⟩ := hrel
    by_cases hlt : i < n
    · have hl1 : i < l1.length := by have := Hn.out; omega
      have hl2 : i < l2.length := by have := Hn2.out; omega
      obtain ⟨a1, rfl, ekb, ex⟩ := (h1.out.below hB).num (k := i) (by omega)
      obtain ⟨a2, rfl, fkb, fx⟩ := (h2.out.below hB).num (k := i) (by omega)
      by_cases hc : nth l1 i = nth l2 i
      · have HS := hide (num_step H.out hl1 hl2 hc)
        clear hl1 hl2
        have hcb : (nth l1 i != nth l2 i) = false := by simp [hc]
        clear hc
        go_wp2
        refine wp_region_det (fun w' => w'.cell? (a1.add i) = some (.int .i64 (nth l1 i)) ∧ w'.cell? (a2.add i) = some (.int .i64 (nth l2 i)) ∧ Below w.heap.size w w') (by kernel_rfl) (by kernel_rfl) (by first | (with_reducible assumption) | (exact hS) | (exact ⟨hS.1, hS.2.1, (by go_grown)⟩) | (exact ⟨(by first | (with_reducible assumption) | (simp [go_sem]; done) | ((simp only [go_sem]); (with_reducible assumption)) | ((refine keep_cell ?_ (by with_reducible assumption)); go_grown; done) | (simp [go_sem, *]; done)), (by first | (with_reducible assumption) | (simp [go_sem]; done) | ((simp only [go_sem]); (with_reducible assumption)) | ((refine keep_cell ?_ (by with_reducible assumption)); go_grown; done) | (simp [go_sem, *]; done)), (by go_grown)⟩)) ?_
        repeat (first
          | ((refine wpDet_skip (by rfl) ?_); simp only [Act.put, List.setIfInBounds_toArray, List.set_cons_zero, List.set_cons_succ])
          | ((refine wpDet_val (v := ?_) (by rfl) (fun w hS => ?_) ?_); rotate_left; (focus ((try dsimp only at hS); go_simp; (try (with_reducible rfl)); done)); simp only [Act.put, List.setIfInBounds_toArray, List.set_cons_zero, List.set_cons_succ]))
        refine wpDet_nil ?_
        intro w1 hS
        have hT : w1.cell? (a1.add i) = some (.int .i64 (nth l1 i)) ∧ w1.cell? (a2.add i) = some (.int .i64 (nth l2 i)) ∧ Below w.heap.size w w1 := hS
        clear hS
        have hS := hT
        obtain ⟨c0, c1, hB⟩ := hT
        have hzw : w.heap.size ≤ w1.heap.size := hB.size
        go_wp2
        go_roundw
        case rel => exact ⟨i + 1, by omega, by go_num, HS, by go_grown⟩
        case measure => simp [intOf]; omega
      have HF := hide (show decide (l1 = l2) = false from decide_eq_false (num_ne hc))
      have hcb : (nth l1 i != nth l2 i) = true := by simp [hc]
      clear hc hl1 hl2
      go_wp2
      refine wp_region_det (fun w' => w'.cell? (a1.add i) = some (.int .i64 (nth l1 i)) ∧ w'.cell? (a2.add i) = some (.int .i64 (nth l2 i)) ∧ Below w.heap.size w w') (by kernel_rfl) (by kernel_rfl) (by first | (with_reducible assumption) | (exact hS) | (exact ⟨hS.1, hS.2.1, (by go_grown)⟩) | (exact ⟨(by first | (with_reducible assumption) | (simp [go_sem]; done) | ((simp only [go_sem]); (with_reducible assumption)) | ((refine keep_cell ?_ (by with_reducible assumption)); go_grown; done) | (simp [go_sem, *]; done)), (by first | (with_reducible assumption) | (simp [go_sem]; done) | ((simp only [go_sem]); (with_reducible assumption)) | ((refine keep_cell ?_ (by with_reducible assumption)); go_grown; done) | (simp [go_sem, *]; done)), (by go_grown)⟩)) ?_
      repeat (first
        | ((refine wpDet_skip (by rfl) ?_); simp only [Act.put, List.setIfInBounds_toArray, List.set_cons_zero, List.set_cons_succ])
        | ((refine wpDet_val (v := ?_) (by rfl) (fun w hS => ?_) ?_); rotate_left; (focus ((try dsimp only at hS); go_simp; (try (with_reducible rfl)); done)); simp only [Act.put, List.setIfInBounds_toArray, List.set_cons_zero, List.set_cons_succ]))
      refine wpDet_nil ?_
      intro w1 hS
      have hT : w1.cell? (a1.add i) = some (.int .i64 (nth l1 i)) ∧ w1.cell? (a2.add i) = some (.int .i64 (nth l2 i)) ∧ Below w.heap.size w w1 := hS
      clear hS
      have hS := hT
      obtain ⟨c0, c1, hB⟩ := hT
      have hzw : w.heap.size ≤ w1.heap.size := hB.size
      go_wp2
      go_returns
      exact ⟨ret_eq (by rw [HF.out]; simp), by go_grown⟩
    obtain rfl : i = n := by omega
    have HF := hide (show decide (l1 = l2) = true from decide_eq_true (num_all (by rw [Hn.out]; exact H.out) (by rw [Hn.out, Hn2.out])))
    go_wp2
    go_returns
    exact ⟨ret_eq (by rw [HF.out]; simp), by go_grown⟩

theorem toIntS_c (A : Option Addr) (c : Nat) (l : List Int) (w : World) (h1 : Hid (Reads w w.heap.size 1 A l.length (ints l))) (b1 : l.length ≤ 4000000)  : Calls Try.prog 19 #[.slice A l.length c] w (GivesS w 3 1 l.length (ints l) id) := by
  obtain ⟨i0, hi0, iz0, iy0, ix0⟩ := info_parts infoInt
  go_enter Try.func19, Try.ntmps19
  go_wp2_with (first | (at_make; refine wpList_make_full _ rfl _ _ 30 rfl w.heap.size 3 i0 (.int .i64 0) 1 Try.underlying30 hi0 iz0 iy0 .i64 .i64 l.length l.length l.length rfl rfl rfl rfl (by rw [ix0]; omega) (by unfold maxLen; omega) (by simp) ?_; intro w1 hown hgrow))
  have hB1 : Below w.heap.size w w1 := (Below.refl _ _).grown hgrow (Nat.le_refl _) (by intro k hk; cases hk)
  rw [zs_made1] at hown
  have HO := hide hown
  clear hown hgrow hi0 iz0 iy0 ix0
  go_loopw [4] (fun iv wr => ∃ (i r : Nat), i + r = l.length ∧ iv = .int .i64 i ∧ Hid (wr.ownsRow w.heap.size 3 1 (.slice (some ⟨w.heap.size, 0, none⟩) l.length l.length) l.length (ints (l.take i) ++ zs (r))) ∧ Below w.heap.size w wr) (fun iv _ => l.length - (intOf iv).toNat)
  case atStart => exact ⟨0, l.length, by omega, rfl, hide HO.out, hB1⟩
  case round =>
    obtain ⟨i, r, hir, rfl, hown, hB⟩ := hrel
    have hzw : w.heap.size ≤ wr.heap.size := hB.size
    by_cases hlt : i < l.length
    · obtain ⟨a1, rfl, ekb, ex⟩ := (h1.out.below hB).num (k := i) (by omega)
      obtain ⟨r, rfl⟩ : ∃ q, r = q + 1 := ⟨r - 1, by omega⟩
      have hst := hide (hown.out.stored i (.int .i64 (nth l i))).1
      have hcell : ∃ u, wr.cell? ⟨w.heap.size, i, none⟩ = some u := ⟨_, (hown.out.cellAt i (by omega)).trans (List.getElem?_eq_getElem (by rw [List.length_append, ints_len, List.length_take, zs, List.length_replicate]; omega))⟩
      obtain ⟨u, hcell⟩ := hcell
      have hfr := hown.out.frozenAt i
      go_wp2
      go_roundw
      case rel => exact ⟨i + 1, r, by omega, by go_num, hide (by rw [← fill_num l hir]; exact hst.out), hB.setCell (p := ⟨w.heap.size, i, none⟩) (Nat.le_refl _) _⟩
      case measure => simp [intOf]; omega
    obtain rfl : i = l.length := by omega
    obtain rfl : r = 0 := by omega
    go_wp2
    go_returns
    exact ⟨_, _, rfl, by have h9 := hown.out; rw [List.take_length] at h9; simpa [zs] using h9, hB⟩

theorem toSiteS_c (A : Option Addr) (c : Nat) (l : List Pt) (w : World) (h1 : Hid (Reads w w.heap.size 2 A l.length (flat l))) (b1 : l.length ≤ 4000000)  : Calls Try.prog 15 #[.slice A l.length c] w (GivesS w 32 2 l.length (flat l) id) := by
  obtain ⟨i0, hi0, iz0, iy0, ix0⟩ := info_parts infoSite
  go_enter Try.func15, Try.ntmps15
  go_wp2_with (first | (at_make; refine wpList_make_full _ rfl _ _ 26 rfl w.heap.size 32 i0 (.agg #[.int .i64 0, .int .i64 0]) 2 Try.underlying26 hi0 iz0 iy0 .i64 .i64 l.length l.length l.length rfl rfl rfl rfl (by rw [ix0]; omega) (by unfold maxLen; omega) (by simp) ?_; intro w1 hown hgrow))
  have hB1 : Below w.heap.size w w1 := (Below.refl _ _).grown hgrow (Nat.le_refl _) (by intro k hk; cases hk)
  rw [zs_made2] at hown
  have HO := hide hown
  clear hown hgrow hi0 iz0 iy0 ix0
  go_loopw [4] (fun iv wr => ∃ (i r : Nat), i + r = l.length ∧ iv = .int .i64 i ∧ Hid (wr.ownsRow w.heap.size 32 2 (.slice (some ⟨w.heap.size, 0, none⟩) l.length l.length) l.length (flat (l.take i) ++ zs (r * 2))) ∧ Below w.heap.size w wr) (fun iv _ => l.length - (intOf iv).toNat)
  case atStart => exact ⟨0, l.length, by omega, rfl, hide HO.out, hB1⟩
  case round =>
    obtain ⟨i, r, hir, rfl, hown, hB⟩ := hrel
    have hzw : w.heap.size ≤ wr.heap.size := hB.size
    by_cases hlt : i < l.length
    · obtain ⟨a1, rfl, ekb, ex, ey⟩ := (h1.out.below hB).pt (k := i) (by omega)
      obtain ⟨r, rfl⟩ : ∃ q, r = q + 1 := ⟨r - 1, by omega⟩
      go_wp2_with fail
      refine (toSite_c _ _ _).mono ?_
      rintro e w2 ⟨rfl, hb⟩
      have hT : w2.ownsRow (w.heap.size) 32 2 (.slice (some ⟨w.heap.size, 0, none⟩) l.length l.length) (l.length) (flat (l.take i) ++ zs ((r + 1) * 2)) ∧ Below w.heap.size w w2 := (fun W h hb => ⟨own_below h.1 (hb), below_via h.2 (hb)⟩ : ∀ W : World, (W.ownsRow (w.heap.size) 32 2 (.slice (some ⟨w.heap.size, 0, none⟩) l.length l.length) (l.length) (flat (l.take i) ++ zs ((r + 1) * 2)) ∧ Below w.heap.size w W) → Below W.heap.size W w2 → (w2.ownsRow (w.heap.size) 32 2 (.slice (some ⟨w.heap.size, 0, none⟩) l.length l.length) (l.length) (flat (l.take i) ++ zs ((r + 1) * 2)) ∧ Below w.heap.size w w2)) _ ⟨own_below hown.out (by go_grown), (by go_grown)⟩ hb
      (try clear hS)
      have hS := hT
      clear hT
      have hB := hS.2
      have hzw : w.heap.size ≤ w2.heap.size := hB.size
      clear hb
      have hlen : (flat (l.take i) ++ zs ((r + 1) * 2)).length = l.length * 2 := hS.1.1
      obtain ⟨u, hcell⟩ : ∃ u, w2.cell? ⟨w.heap.size, i * 2, none⟩ = some u := ⟨_, (hS.1.cellAt (i * 2) (by omega)).trans (List.getElem?_eq_getElem (by omega))⟩
      obtain ⟨u2, hcell2⟩ : ∃ u, w2.cell? ⟨w.heap.size, i * 2 + 1, none⟩ = some u := ⟨_, (hS.1.cellAt (i * 2 + 1) (by omega)).trans (List.getElem?_eq_getElem (by omega))⟩
      have hfr := hS.1.frozenAt (i * 2)
      have hfr2 := hS.1.frozenAt (i * 2 + 1)
      have hst := hide (((hS.1.stored (i * 2) (.int .i64 (px l i))).1.stored (i * 2 + 1) (.int .i64 (py l i))).1)
      clear hlen
      go_wp2
      go_roundw
      case rel => exact ⟨i + 1, r, by omega, by go_num, hide (by rw [← fill_pt l hir]; exact hst.out), (hB.setCell (p := ⟨w.heap.size, i * 2, none⟩) (Nat.le_refl _) _).setCell (p := ⟨w.heap.size, i * 2 + 1, none⟩) (Nat.le_refl _) _⟩
      case measure => simp [intOf]; omega
    obtain rfl : i = l.length := by omega
    obtain rfl : r = 0 := by omega
    go_wp2
    go_returns
    exact ⟨_, _, rfl, by have h9 := hown.out; rw [List.take_length] at h9; simpa [zs] using h9, hB⟩
end Go.Proofs.Ytnocgcfepkdjeaa
