/- What is proved here is used by the law below: contracts of functions and plain lemmas (part 10 of 17). Their conditions stand in each. -/
import Derived.Deep.DeepCutAuto
import Derived.Deep.CutBlock
import Derived.Test.YtbeojfhakmbacaaFinRjaa
import Derived.Test.YtbeojfhakmbacaaFinRjac
import Derived.Test.YtbeojfhakmbacaaFinRjah
import Derived.Test.YtbeojfhakmbacaaFinRjai
namespace Go.Proofs.Ytbeojfhakmbacaa
open Go.RowKit
set_option maxRecDepth 100000 in
set_option maxHeartbeats 8000000 in
theorem l9Receive_c (m : Int) (A : Option Addr) (c : Nat) (l : List Hd) (K Ad Dt t : Int) (w : World) (h1 : Hid (Reads w w.heap.size 10 A l.length (hds l))) (b1 : l.length ≤ 4000000) (ho : okR m l = true)  : Calls Try.prog 60 #[.agg #[.int .i64 m, .slice A l.length c], .agg #[.int .i64 K, .int .i64 Ad, .int .i64 Dt], .int .i64 t] w (GivesS w 42 10 (rsV t Ad K Dt l).length (hds (rsV t Ad K Dt l)) (fun v => .tuple #[.agg #[.int .i64 (rsM t Ad K Dt l), v], .bool (rsK t Ad K Dt l)])) := by
  obtain ⟨hm0, h6, _⟩ := okR_iff ho
  clear hm0
  have HOK := hide ho
  clear ho
  obtain ⟨i0, hi0, iz0, iy0, ix0⟩ := info_parts infoHd
  go_enter Try.func60, Try.ntmps60
  go_upto_block 0 with (first | (go_at_call 87; refine (l9Own_c m A c l t _ (hide (by refine reads_below h1.out ?_; go_grown)) b1).mono ?_; rintro e w1 ⟨A3, c3, rfl, hown, hb⟩; have hT : w1.cell? ⟨w.heap.size, 0, none⟩ = some (.int .i64 m) ∧ w1.cell? ⟨w.heap.size, 1, none⟩ = some (.slice A l.length c) ∧ w1.cell? ⟨w.heap.size + 1, 0, none⟩ = some (.int .i64 K) ∧ w1.cell? ⟨w.heap.size + 1, 1, none⟩ = some (.int .i64 Ad) ∧ w1.cell? ⟨w.heap.size + 1, 2, none⟩ = some (.int .i64 Dt) ∧ w1.cell? ⟨w.heap.size + 2, 0, none⟩ = some (.int .i64 0) ∧ w1.cell? ⟨w.heap.size + 2, 1, none⟩ = some (.slice none 0 0) ∧ (w.heap.size + 2 < w1.heap.size ∧ ∀ i, w1.frozen? ⟨w.heap.size + 2, i, none⟩ = false) ∧ Below w.heap.size w w1 := (fun W h hb => ⟨keep_cell (hb) h.1, keep_cell (hb) h.2.1, keep_cell (hb) h.2.2.1, keep_cell (hb) h.2.2.2.1, keep_cell (hb) h.2.2.2.2.1, keep_cell (hb) h.2.2.2.2.2.1, keep_cell (hb) h.2.2.2.2.2.2.1, keep_fre (hb) h.2.2.2.2.2.2.2.1, below_via h.2.2.2.2.2.2.2.2 (hb)⟩ : ∀ W : World, (W.cell? ⟨w.heap.size, 0, none⟩ = some (.int .i64 m) ∧ W.cell? ⟨w.heap.size, 1, none⟩ = some (.slice A l.length c) ∧ W.cell? ⟨w.heap.size + 1, 0, none⟩ = some (.int .i64 K) ∧ W.cell? ⟨w.heap.size + 1, 1, none⟩ = some (.int .i64 Ad) ∧ W.cell? ⟨w.heap.size + 1, 2, none⟩ = some (.int .i64 Dt) ∧ W.cell? ⟨w.heap.size + 2, 0, none⟩ = some (.int .i64 0) ∧ W.cell? ⟨w.heap.size + 2, 1, none⟩ = some (.slice none 0 0) ∧ (w.heap.size + 2 < W.heap.size ∧ ∀ i, W.frozen? ⟨w.heap.size + 2, i, none⟩ = false) ∧ Below w.heap.size w W) → Below W.heap.size W w1 → (w1.cell? ⟨w.heap.size, 0, none⟩ = some (.int .i64 m) ∧ w1.cell? ⟨w.heap.size, 1, none⟩ = some (.slice A l.length c) ∧ w1.cell? ⟨w.heap.size + 1, 0, none⟩ = some (.int .i64 K) ∧ w1.cell? ⟨w.heap.size + 1, 1, none⟩ = some (.int .i64 Ad) ∧ w1.cell? ⟨w.heap.size + 1, 2, none⟩ = some (.int .i64 Dt) ∧ w1.cell? ⟨w.heap.size + 2, 0, none⟩ = some (.int .i64 0) ∧ w1.cell? ⟨w.heap.size + 2, 1, none⟩ = some (.slice none 0 0) ∧ (w.heap.size + 2 < w1.heap.size ∧ ∀ i, w1.frozen? ⟨w.heap.size + 2, i, none⟩ = false) ∧ Below w.heap.size w w1)) _ (by first | (with_reducible assumption) | (exact hS) | (exact ⟨hS.1, hS.2.1, hS.2.2.1, hS.2.2.2.1, hS.2.2.2.2.1, hS.2.2.2.2.2.1, hS.2.2.2.2.2.2.1, hS.2.2.2.2.2.2.2.1, (by go_grown)⟩) | (exact ⟨(by first | (with_reducible assumption) | (simp [go_sem]; done) | ((simp only [go_sem]); (with_reducible assumption)) | ((refine keep_cell ?_ (by with_reducible assumption)); go_grown; done) | (simp [go_sem, *]; done)), (by first | (with_reducible assumption) | (simp [go_sem]; done) | ((simp only [go_sem]); (with_reducible assumption)) | ((refine keep_cell ?_ (by with_reducible assumption)); go_grown; done) | (simp [go_sem, *]; done)), (by first | (with_reducible assumption) | (simp [go_sem]; done) | ((simp only [go_sem]); (with_reducible assumption)) | ((refine keep_cell ?_ (by with_reducible assumption)); go_grown; done) | (simp [go_sem, *]; done)), (by first | (with_reducible assumption) | (simp [go_sem]; done) | ((simp only [go_sem]); (with_reducible assumption)) | ((refine keep_cell ?_ (by with_reducible assumption)); go_grown; done) | (simp [go_sem, *]; done)), (by first | (with_reducible assumption) | (simp [go_sem]; done) | ((simp only [go_sem]); (with_reducible assumption)) | ((refine keep_cell ?_ (by with_reducible assumption)); go_grown; done) | (simp [go_sem, *]; done)), (by first | (with_reducible assumption) | (simp [go_sem]; done) | ((simp only [go_sem]); (with_reducible assumption)) | ((refine keep_cell ?_ (by with_reducible assumption)); go_grown; done) | (simp [go_sem, *]; done)), (by first | (with_reducible assumption) | (simp [go_sem]; done) | ((simp only [go_sem]); (with_reducible assumption)) | ((refine keep_cell ?_ (by with_reducible assumption)); go_grown; done) | (simp [go_sem, *]; done)), (by first | (with_reducible assumption) | (simp [go_sem]; done) | (refine keep_fre ?_ ⟨by with_reducible assumption, by with_reducible assumption⟩; go_grown; done) | (simp [go_sem, *]; done)), (by go_grown)⟩)) hb; (try clear hS); have hS := hT; clear hT; have hB := hS.2.2.2.2.2.2.2.2; have hzw : w.heap.size ≤ w1.heap.size := hB.size; have hz1 : w.heap.size < w1.heap.size := World.block_lt_of_cell? w1 _ (hS.1); have hz2 : w.heap.size + 1 < w1.heap.size := World.block_lt_of_cell? w1 _ (hS.2.2.1); have hz3 : w.heap.size + 2 < w1.heap.size := World.block_lt_of_cell? w1 _ (hS.2.2.2.2.2.1); clear hb))
  have hTn : (Value.slice A3 l.length c3).ownBlock ≠ some w1.heap.size := fun e => by have := (hown.lt _ e).2; omega
  have HROW := hide (show w1.ownsRow (w.heap.size + 3) 42 10 (.slice A3 l.length c3) l.length (hds l) from own_mono hown (by simp))
  clear hown
  have hTw : w.heap.size + 2 < w1.heap.size := hz3
  have hT9 := hS
  have HS1 := hide hS
  clear hS hB hzw hz1 hz2 hz3 hT9
  obtain ⟨T, hTe⟩ : ∃ q, w1.heap.size = q := ⟨_, rfl⟩
  rw [hTe] at hTn hTw ⊢
  go_cut [9] (fun iv wx => iv = .int .i64 (rcI Ad l : Int) ∧ Hid (wx.ownsRow (w.heap.size + 3) 42 10 (.slice A3 l.length c3) l.length (hds l)) ∧ (wx.cell? ⟨w.heap.size + 1, 0, none⟩ = some (.int .i64 K) ∧ wx.cell? ⟨w.heap.size + 1, 1, none⟩ = some (.int .i64 Ad) ∧ wx.cell? ⟨w.heap.size + 1, 2, none⟩ = some (.int .i64 Dt) ∧ wx.cell? ⟨w.heap.size + 2, 0, none⟩ = some (.int .i64 0) ∧ wx.cell? ⟨w.heap.size + 2, 1, none⟩ = some (.slice none 0 0) ∧ (w.heap.size + 2 < wx.heap.size ∧ ∀ i, wx.frozen? ⟨w.heap.size + 2, i, none⟩ = false) ∧ wx.cell? ⟨T, 0, none⟩ = some (.int .i64 t) ∧ wx.cell? ⟨T, 1, none⟩ = some (.slice A3 l.length c3) ∧ (T < wx.heap.size ∧ ∀ i, wx.frozen? ⟨T, i, none⟩ = false) ∧ Below w.heap.size w wx))
  case first =>
    go_wp2_with fail
    go_loopw [9] (fun iv wr => ∃ i : Nat, i ≤ rcI Ad l ∧ iv = .int .i64 i ∧ Hid (wr.ownsRow (w.heap.size + 3) 42 10 (.slice A3 l.length c3) l.length (hds l)) ∧ (wr.cell? ⟨w.heap.size + 1, 0, none⟩ = some (.int .i64 K) ∧ wr.cell? ⟨w.heap.size + 1, 1, none⟩ = some (.int .i64 Ad) ∧ wr.cell? ⟨w.heap.size + 1, 2, none⟩ = some (.int .i64 Dt) ∧ wr.cell? ⟨w.heap.size + 2, 0, none⟩ = some (.int .i64 0) ∧ wr.cell? ⟨w.heap.size + 2, 1, none⟩ = some (.slice none 0 0) ∧ (w.heap.size + 2 < wr.heap.size ∧ ∀ i, wr.frozen? ⟨w.heap.size + 2, i, none⟩ = false) ∧ wr.cell? ⟨T, 0, none⟩ = some (.int .i64 t) ∧ wr.cell? ⟨T, 1, none⟩ = some (.slice A3 l.length c3) ∧ (T < wr.heap.size ∧ ∀ i, wr.frozen? ⟨T, i, none⟩ = false) ∧ Below w.heap.size w wr)) (fun iv _ => l.length - (intOf iv).toNat)
    case atStart => subst hTe; exact ⟨0, Nat.zero_le _, rfl, hide (World.ownsRow.alloc HROW.out _), (keep_cell (by go_grown) (HS1.out.2.2.1)), (keep_cell (by go_grown) (HS1.out.2.2.2.1)), (keep_cell (by go_grown) (HS1.out.2.2.2.2.1)), (keep_cell (by go_grown) (HS1.out.2.2.2.2.2.1)), (keep_cell (by go_grown) (HS1.out.2.2.2.2.2.2.1)), (keep_fre (by go_grown) (HS1.out.2.2.2.2.2.2.2.1)), (by simp [go_sem]), (by simp [go_sem]), ⟨(by simp [go_sem]), (by simp [go_sem])⟩, below_via (HS1.out.2.2.2.2.2.2.2.2) (by go_grown)⟩
    case round =>
      clear hTe HS1 HROW
      obtain ⟨i, hi, rfl, HROW, hS⟩ := hrel
      have hzw : w.heap.size ≤ wr.heap.size := (hS.2.2.2.2.2.2.2.2.2).size
      have hkl := rcI_le Ad l
      by_cases hir : i < rcI Ad l
      · have hlt : i < l.length := by omega
        have hq : (hx l i).1 < Ad := rcI_lt Ad l i hir
        obtain ⟨g, hA3, hg0, hg1⟩ := own_at HROW.out (by omega)
        subst hA3
        obtain ⟨a, ha⟩ : ∃ q, (hx l i).1 = q := ⟨_, rfl⟩
        rw [ha] at hq
        have c0 : wr.cell? ⟨g, i * 10, none⟩ = some (.int .i64 a) := row_cell2 (j := 0) HROW.out rfl hlt (by omega) (by rw [← ha]; rfl)
        clear ha
        go_wp2_with fail
        refine wp_region_det (fun w' => w'.cell? ⟨w.heap.size + 1, 0, none⟩ = some (.int .i64 K) ∧ w'.cell? ⟨w.heap.size + 1, 1, none⟩ = some (.int .i64 Ad) ∧ w'.cell? ⟨w.heap.size + 1, 2, none⟩ = some (.int .i64 Dt) ∧ w'.cell? ⟨w.heap.size + 2, 0, none⟩ = some (.int .i64 0) ∧ w'.cell? ⟨w.heap.size + 2, 1, none⟩ = some (.slice none 0 0) ∧ (w.heap.size + 2 < w'.heap.size ∧ ∀ i, w'.frozen? ⟨w.heap.size + 2, i, none⟩ = false) ∧ w'.cell? ⟨T, 0, none⟩ = some (.int .i64 t) ∧ w'.cell? ⟨T, 1, none⟩ = some (.slice (some ⟨g, 0, none⟩) l.length c3) ∧ (T < w'.heap.size ∧ ∀ i, w'.frozen? ⟨T, i, none⟩ = false) ∧ w'.ownsRow (w.heap.size + 3) 42 10 (.slice (some ⟨g, 0, none⟩) l.length c3) (l.length) (hds l) ∧ w'.cell? ⟨g, i * 10, none⟩ = some (.int .i64 a) ∧ Below w.heap.size w w') (by kernel_rfl) (by kernel_rfl) ⟨hS.1, hS.2.1, hS.2.2.1, hS.2.2.2.1, hS.2.2.2.2.1, hS.2.2.2.2.2.1, hS.2.2.2.2.2.2.1, hS.2.2.2.2.2.2.2.1, hS.2.2.2.2.2.2.2.2.1, HROW.out, c0, Below.drew (hS.2.2.2.2.2.2.2.2.2)⟩ ?_
        repeat (first
          | ((refine wpDet_skip (by rfl) ?_); simp only [Act.put, zp1, zp2, zp3])
          | ((refine wpDet_val (v := ?_) (by rfl) (fun w hS => ?_) ?_); rotate_left; (focus ((try dsimp only at hS); go_simp; (try (with_reducible rfl)); done)); simp only [Act.put, zp1, zp2, zp3]))
        refine wpDet_nil ?_
        intro w1 hS
        have hT : w1.cell? ⟨w.heap.size + 1, 0, none⟩ = some (.int .i64 K) ∧ w1.cell? ⟨w.heap.size + 1, 1, none⟩ = some (.int .i64 Ad) ∧ w1.cell? ⟨w.heap.size + 1, 2, none⟩ = some (.int .i64 Dt) ∧ w1.cell? ⟨w.heap.size + 2, 0, none⟩ = some (.int .i64 0) ∧ w1.cell? ⟨w.heap.size + 2, 1, none⟩ = some (.slice none 0 0) ∧ (w.heap.size + 2 < w1.heap.size ∧ ∀ i, w1.frozen? ⟨w.heap.size + 2, i, none⟩ = false) ∧ w1.cell? ⟨T, 0, none⟩ = some (.int .i64 t) ∧ w1.cell? ⟨T, 1, none⟩ = some (.slice (some ⟨g, 0, none⟩) l.length c3) ∧ (T < w1.heap.size ∧ ∀ i, w1.frozen? ⟨T, i, none⟩ = false) ∧ w1.ownsRow (w.heap.size + 3) 42 10 (.slice (some ⟨g, 0, none⟩) l.length c3) (l.length) (hds l) ∧ w1.cell? ⟨g, i * 10, none⟩ = some (.int .i64 a) ∧ Below w.heap.size w w1 := hS
        clear hS
        have hS := hT
        obtain ⟨c0, c1, c2, c3, c4, c5, c6, c7, c8, c9, c10, hB⟩ := hT
        have hzw : w.heap.size ≤ w1.heap.size := hB.size
        have hz1 : w.heap.size + 1 < w1.heap.size := World.block_lt_of_cell? w1 _ (hS.1)
        have hz2 : w.heap.size + 2 < w1.heap.size := World.block_lt_of_cell? w1 _ (hS.2.2.2.1)
        have hz3 : T < w1.heap.size := World.block_lt_of_cell? w1 _ (hS.2.2.2.2.2.2.1)
        have hz4 : g < w1.heap.size := World.block_lt_of_cell? w1 _ (hS.2.2.2.2.2.2.2.2.2.2.1)
        go_wp2_with fail
        go_roundw
        case rel => exact ⟨i + 1, by omega, by go_num, hide (hS.2.2.2.2.2.2.2.2.2.1), hS.1, hS.2.1, hS.2.2.1, hS.2.2.2.1, hS.2.2.2.2.1, hS.2.2.2.2.2.1, hS.2.2.2.2.2.2.1, hS.2.2.2.2.2.2.2.1, hS.2.2.2.2.2.2.2.2.1, hS.2.2.2.2.2.2.2.2.2.2.2⟩
        case measure => simp [intOf]; omega
      obtain rfl : i = rcI Ad l := by omega
      clear hir
      by_cases hlt : rcI Ad l < l.length
      rotate_left
      · have hge : l.length ≤ rcI Ad l := by omega
        go_wp2_with fail
        refine wp_region_det (fun w' => w'.cell? ⟨w.heap.size + 1, 0, none⟩ = some (.int .i64 K) ∧ w'.cell? ⟨w.heap.size + 1, 1, none⟩ = some (.int .i64 Ad) ∧ w'.cell? ⟨w.heap.size + 1, 2, none⟩ = some (.int .i64 Dt) ∧ w'.cell? ⟨w.heap.size + 2, 0, none⟩ = some (.int .i64 0) ∧ w'.cell? ⟨w.heap.size + 2, 1, none⟩ = some (.slice none 0 0) ∧ (w.heap.size + 2 < w'.heap.size ∧ ∀ i, w'.frozen? ⟨w.heap.size + 2, i, none⟩ = false) ∧ w'.cell? ⟨T, 0, none⟩ = some (.int .i64 t) ∧ w'.cell? ⟨T, 1, none⟩ = some (.slice A3 l.length c3) ∧ (T < w'.heap.size ∧ ∀ i, w'.frozen? ⟨T, i, none⟩ = false) ∧ w'.ownsRow (w.heap.size + 3) 42 10 (.slice A3 l.length c3) (l.length) (hds l) ∧ Below w.heap.size w w') (by kernel_rfl) (by kernel_rfl) ⟨hS.1, hS.2.1, hS.2.2.1, hS.2.2.2.1, hS.2.2.2.2.1, hS.2.2.2.2.2.1, hS.2.2.2.2.2.2.1, hS.2.2.2.2.2.2.2.1, hS.2.2.2.2.2.2.2.2.1, HROW.out, Below.drew (hS.2.2.2.2.2.2.2.2.2)⟩ ?_
        repeat (first
          | ((refine wpDet_skip (by rfl) ?_); simp only [Act.put, zp1, zp2, zp3])
          | ((refine wpDet_val (v := ?_) (by rfl) (fun w hS => ?_) ?_); rotate_left; (focus ((try dsimp only at hS); go_simp; (try (with_reducible rfl)); done)); simp only [Act.put, zp1, zp2, zp3]))
        refine wpDet_nil ?_
        intro w1 hS
        have hT : w1.cell? ⟨w.heap.size + 1, 0, none⟩ = some (.int .i64 K) ∧ w1.cell? ⟨w.heap.size + 1, 1, none⟩ = some (.int .i64 Ad) ∧ w1.cell? ⟨w.heap.size + 1, 2, none⟩ = some (.int .i64 Dt) ∧ w1.cell? ⟨w.heap.size + 2, 0, none⟩ = some (.int .i64 0) ∧ w1.cell? ⟨w.heap.size + 2, 1, none⟩ = some (.slice none 0 0) ∧ (w.heap.size + 2 < w1.heap.size ∧ ∀ i, w1.frozen? ⟨w.heap.size + 2, i, none⟩ = false) ∧ w1.cell? ⟨T, 0, none⟩ = some (.int .i64 t) ∧ w1.cell? ⟨T, 1, none⟩ = some (.slice A3 l.length c3) ∧ (T < w1.heap.size ∧ ∀ i, w1.frozen? ⟨T, i, none⟩ = false) ∧ w1.ownsRow (w.heap.size + 3) 42 10 (.slice A3 l.length c3) (l.length) (hds l) ∧ Below w.heap.size w w1 := hS
        clear hS
        have hS := hT
        obtain ⟨c0, c1, c2, c3, c4, c5, c6, c7, c8, c9, hB⟩ := hT
        have hzw : w.heap.size ≤ w1.heap.size := hB.size
        have hz1 : w.heap.size + 1 < w1.heap.size := World.block_lt_of_cell? w1 _ (hS.1)
        have hz2 : w.heap.size + 2 < w1.heap.size := World.block_lt_of_cell? w1 _ (hS.2.2.2.1)
        have hz3 : T < w1.heap.size := World.block_lt_of_cell? w1 _ (hS.2.2.2.2.2.2.1)
        go_wp2_with fail
        go_meet
        case rel => exact ⟨rfl, hide (hS.2.2.2.2.2.2.2.2.2.1), hS.1, hS.2.1, hS.2.2.1, hS.2.2.2.1, hS.2.2.2.2.1, hS.2.2.2.2.2.1, hS.2.2.2.2.2.2.1, hS.2.2.2.2.2.2.2.1, hS.2.2.2.2.2.2.2.2.1, hS.2.2.2.2.2.2.2.2.2.2⟩
      obtain ⟨g, hA3, hg0, hg1⟩ := own_at HROW.out (by omega)
      subst hA3
      have hq := rcI_at Ad l hlt
      obtain ⟨i, hi9⟩ : ∃ q, rcI Ad l = q := ⟨_, rfl⟩
      rw [hi9] at hlt hq ⊢
      have HI9 := hide hi9
      clear hi9 hi hkl
      obtain ⟨a, ha⟩ : ∃ q, (hx l i).1 = q := ⟨_, rfl⟩
      rw [ha] at hq
      have c0 : wr.cell? ⟨g, i * 10, none⟩ = some (.int .i64 a) := row_cell2 (j := 0) HROW.out rfl hlt (by omega) (by rw [← ha]; rfl)
      clear ha
      have hq3 : (a < Ad) = False := eq_false hq
      go_wp2_with fail
      refine wp_region_det (fun w' => w'.cell? ⟨w.heap.size + 1, 0, none⟩ = some (.int .i64 K) ∧ w'.cell? ⟨w.heap.size + 1, 1, none⟩ = some (.int .i64 Ad) ∧ w'.cell? ⟨w.heap.size + 1, 2, none⟩ = some (.int .i64 Dt) ∧ w'.cell? ⟨w.heap.size + 2, 0, none⟩ = some (.int .i64 0) ∧ w'.cell? ⟨w.heap.size + 2, 1, none⟩ = some (.slice none 0 0) ∧ (w.heap.size + 2 < w'.heap.size ∧ ∀ i, w'.frozen? ⟨w.heap.size + 2, i, none⟩ = false) ∧ w'.cell? ⟨T, 0, none⟩ = some (.int .i64 t) ∧ w'.cell? ⟨T, 1, none⟩ = some (.slice (some ⟨g, 0, none⟩) l.length c3) ∧ (T < w'.heap.size ∧ ∀ i, w'.frozen? ⟨T, i, none⟩ = false) ∧ w'.ownsRow (w.heap.size + 3) 42 10 (.slice (some ⟨g, 0, none⟩) l.length c3) (l.length) (hds l) ∧ w'.cell? ⟨g, i * 10, none⟩ = some (.int .i64 a) ∧ Below w.heap.size w w') (by kernel_rfl) (by kernel_rfl) ⟨hS.1, hS.2.1, hS.2.2.1, hS.2.2.2.1, hS.2.2.2.2.1, hS.2.2.2.2.2.1, hS.2.2.2.2.2.2.1, hS.2.2.2.2.2.2.2.1, hS.2.2.2.2.2.2.2.2.1, HROW.out, c0, Below.drew (hS.2.2.2.2.2.2.2.2.2)⟩ ?_
      repeat (first
        | ((refine wpDet_skip (by rfl) ?_); simp only [Act.put, zp1, zp2, zp3])
        | ((refine wpDet_val (v := ?_) (by rfl) (fun w hS => ?_) ?_); rotate_left; (focus ((try dsimp only at hS); go_simp; (try (with_reducible rfl)); done)); simp only [Act.put, zp1, zp2, zp3]))
      refine wpDet_nil ?_
      intro w1 hS
      have hT : w1.cell? ⟨w.heap.size + 1, 0, none⟩ = some (.int .i64 K) ∧ w1.cell? ⟨w.heap.size + 1, 1, none⟩ = some (.int .i64 Ad) ∧ w1.cell? ⟨w.heap.size + 1, 2, none⟩ = some (.int .i64 Dt) ∧ w1.cell? ⟨w.heap.size + 2, 0, none⟩ = some (.int .i64 0) ∧ w1.cell? ⟨w.heap.size + 2, 1, none⟩ = some (.slice none 0 0) ∧ (w.heap.size + 2 < w1.heap.size ∧ ∀ i, w1.frozen? ⟨w.heap.size + 2, i, none⟩ = false) ∧ w1.cell? ⟨T, 0, none⟩ = some (.int .i64 t) ∧ w1.cell? ⟨T, 1, none⟩ = some (.slice (some ⟨g, 0, none⟩) l.length c3) ∧ (T < w1.heap.size ∧ ∀ i, w1.frozen? ⟨T, i, none⟩ = false) ∧ w1.ownsRow (w.heap.size + 3) 42 10 (.slice (some ⟨g, 0, none⟩) l.length c3) (l.length) (hds l) ∧ w1.cell? ⟨g, i * 10, none⟩ = some (.int .i64 a) ∧ Below w.heap.size w w1 := hS
      clear hS
      have hS := hT
      obtain ⟨c0, c1, c2, c3, c4, c5, c6, c7, c8, c9, c10, hB⟩ := hT
      have hzw : w.heap.size ≤ w1.heap.size := hB.size
      have hz1 : w.heap.size + 1 < w1.heap.size := World.block_lt_of_cell? w1 _ (hS.1)
      have hz2 : w.heap.size + 2 < w1.heap.size := World.block_lt_of_cell? w1 _ (hS.2.2.2.1)
      have hz3 : T < w1.heap.size := World.block_lt_of_cell? w1 _ (hS.2.2.2.2.2.2.1)
      have hz4 : g < w1.heap.size := World.block_lt_of_cell? w1 _ (hS.2.2.2.2.2.2.2.2.2.2.1)
      go_wp2_with fail
      go_meet
      case rel => rw [HI9.out]; exact ⟨rfl, hide (hS.2.2.2.2.2.2.2.2.2.1), hS.1, hS.2.1, hS.2.2.1, hS.2.2.2.1, hS.2.2.2.2.1, hS.2.2.2.2.2.1, hS.2.2.2.2.2.2.1, hS.2.2.2.2.2.2.2.1, hS.2.2.2.2.2.2.2.2.1, hS.2.2.2.2.2.2.2.2.2.2.2⟩
  
  (try clear hS)
  (try clear HROW)
  (try clear hzw)
  (try clear hB)
  (try clear hT9)
  obtain ⟨rfl, HROW, hS⟩ := hcut
  clear hTe HS1
  obtain ⟨i, hi9⟩ : ∃ q, rcI Ad l = q := ⟨_, rfl⟩
  have hil : i ≤ l.length := by rw [← hi9]; exact rcI_le Ad l
  rw [hi9]
  have HI9 := hide hi9
  clear hi9
  go_upto_region 5 with fail
  go_cut [50] (fun sv wx => sv = .bool (decide (¬ rcH Ad l)) ∧ Hid (wx.ownsRow (w.heap.size + 3) 42 10 (.slice A3 l.length c3) l.length (hds l)) ∧ (wx.cell? ⟨w.heap.size + 1, 0, none⟩ = some (.int .i64 K) ∧ wx.cell? ⟨w.heap.size + 1, 1, none⟩ = some (.int .i64 Ad) ∧ wx.cell? ⟨w.heap.size + 1, 2, none⟩ = some (.int .i64 Dt) ∧ wx.cell? ⟨w.heap.size + 2, 0, none⟩ = some (.int .i64 0) ∧ wx.cell? ⟨w.heap.size + 2, 1, none⟩ = some (.slice none 0 0) ∧ (w.heap.size + 2 < wx.heap.size ∧ ∀ i, wx.frozen? ⟨w.heap.size + 2, i, none⟩ = false) ∧ wx.cell? ⟨T, 0, none⟩ = some (.int .i64 t) ∧ wx.cell? ⟨T, 1, none⟩ = some (.slice A3 l.length c3) ∧ (T < wx.heap.size ∧ ∀ i, wx.frozen? ⟨T, i, none⟩ = false) ∧ Below w.heap.size w wx))
  case first =>
    have hzw : w.heap.size ≤ wc.heap.size := (hS.2.2.2.2.2.2.2.2.2).size
    by_cases hlt : i < l.length
    rotate_left
    · obtain rfl : i = l.length := by omega
      have hn : decide (¬ rcH Ad l) = true := decide_eq_true (fun h => by have h9 := h.1; rw [HI9.out] at h9; omega)
      go_wp2_with fail
      refine wp_region_det (fun w' => w'.cell? ⟨w.heap.size + 1, 0, none⟩ = some (.int .i64 K) ∧ w'.cell? ⟨w.heap.size + 1, 1, none⟩ = some (.int .i64 Ad) ∧ w'.cell? ⟨w.heap.size + 1, 2, none⟩ = some (.int .i64 Dt) ∧ w'.cell? ⟨w.heap.size + 2, 0, none⟩ = some (.int .i64 0) ∧ w'.cell? ⟨w.heap.size + 2, 1, none⟩ = some (.slice none 0 0) ∧ (w.heap.size + 2 < w'.heap.size ∧ ∀ i, w'.frozen? ⟨w.heap.size + 2, i, none⟩ = false) ∧ w'.cell? ⟨T, 0, none⟩ = some (.int .i64 t) ∧ w'.cell? ⟨T, 1, none⟩ = some (.slice A3 l.length c3) ∧ (T < w'.heap.size ∧ ∀ i, w'.frozen? ⟨T, i, none⟩ = false) ∧ w'.ownsRow (w.heap.size + 3) 42 10 (.slice A3 l.length c3) (l.length) (hds l) ∧ Below w.heap.size w w') (by kernel_rfl) (by kernel_rfl) ⟨hS.1, hS.2.1, hS.2.2.1, hS.2.2.2.1, hS.2.2.2.2.1, hS.2.2.2.2.2.1, hS.2.2.2.2.2.2.1, hS.2.2.2.2.2.2.2.1, hS.2.2.2.2.2.2.2.2.1, HROW.out, Below.drew (hS.2.2.2.2.2.2.2.2.2)⟩ ?_
      repeat (first
        | ((refine wpDet_skip (by rfl) ?_); simp only [Act.put, zp1, zp2, zp3])
        | ((refine wpDet_val (v := ?_) (by rfl) (fun w hS => ?_) ?_); rotate_left; (focus ((try dsimp only at hS); go_simp; (try (with_reducible rfl)); done)); simp only [Act.put, zp1, zp2, zp3]))
      refine wpDet_nil ?_
      intro w1 hS
      have hT : w1.cell? ⟨w.heap.size + 1, 0, none⟩ = some (.int .i64 K) ∧ w1.cell? ⟨w.heap.size + 1, 1, none⟩ = some (.int .i64 Ad) ∧ w1.cell? ⟨w.heap.size + 1, 2, none⟩ = some (.int .i64 Dt) ∧ w1.cell? ⟨w.heap.size + 2, 0, none⟩ = some (.int .i64 0) ∧ w1.cell? ⟨w.heap.size + 2, 1, none⟩ = some (.slice none 0 0) ∧ (w.heap.size + 2 < w1.heap.size ∧ ∀ i, w1.frozen? ⟨w.heap.size + 2, i, none⟩ = false) ∧ w1.cell? ⟨T, 0, none⟩ = some (.int .i64 t) ∧ w1.cell? ⟨T, 1, none⟩ = some (.slice A3 l.length c3) ∧ (T < w1.heap.size ∧ ∀ i, w1.frozen? ⟨T, i, none⟩ = false) ∧ w1.ownsRow (w.heap.size + 3) 42 10 (.slice A3 l.length c3) (l.length) (hds l) ∧ Below w.heap.size w w1 := hS
      clear hS
      have hS := hT
      obtain ⟨c0, c1, c2, c3, c4, c5, c6, c7, c8, c9, hB⟩ := hT
      have hzw : w.heap.size ≤ w1.heap.size := hB.size
      have hz1 : w.heap.size + 1 < w1.heap.size := World.block_lt_of_cell? w1 _ (hS.1)
      have hz2 : w.heap.size + 2 < w1.heap.size := World.block_lt_of_cell? w1 _ (hS.2.2.2.1)
      have hz3 : T < w1.heap.size := World.block_lt_of_cell? w1 _ (hS.2.2.2.2.2.2.1)
      go_wp2_with fail
      go_meet
      case rel => rw [hn]; exact ⟨rfl, hide (hS.2.2.2.2.2.2.2.2.2.1), hS.1, hS.2.1, hS.2.2.1, hS.2.2.2.1, hS.2.2.2.2.1, hS.2.2.2.2.2.1, hS.2.2.2.2.2.2.1, hS.2.2.2.2.2.2.2.1, hS.2.2.2.2.2.2.2.2.1, hS.2.2.2.2.2.2.2.2.2.2⟩
    obtain ⟨g, hA3, hg0, hg1⟩ := own_at HROW.out (by omega)
    subst hA3
    obtain ⟨a, ha⟩ : ∃ q, (hx l i).1 = q := ⟨_, rfl⟩
    have c0 : wc.cell? ⟨g, i * 10, none⟩ = some (.int .i64 a) := row_cell2 (j := 0) HROW.out rfl hlt (by omega) (by rw [← ha]; rfl)
    have hq4 : ((i : Int) == (l.length : Int)) = false := beq_false_of_ne (by omega)
    by_cases hA : a = Ad
    · have hn : decide (¬ rcH Ad l) = false := decide_eq_false (fun h => h ⟨by rw [HI9.out]; exact hlt, by rw [HI9.out, ha]; exact hA⟩)
      have hq3 : (a == Ad) = true := by rw [hA]; exact beq_self_eq_true _
      have hq5 : (a != Ad) = false := by rw [bne, hq3]; rfl
      clear hA ha
      go_wp2_with fail
      refine wp_region_det (fun w' => w'.cell? ⟨w.heap.size + 1, 0, none⟩ = some (.int .i64 K) ∧ w'.cell? ⟨w.heap.size + 1, 1, none⟩ = some (.int .i64 Ad) ∧ w'.cell? ⟨w.heap.size + 1, 2, none⟩ = some (.int .i64 Dt) ∧ w'.cell? ⟨w.heap.size + 2, 0, none⟩ = some (.int .i64 0) ∧ w'.cell? ⟨w.heap.size + 2, 1, none⟩ = some (.slice none 0 0) ∧ (w.heap.size + 2 < w'.heap.size ∧ ∀ i, w'.frozen? ⟨w.heap.size + 2, i, none⟩ = false) ∧ w'.cell? ⟨T, 0, none⟩ = some (.int .i64 t) ∧ w'.cell? ⟨T, 1, none⟩ = some (.slice (some ⟨g, 0, none⟩) l.length c3) ∧ (T < w'.heap.size ∧ ∀ i, w'.frozen? ⟨T, i, none⟩ = false) ∧ w'.ownsRow (w.heap.size + 3) 42 10 (.slice (some ⟨g, 0, none⟩) l.length c3) (l.length) (hds l) ∧ w'.cell? ⟨g, i * 10, none⟩ = some (.int .i64 a) ∧ Below w.heap.size w w') (by kernel_rfl) (by kernel_rfl) ⟨hS.1, hS.2.1, hS.2.2.1, hS.2.2.2.1, hS.2.2.2.2.1, hS.2.2.2.2.2.1, hS.2.2.2.2.2.2.1, hS.2.2.2.2.2.2.2.1, hS.2.2.2.2.2.2.2.2.1, HROW.out, c0, Below.drew (hS.2.2.2.2.2.2.2.2.2)⟩ ?_
      repeat (first
        | ((refine wpDet_skip (by rfl) ?_); simp only [Act.put, zp1, zp2, zp3])
        | ((refine wpDet_val (v := ?_) (by rfl) (fun w hS => ?_) ?_); rotate_left; (focus ((try dsimp only at hS); go_simp; (try (with_reducible rfl)); done)); simp only [Act.put, zp1, zp2, zp3]))
      refine wpDet_nil ?_
      intro w1 hS
      have hT : w1.cell? ⟨w.heap.size + 1, 0, none⟩ = some (.int .i64 K) ∧ w1.cell? ⟨w.heap.size + 1, 1, none⟩ = some (.int .i64 Ad) ∧ w1.cell? ⟨w.heap.size + 1, 2, none⟩ = some (.int .i64 Dt) ∧ w1.cell? ⟨w.heap.size + 2, 0, none⟩ = some (.int .i64 0) ∧ w1.cell? ⟨w.heap.size + 2, 1, none⟩ = some (.slice none 0 0) ∧ (w.heap.size + 2 < w1.heap.size ∧ ∀ i, w1.frozen? ⟨w.heap.size + 2, i, none⟩ = false) ∧ w1.cell? ⟨T, 0, none⟩ = some (.int .i64 t) ∧ w1.cell? ⟨T, 1, none⟩ = some (.slice (some ⟨g, 0, none⟩) l.length c3) ∧ (T < w1.heap.size ∧ ∀ i, w1.frozen? ⟨T, i, none⟩ = false) ∧ w1.ownsRow (w.heap.size + 3) 42 10 (.slice (some ⟨g, 0, none⟩) l.length c3) (l.length) (hds l) ∧ w1.cell? ⟨g, i * 10, none⟩ = some (.int .i64 a) ∧ Below w.heap.size w w1 := hS
      clear hS
      have hS := hT
      obtain ⟨c0, c1, c2, c3, c4, c5, c6, c7, c8, c9, c10, hB⟩ := hT
      have hzw : w.heap.size ≤ w1.heap.size := hB.size
      have hz1 : w.heap.size + 1 < w1.heap.size := World.block_lt_of_cell? w1 _ (hS.1)
      have hz2 : w.heap.size + 2 < w1.heap.size := World.block_lt_of_cell? w1 _ (hS.2.2.2.1)
      have hz3 : T < w1.heap.size := World.block_lt_of_cell? w1 _ (hS.2.2.2.2.2.2.1)
      have hz4 : g < w1.heap.size := World.block_lt_of_cell? w1 _ (hS.2.2.2.2.2.2.2.2.2.2.1)
      go_wp2_with fail
      go_meet
      case rel => rw [hn]; exact ⟨rfl, hide (hS.2.2.2.2.2.2.2.2.2.1), hS.1, hS.2.1, hS.2.2.1, hS.2.2.2.1, hS.2.2.2.2.1, hS.2.2.2.2.2.1, hS.2.2.2.2.2.2.1, hS.2.2.2.2.2.2.2.1, hS.2.2.2.2.2.2.2.2.1, hS.2.2.2.2.2.2.2.2.2.2.2⟩
    have hn : decide (¬ rcH Ad l) = true := decide_eq_true (fun h => hA (by have h9 := h.2; rw [HI9.out, ha] at h9; exact h9))
    have hq3 : (a == Ad) = false := beq_false_of_ne hA
    have hq5 : (a != Ad) = true := by rw [bne, hq3]; rfl
    clear hA ha
    go_wp2_with fail
    refine wp_region_det (fun w' => w'.cell? ⟨w.heap.size + 1, 0, none⟩ = some (.int .i64 K) ∧ w'.cell? ⟨w.heap.size + 1, 1, none⟩ = some (.int .i64 Ad) ∧ w'.cell? ⟨w.heap.size + 1, 2, none⟩ = some (.int .i64 Dt) ∧ w'.cell? ⟨w.heap.size + 2, 0, none⟩ = some (.int .i64 0) ∧ w'.cell? ⟨w.heap.size + 2, 1, none⟩ = some (.slice none 0 0) ∧ (w.heap.size + 2 < w'.heap.size ∧ ∀ i, w'.frozen? ⟨w.heap.size + 2, i, none⟩ = false) ∧ w'.cell? ⟨T, 0, none⟩ = some (.int .i64 t) ∧ w'.cell? ⟨T, 1, none⟩ = some (.slice (some ⟨g, 0, none⟩) l.length c3) ∧ (T < w'.heap.size ∧ ∀ i, w'.frozen? ⟨T, i, none⟩ = false) ∧ w'.ownsRow (w.heap.size + 3) 42 10 (.slice (some ⟨g, 0, none⟩) l.length c3) (l.length) (hds l) ∧ w'.cell? ⟨g, i * 10, none⟩ = some (.int .i64 a) ∧ Below w.heap.size w w') (by kernel_rfl) (by kernel_rfl) ⟨hS.1, hS.2.1, hS.2.2.1, hS.2.2.2.1, hS.2.2.2.2.1, hS.2.2.2.2.2.1, hS.2.2.2.2.2.2.1, hS.2.2.2.2.2.2.2.1, hS.2.2.2.2.2.2.2.2.1, HROW.out, c0, Below.drew (hS.2.2.2.2.2.2.2.2.2)⟩ ?_
    repeat (first
      | ((refine wpDet_skip (by rfl) ?_); simp only [Act.put, zp1, zp2, zp3])
      | ((refine wpDet_val (v := ?_) (by rfl) (fun w hS => ?_) ?_); rotate_left; (focus ((try dsimp only at hS); go_simp; (try (with_reducible rfl)); done)); simp only [Act.put, zp1, zp2, zp3]))
    refine wpDet_nil ?_
    intro w1 hS
    have hT : w1.cell? ⟨w.heap.size + 1, 0, none⟩ = some (.int .i64 K) ∧ w1.cell? ⟨w.heap.size + 1, 1, none⟩ = some (.int .i64 Ad) ∧ w1.cell? ⟨w.heap.size + 1, 2, none⟩ = some (.int .i64 Dt) ∧ w1.cell? ⟨w.heap.size + 2, 0, none⟩ = some (.int .i64 0) ∧ w1.cell? ⟨w.heap.size + 2, 1, none⟩ = some (.slice none 0 0) ∧ (w.heap.size + 2 < w1.heap.size ∧ ∀ i, w1.frozen? ⟨w.heap.size + 2, i, none⟩ = false) ∧ w1.cell? ⟨T, 0, none⟩ = some (.int .i64 t) ∧ w1.cell? ⟨T, 1, none⟩ = some (.slice (some ⟨g, 0, none⟩) l.length c3) ∧ (T < w1.heap.size ∧ ∀ i, w1.frozen? ⟨T, i, none⟩ = false) ∧ w1.ownsRow (w.heap.size + 3) 42 10 (.slice (some ⟨g, 0, none⟩) l.length c3) (l.length) (hds l) ∧ w1.cell? ⟨g, i * 10, none⟩ = some (.int .i64 a) ∧ Below w.heap.size w w1 := hS
    clear hS
    have hS := hT
    obtain ⟨c0, c1, c2, c3, c4, c5, c6, c7, c8, c9, c10, hB⟩ := hT
    have hzw : w.heap.size ≤ w1.heap.size := hB.size
    have hz1 : w.heap.size + 1 < w1.heap.size := World.block_lt_of_cell? w1 _ (hS.1)
    have hz2 : w.heap.size + 2 < w1.heap.size := World.block_lt_of_cell? w1 _ (hS.2.2.2.1)
    have hz3 : T < w1.heap.size := World.block_lt_of_cell? w1 _ (hS.2.2.2.2.2.2.1)
    have hz4 : g < w1.heap.size := World.block_lt_of_cell? w1 _ (hS.2.2.2.2.2.2.2.2.2.2.1)
    go_wp2_with fail
    go_meet
    case rel => rw [hn]; exact ⟨rfl, hide (hS.2.2.2.2.2.2.2.2.2.1), hS.1, hS.2.1, hS.2.2.1, hS.2.2.2.1, hS.2.2.2.2.1, hS.2.2.2.2.2.1, hS.2.2.2.2.2.2.1, hS.2.2.2.2.2.2.2.1, hS.2.2.2.2.2.2.2.2.1, hS.2.2.2.2.2.2.2.2.2.2.2⟩
  
  (try clear hS)
  (try clear HROW)
  (try clear hzw)
  (try clear hB)
  (try clear hT9)
  obtain ⟨rfl, HROW, hS⟩ := hcut
  go_upto_if 50 with fail
  go_cut [] (fun wx => ∃ (g cp : Nat), g ≠ T ∧ Hid (wx.ownsRow (w.heap.size + 3) 42 10 (.slice (some ⟨g, 0, none⟩) (rcB Ad l).length cp) (rcB Ad l).length (hds (rcB Ad l))) ∧ (wx.cell? ⟨w.heap.size + 1, 0, none⟩ = some (.int .i64 K) ∧ wx.cell? ⟨w.heap.size + 1, 1, none⟩ = some (.int .i64 Ad) ∧ wx.cell? ⟨w.heap.size + 1, 2, none⟩ = some (.int .i64 Dt) ∧ wx.cell? ⟨w.heap.size + 2, 0, none⟩ = some (.int .i64 0) ∧ wx.cell? ⟨w.heap.size + 2, 1, none⟩ = some (.slice none 0 0) ∧ (w.heap.size + 2 < wx.heap.size ∧ ∀ i, wx.frozen? ⟨w.heap.size + 2, i, none⟩ = false) ∧ wx.cell? ⟨T, 0, none⟩ = some (.int .i64 t) ∧ wx.cell? ⟨T, 1, none⟩ = some (.slice (some ⟨g, 0, none⟩) (rcB Ad l).length cp) ∧ (T < wx.heap.size ∧ ∀ i, wx.frozen? ⟨T, i, none⟩ = false) ∧ Below w.heap.size w wx))
  case first =>
    by_cases hk : rcH Ad l
    · have hn : decide (¬ rcH Ad l) = false := decide_eq_false (fun h => h hk)
      rw [hn]
      have HRB := hide (show rcB Ad l = l from if_pos hk)
      have hl0 := hk.1
      clear hk
      obtain ⟨g, hA3, hg0, hg1⟩ := own_at HROW.out (by omega)
      subst hA3
      have hgT : g ≠ T := fun e => hTn (by rw [e]; rfl)
      go_wp2_with fail
      go_meet
      case rel => rw [HRB.out]; exact ⟨g, c3, hgT, HROW, hS⟩
    have hn : decide (¬ rcH Ad l) = true := decide_eq_true hk
    rw [hn]
    have HRB := hide (show rcB Ad l = bubL l Ad i from by rw [← HI9.out]; exact if_neg hk)
    clear hk
    have hBw := hS.2.2.2.2.2.2.2.2.2
    have hzw : w.heap.size ≤ wc.heap.size := hBw.size
    have hcl := own_cap HROW.out
    have hAA := own_addr HROW.out
    have hTz : T < wc.heap.size := (hS.2.2.2.2.2.2.2.2.1).1
    go_upto_region 7 with fail
    refine wp_region_all (by kernel_rfl) ?_
    obtain ⟨H, hH⟩ : ∃ q, wc.heap.size = q := ⟨_, rfl⟩
    obtain ⟨W0, hW0⟩ : ∃ W, World.drew (World.alloc wc (.cells #[.int .i64 Ad, .bool false, .int .i64 0, .int .i64 0, .int .i64 (-1), .bool false, .int .i64 0, .int .i64 0, .int .i64 (-1), .int .i64 0] 42)) = W := ⟨_, rfl⟩
    rw [hW0, hH]
    have hHW : H < W0.heap.size := by rw [← hW0, ← hH]; simp
    have hcw : Below wc.heap.size wc W0 := by rw [← hW0]; go_grown
    have HR0 := hide (reads_below (own_reads HROW.out) hcw)
    have hTW : T < W0.heap.size := by rw [← hH] at hHW; omega
    have hwW : w.heap.size + 3 ≤ W0.heap.size := by omega
    have HS0 := hide (show W0.cell? ⟨w.heap.size + 1, 0, none⟩ = some (.int .i64 K) ∧ W0.cell? ⟨w.heap.size + 1, 1, none⟩ = some (.int .i64 Ad) ∧ W0.cell? ⟨w.heap.size + 1, 2, none⟩ = some (.int .i64 Dt) ∧ W0.cell? ⟨w.heap.size + 2, 0, none⟩ = some (.int .i64 0) ∧ W0.cell? ⟨w.heap.size + 2, 1, none⟩ = some (.slice none 0 0) ∧ (w.heap.size + 2 < W0.heap.size ∧ ∀ i, W0.frozen? ⟨w.heap.size + 2, i, none⟩ = false) ∧ W0.cell? ⟨T, 0, none⟩ = some (.int .i64 t) ∧ W0.cell? ⟨T, 1, none⟩ = some (.slice A3 l.length c3) ∧ (T < W0.heap.size ∧ ∀ i, W0.frozen? ⟨T, i, none⟩ = false) ∧ Below w.heap.size w W0 from ⟨(keep_cell hcw (hS.1)), (keep_cell hcw (hS.2.1)), (keep_cell hcw (hS.2.2.1)), (keep_cell hcw (hS.2.2.2.1)), (keep_cell hcw (hS.2.2.2.2.1)), (keep_fre hcw (hS.2.2.2.2.2.1)), (keep_cell hcw (hS.2.2.2.2.2.2.1)), (keep_cell hcw (hS.2.2.2.2.2.2.2.1)), (keep_fre hcw (hS.2.2.2.2.2.2.2.2.1)), below_via hBw hcw⟩)
    have hS7 : W0.cell? ⟨T, 1, none⟩ = some (.slice A3 l.length c3) ∧ W0.cell? ⟨H, 0, none⟩ = some (.int .i64 Ad) ∧ W0.cell? ⟨H, 1, none⟩ = some (.bool false) ∧ W0.cell? ⟨H, 2, none⟩ = some (.int .i64 0) ∧ W0.cell? ⟨H, 3, none⟩ = some (.int .i64 0) ∧ W0.cell? ⟨H, 4, none⟩ = some (.int .i64 (-1)) ∧ W0.cell? ⟨H, 5, none⟩ = some (.bool false) ∧ W0.cell? ⟨H, 6, none⟩ = some (.int .i64 0) ∧ W0.cell? ⟨H, 7, none⟩ = some (.int .i64 0) ∧ W0.cell? ⟨H, 8, none⟩ = some (.int .i64 (-1)) ∧ W0.cell? ⟨H, 9, none⟩ = some (.int .i64 0) ∧ Below W0.heap.size W0 W0 := ⟨HS0.out.2.2.2.2.2.2.2.1, (by rw [← hW0, ← hH]; simp [go_sem]), (by rw [← hW0, ← hH]; simp [go_sem]), (by rw [← hW0, ← hH]; simp [go_sem]), (by rw [← hW0, ← hH]; simp [go_sem]), (by rw [← hW0, ← hH]; simp [go_sem]), (by rw [← hW0, ← hH]; simp [go_sem]), (by rw [← hW0, ← hH]; simp [go_sem]), (by rw [← hW0, ← hH]; simp [go_sem]), (by rw [← hW0, ← hH]; simp [go_sem]), (by rw [← hW0, ← hH]; simp [go_sem]), Below.refl _ _⟩
    clear hS hBw hcw hTz hzw HROW
    clear hW0 hH
    have hS := hS7
    clear hS7
    have hB := hS.2.2.2.2.2.2.2.2.2.2.2
    have hn0 : A3 = none → l.length = 0 := fun e => reads_nn2 HR0.out e
    obtain ⟨A2, hA2⟩ : ∃ q, (if c3 = i then A3 else A3.map (·.add (i * 10))) = q := ⟨_, rfl⟩
    obtain ⟨d2, hd2⟩ : ∃ q, c3 - i = q := ⟨_, rfl⟩
    obtain ⟨n2, hn2⟩ : ∃ q, l.length - i = q := ⟨_, rfl⟩
    have HX0 := hide (sl_front hAA hil hcl)
    have HX1 := hide (sl_back (A := A3) hil hcl)
    have HRB2 := hide (rd_back HR0.out hil hcl)
    have HN2 := hide (back_nn (c := c3) (i := i) hn0)
    rw [hA2, hn2] at HRB2 HN2
    rw [hA2, hn2, hd2] at HX1
    clear hA2 hd2
    have hnn : n2 ≤ l.length := by omega
    have hnni : i + n2 = l.length := by omega
    clear hn2
    refine all_split 7 0 (by decide) ?_ ?_
    · refine all_seq_tail_core [1, 2, 3, 4, 6, 9, 10, 11, 12, 7, 0, 5, 8, 13, 14, 15] 14 (fun W => W.cell? ⟨T, 1, none⟩ = some (.slice A3 l.length c3) ∧ W.cell? ⟨H, 0, none⟩ = some (.int .i64 Ad) ∧ W.cell? ⟨H, 1, none⟩ = some (.bool false) ∧ W.cell? ⟨H, 2, none⟩ = some (.int .i64 0) ∧ W.cell? ⟨H, 3, none⟩ = some (.int .i64 0) ∧ W.cell? ⟨H, 4, none⟩ = some (.int .i64 (-1)) ∧ W.cell? ⟨H, 5, none⟩ = some (.bool false) ∧ W.cell? ⟨H, 6, none⟩ = some (.int .i64 0) ∧ W.cell? ⟨H, 7, none⟩ = some (.int .i64 0) ∧ W.cell? ⟨H, 8, none⟩ = some (.int .i64 (-1)) ∧ W.cell? ⟨H, 9, none⟩ = some (.int .i64 0) ∧ Below W0.heap.size W0 W) (addE_core 7 0 _) (by kernel_rfl) hS ?_
      simp only [byNum, List.take, List.getElem?_cons_zero, List.getElem?_cons_succ]
      repeat (first
        | ((refine seq_skip (by rfl) (by rfl) ?_); simp only [Act.put, zp1, zp2, zp3])
        | ((refine seq_val (v := .slice A3 i c3) (by rfl) (by rfl) (fun w hS => run_sl (t := 24) (x := .tmp 56) (lo := none) (hi := some (.tmp 57)) (X := .slice A3 l.length c3) (LO := none) (HI := some (.int .i64 (i : Int))) rfl (by rfl) (by rfl) (by rfl) (HX0.out w)) ?_); simp only [Act.put, zp1, zp2, zp3])
        | ((refine seq_val (v := .slice A2 n2 d2) (by rfl) (by rfl) (fun w hS => run_sl (t := 24) (x := .tmp 64) (lo := some (.tmp 65)) (hi := none) (X := .slice A3 l.length c3) (LO := some (.int .i64 (i : Int))) (HI := none) rfl (by rfl) (by rfl) (by rfl) (HX1.out w)) ?_); simp only [Act.put, zp1, zp2, zp3])
        | ((refine seq_val (v := ?_) (by rfl) (by rfl) (fun w hS => ?_) ?_); rotate_left; (focus ((try dsimp only at hS); go_simp; (try (with_reducible rfl)); done)); simp only [Act.put, zp1, zp2, zp3]))
      refine seq_deed (v := ?_) (w' := ?_) (by rfl) (by rfl) ?_ ?_
      rotate_left
      rotate_left
      focus (go_simp; (constructor <;> (with_reducible rfl)); done)
      obtain ⟨X1, hX1⟩ : ∃ X, World.alloc W0 (.cells #[.int .i64 Ad, .bool false, .int .i64 0, .int .i64 0, .int .i64 (-1), .bool false, .int .i64 0, .int .i64 0, .int .i64 (-1), .int .i64 0] 42) = X := ⟨_, rfl⟩
      rw [hX1]
      have hbx : Below W0.heap.size W0 X1 := by rw [← hX1]; go_grown
      have hl1 : W0.heap.size ≤ W0.heap.size := hB.size
      have hm1 : W0.heap.size < X1.heap.size := by rw [← hX1]; simp
      have HNW := hide (show Reads X1 X1.heap.size 10 (some ⟨W0.heap.size, 0, none⟩) 1 (hdc (nwH Ad)) from by rw [← hX1]; exact reads_alloc W0 (hdc (nwH Ad)) 42)
      have hS2 : X1.cell? ⟨T, 1, none⟩ = some (.slice A3 l.length c3) ∧ X1.cell? ⟨H, 0, none⟩ = some (.int .i64 Ad) ∧ X1.cell? ⟨H, 1, none⟩ = some (.bool false) ∧ X1.cell? ⟨H, 2, none⟩ = some (.int .i64 0) ∧ X1.cell? ⟨H, 3, none⟩ = some (.int .i64 0) ∧ X1.cell? ⟨H, 4, none⟩ = some (.int .i64 (-1)) ∧ X1.cell? ⟨H, 5, none⟩ = some (.bool false) ∧ X1.cell? ⟨H, 6, none⟩ = some (.int .i64 0) ∧ X1.cell? ⟨H, 7, none⟩ = some (.int .i64 0) ∧ X1.cell? ⟨H, 8, none⟩ = some (.int .i64 (-1)) ∧ X1.cell? ⟨H, 9, none⟩ = some (.int .i64 0) ∧ Below W0.heap.size W0 X1 := ⟨keep_cell hbx (hS.1), keep_cell hbx (hS.2.1), keep_cell hbx (hS.2.2.1), keep_cell hbx (hS.2.2.2.1), keep_cell hbx (hS.2.2.2.2.1), keep_cell hbx (hS.2.2.2.2.2.1), keep_cell hbx (hS.2.2.2.2.2.2.1), keep_cell hbx (hS.2.2.2.2.2.2.2.1), keep_cell hbx (hS.2.2.2.2.2.2.2.2.1), keep_cell hbx (hS.2.2.2.2.2.2.2.2.2.1), keep_cell hbx (hS.2.2.2.2.2.2.2.2.2.2.1), below_via hB hbx⟩
      clear hS hB
      have hS := hS2
      clear hS2
      have hB := hS.2.2.2.2.2.2.2.2.2.2.2
      clear hbx hX1
      refine ⟨(fun W => W.cell? ⟨T, 1, none⟩ = some (.slice A3 l.length c3) ∧ W.cell? ⟨H, 0, none⟩ = some (.int .i64 Ad) ∧ W.cell? ⟨H, 1, none⟩ = some (.bool false) ∧ W.cell? ⟨H, 2, none⟩ = some (.int .i64 0) ∧ W.cell? ⟨H, 3, none⟩ = some (.int .i64 0) ∧ W.cell? ⟨H, 4, none⟩ = some (.int .i64 (-1)) ∧ W.cell? ⟨H, 5, none⟩ = some (.bool false) ∧ W.cell? ⟨H, 6, none⟩ = some (.int .i64 0) ∧ W.cell? ⟨H, 7, none⟩ = some (.int .i64 0) ∧ W.cell? ⟨H, 8, none⟩ = some (.int .i64 (-1)) ∧ W.cell? ⟨H, 9, none⟩ = some (.int .i64 0) ∧ Below W0.heap.size W0 W), hS, (fun W h => h), ?_⟩
      simp only [Act.put, zp1, zp2, zp3]
      repeat (first
        | ((refine seq_skip (by rfl) (by rfl) ?_); simp only [Act.put, zp1, zp2, zp3])
        | ((refine seq_val (v := .slice A3 i c3) (by rfl) (by rfl) (fun w hS => run_sl (t := 24) (x := .tmp 56) (lo := none) (hi := some (.tmp 57)) (X := .slice A3 l.length c3) (LO := none) (HI := some (.int .i64 (i : Int))) rfl (by rfl) (by rfl) (by rfl) (HX0.out w)) ?_); simp only [Act.put, zp1, zp2, zp3])
        | ((refine seq_val (v := .slice A2 n2 d2) (by rfl) (by rfl) (fun w hS => run_sl (t := 24) (x := .tmp 64) (lo := some (.tmp 65)) (hi := none) (X := .slice A3 l.length c3) (LO := some (.int .i64 (i : Int))) (HI := none) rfl (by rfl) (by rfl) (by rfl) (HX1.out w)) ?_); simp only [Act.put, zp1, zp2, zp3])
        | ((refine seq_val (v := ?_) (by rfl) (by rfl) (fun w hS => ?_) ?_); rotate_left; (focus ((try dsimp only at hS); go_simp; (try (with_reducible rfl)); done)); simp only [Act.put, zp1, zp2, zp3]))
      refine seq_deed (v := ?_) (w' := ?_) (by rfl) (by rfl) ?_ ?_
      rotate_left
      rotate_left
      focus (go_simp; (constructor <;> (with_reducible rfl)); done)
      obtain ⟨X2, hX2⟩ : ∃ X, World.alloc X1 (.cells #[] 42) = X := ⟨_, rfl⟩
      rw [hX2]
      have hbx : Below X1.heap.size X1 X2 := by rw [← hX2]; go_grown
      have hl2 : W0.heap.size ≤ X1.heap.size := hB.size
      have hm2 : X1.heap.size < X2.heap.size := by rw [← hX2]; simp
      have HNWb := hide (reads_below HNW.out hbx)
      clear HNW
      have HNW := HNWb
      clear HNWb
      have hown0 : X2.ownsRow W0.heap.size 42 10 (.slice (some ⟨X1.heap.size, 0, none⟩) 0 0) 0 [] := by rw [← hX2]; exact own_empty _ rfl hl2
      have hS2 : X2.cell? ⟨T, 1, none⟩ = some (.slice A3 l.length c3) ∧ X2.cell? ⟨H, 0, none⟩ = some (.int .i64 Ad) ∧ X2.cell? ⟨H, 1, none⟩ = some (.bool false) ∧ X2.cell? ⟨H, 2, none⟩ = some (.int .i64 0) ∧ X2.cell? ⟨H, 3, none⟩ = some (.int .i64 0) ∧ X2.cell? ⟨H, 4, none⟩ = some (.int .i64 (-1)) ∧ X2.cell? ⟨H, 5, none⟩ = some (.bool false) ∧ X2.cell? ⟨H, 6, none⟩ = some (.int .i64 0) ∧ X2.cell? ⟨H, 7, none⟩ = some (.int .i64 0) ∧ X2.cell? ⟨H, 8, none⟩ = some (.int .i64 (-1)) ∧ X2.cell? ⟨H, 9, none⟩ = some (.int .i64 0) ∧ Below W0.heap.size W0 X2 := ⟨keep_cell hbx (hS.1), keep_cell hbx (hS.2.1), keep_cell hbx (hS.2.2.1), keep_cell hbx (hS.2.2.2.1), keep_cell hbx (hS.2.2.2.2.1), keep_cell hbx (hS.2.2.2.2.2.1), keep_cell hbx (hS.2.2.2.2.2.2.1), keep_cell hbx (hS.2.2.2.2.2.2.2.1), keep_cell hbx (hS.2.2.2.2.2.2.2.2.1), keep_cell hbx (hS.2.2.2.2.2.2.2.2.2.1), keep_cell hbx (hS.2.2.2.2.2.2.2.2.2.2.1), below_via hB hbx⟩
      clear hS hB
      have hS := hS2
      clear hS2
      have hB := hS.2.2.2.2.2.2.2.2.2.2.2
      clear hbx hX2
      refine ⟨(fun W => W.cell? ⟨T, 1, none⟩ = some (.slice A3 l.length c3) ∧ W.cell? ⟨H, 0, none⟩ = some (.int .i64 Ad) ∧ W.cell? ⟨H, 1, none⟩ = some (.bool false) ∧ W.cell? ⟨H, 2, none⟩ = some (.int .i64 0) ∧ W.cell? ⟨H, 3, none⟩ = some (.int .i64 0) ∧ W.cell? ⟨H, 4, none⟩ = some (.int .i64 (-1)) ∧ W.cell? ⟨H, 5, none⟩ = some (.bool false) ∧ W.cell? ⟨H, 6, none⟩ = some (.int .i64 0) ∧ W.cell? ⟨H, 7, none⟩ = some (.int .i64 0) ∧ W.cell? ⟨H, 8, none⟩ = some (.int .i64 (-1)) ∧ W.cell? ⟨H, 9, none⟩ = some (.int .i64 0) ∧ Below W0.heap.size W0 W), hS, (fun W h => h), ?_⟩
      simp only [Act.put, zp1, zp2, zp3]
      repeat (first
        | ((refine seq_skip (by rfl) (by rfl) ?_); simp only [Act.put, zp1, zp2, zp3])
        | ((refine seq_val (v := .slice A3 i c3) (by rfl) (by rfl) (fun w hS => run_sl (t := 24) (x := .tmp 56) (lo := none) (hi := some (.tmp 57)) (X := .slice A3 l.length c3) (LO := none) (HI := some (.int .i64 (i : Int))) rfl (by rfl) (by rfl) (by rfl) (HX0.out w)) ?_); simp only [Act.put, zp1, zp2, zp3])
        | ((refine seq_val (v := .slice A2 n2 d2) (by rfl) (by rfl) (fun w hS => run_sl (t := 24) (x := .tmp 64) (lo := some (.tmp 65)) (hi := none) (X := .slice A3 l.length c3) (LO := some (.int .i64 (i : Int))) (HI := none) rfl (by rfl) (by rfl) (by rfl) (HX1.out w)) ?_); simp only [Act.put, zp1, zp2, zp3])
        | ((refine seq_val (v := ?_) (by rfl) (by rfl) (fun w hS => ?_) ?_); rotate_left; (focus ((try dsimp only at hS); go_simp; (try (with_reducible rfl)); done)); simp only [Act.put, zp1, zp2, zp3]))
      refine seq_append _ (by rfl) (by rfl) _ _ 24 (by rfl) W0.heap.size 42 i0 (hdV nHd) 10 80 Try.underlying24 hi0 iz0 iy0 ix0 rfl (by decide) _ 0 [] (by rfl) hown0 X2.heap.size A3 i _ ((hds l).take (i * 10)) (by rfl) (Reads.front (reads_below HR0.out hB) hil) (fun e => by have := hn0 e; omega) (fun u hu => hds_one2 l u (List.mem_of_mem_take hu)) (by unfold maxLen; omega) (by omega) hB.size ?_
      intro Aq1 cq1 X3 hown1 hgrow
      rw [Nat.zero_add, List.nil_append] at hown1
      rw [Nat.zero_add]
      have HNWb := hide (reads_gb HNW.out hgrow (fun a e => by obtain rfl := Option.some.inj e; exact ne_some (by show X1.heap.size ≠ W0.heap.size; omega)))
      clear HNW
      have HNW := HNWb
      clear HNWb
      have hS2 : X3.cell? ⟨T, 1, none⟩ = some (.slice A3 l.length c3) ∧ X3.cell? ⟨H, 0, none⟩ = some (.int .i64 Ad) ∧ X3.cell? ⟨H, 1, none⟩ = some (.bool false) ∧ X3.cell? ⟨H, 2, none⟩ = some (.int .i64 0) ∧ X3.cell? ⟨H, 3, none⟩ = some (.int .i64 0) ∧ X3.cell? ⟨H, 4, none⟩ = some (.int .i64 (-1)) ∧ X3.cell? ⟨H, 5, none⟩ = some (.bool false) ∧ X3.cell? ⟨H, 6, none⟩ = some (.int .i64 0) ∧ X3.cell? ⟨H, 7, none⟩ = some (.int .i64 0) ∧ X3.cell? ⟨H, 8, none⟩ = some (.int .i64 (-1)) ∧ X3.cell? ⟨H, 9, none⟩ = some (.int .i64 0) ∧ Below W0.heap.size W0 X3 := ⟨own_cell hown0 hgrow (hS.1) (by show _ < W0.heap.size; omega), own_cell hown0 hgrow (hS.2.1) (by show _ < W0.heap.size; omega), own_cell hown0 hgrow (hS.2.2.1) (by show _ < W0.heap.size; omega), own_cell hown0 hgrow (hS.2.2.2.1) (by show _ < W0.heap.size; omega), own_cell hown0 hgrow (hS.2.2.2.2.1) (by show _ < W0.heap.size; omega), own_cell hown0 hgrow (hS.2.2.2.2.2.1) (by show _ < W0.heap.size; omega), own_cell hown0 hgrow (hS.2.2.2.2.2.2.1) (by show _ < W0.heap.size; omega), own_cell hown0 hgrow (hS.2.2.2.2.2.2.2.1) (by show _ < W0.heap.size; omega), own_cell hown0 hgrow (hS.2.2.2.2.2.2.2.2.1) (by show _ < W0.heap.size; omega), own_cell hown0 hgrow (hS.2.2.2.2.2.2.2.2.2.1) (by show _ < W0.heap.size; omega), own_cell hown0 hgrow (hS.2.2.2.2.2.2.2.2.2.2.1) (by show _ < W0.heap.size; omega), own_grown hown0 hgrow hB hB.size (Nat.le_refl _)⟩
      clear hS hB
      have hS := hS2
      clear hS2
      have hB := hS.2.2.2.2.2.2.2.2.2.2.2
      clear hgrow hown0
      refine ⟨(fun W => W.cell? ⟨T, 1, none⟩ = some (.slice A3 l.length c3) ∧ W.cell? ⟨H, 0, none⟩ = some (.int .i64 Ad) ∧ W.cell? ⟨H, 1, none⟩ = some (.bool false) ∧ W.cell? ⟨H, 2, none⟩ = some (.int .i64 0) ∧ W.cell? ⟨H, 3, none⟩ = some (.int .i64 0) ∧ W.cell? ⟨H, 4, none⟩ = some (.int .i64 (-1)) ∧ W.cell? ⟨H, 5, none⟩ = some (.bool false) ∧ W.cell? ⟨H, 6, none⟩ = some (.int .i64 0) ∧ W.cell? ⟨H, 7, none⟩ = some (.int .i64 0) ∧ W.cell? ⟨H, 8, none⟩ = some (.int .i64 (-1)) ∧ W.cell? ⟨H, 9, none⟩ = some (.int .i64 0) ∧ Below W0.heap.size W0 W), hS, (fun W h => h), ?_⟩
      simp only [Act.put, zp1, zp2, zp3]
      repeat (first
        | ((refine seq_skip (by rfl) (by rfl) ?_); simp only [Act.put, zp1, zp2, zp3])
        | ((refine seq_val (v := .slice A3 i c3) (by rfl) (by rfl) (fun w hS => run_sl (t := 24) (x := .tmp 56) (lo := none) (hi := some (.tmp 57)) (X := .slice A3 l.length c3) (LO := none) (HI := some (.int .i64 (i : Int))) rfl (by rfl) (by rfl) (by rfl) (HX0.out w)) ?_); simp only [Act.put, zp1, zp2, zp3])
        | ((refine seq_val (v := .slice A2 n2 d2) (by rfl) (by rfl) (fun w hS => run_sl (t := 24) (x := .tmp 64) (lo := some (.tmp 65)) (hi := none) (X := .slice A3 l.length c3) (LO := some (.int .i64 (i : Int))) (HI := none) rfl (by rfl) (by rfl) (by rfl) (HX1.out w)) ?_); simp only [Act.put, zp1, zp2, zp3])
        | ((refine seq_val (v := ?_) (by rfl) (by rfl) (fun w hS => ?_) ?_); rotate_left; (focus ((try dsimp only at hS); go_simp; (try (with_reducible rfl)); done)); simp only [Act.put, zp1, zp2, zp3]))
      refine seq_append _ (by rfl) (by rfl) _ _ 24 (by rfl) W0.heap.size 42 i0 (hdV nHd) 10 80 Try.underlying24 hi0 iz0 iy0 ix0 rfl (by decide) _ i ((hds l).take (i * 10)) (by rfl) hown1 X3.heap.size (some ⟨W0.heap.size, 0, none⟩) 1 _ (hdc (nwH Ad)) (by rfl) HNW.out (fun e => by cases e) (one_ten rfl rfl rfl rfl rfl rfl rfl rfl rfl rfl) (by unfold maxLen; omega) (by omega) hB.size ?_
      intro Aq2 cq2 X4 hown2 hgrow
      have hS2 : X4.cell? ⟨T, 1, none⟩ = some (.slice A3 l.length c3) ∧ X4.cell? ⟨H, 0, none⟩ = some (.int .i64 Ad) ∧ X4.cell? ⟨H, 1, none⟩ = some (.bool false) ∧ X4.cell? ⟨H, 2, none⟩ = some (.int .i64 0) ∧ X4.cell? ⟨H, 3, none⟩ = some (.int .i64 0) ∧ X4.cell? ⟨H, 4, none⟩ = some (.int .i64 (-1)) ∧ X4.cell? ⟨H, 5, none⟩ = some (.bool false) ∧ X4.cell? ⟨H, 6, none⟩ = some (.int .i64 0) ∧ X4.cell? ⟨H, 7, none⟩ = some (.int .i64 0) ∧ X4.cell? ⟨H, 8, none⟩ = some (.int .i64 (-1)) ∧ X4.cell? ⟨H, 9, none⟩ = some (.int .i64 0) ∧ Below W0.heap.size W0 X4 := ⟨own_cell hown1 hgrow (hS.1) (by show _ < W0.heap.size; omega), own_cell hown1 hgrow (hS.2.1) (by show _ < W0.heap.size; omega), own_cell hown1 hgrow (hS.2.2.1) (by show _ < W0.heap.size; omega), own_cell hown1 hgrow (hS.2.2.2.1) (by show _ < W0.heap.size; omega), own_cell hown1 hgrow (hS.2.2.2.2.1) (by show _ < W0.heap.size; omega), own_cell hown1 hgrow (hS.2.2.2.2.2.1) (by show _ < W0.heap.size; omega), own_cell hown1 hgrow (hS.2.2.2.2.2.2.1) (by show _ < W0.heap.size; omega), own_cell hown1 hgrow (hS.2.2.2.2.2.2.2.1) (by show _ < W0.heap.size; omega), own_cell hown1 hgrow (hS.2.2.2.2.2.2.2.2.1) (by show _ < W0.heap.size; omega), own_cell hown1 hgrow (hS.2.2.2.2.2.2.2.2.2.1) (by show _ < W0.heap.size; omega), own_cell hown1 hgrow (hS.2.2.2.2.2.2.2.2.2.2.1) (by show _ < W0.heap.size; omega), own_grown hown1 hgrow hB hB.size (Nat.le_refl _)⟩
      clear hS hB
      have hS := hS2
      clear hS2
      have hB := hS.2.2.2.2.2.2.2.2.2.2.2
      clear hgrow hown1 HNW
      refine ⟨(fun W => W.cell? ⟨T, 1, none⟩ = some (.slice A3 l.length c3) ∧ W.cell? ⟨H, 0, none⟩ = some (.int .i64 Ad) ∧ W.cell? ⟨H, 1, none⟩ = some (.bool false) ∧ W.cell? ⟨H, 2, none⟩ = some (.int .i64 0) ∧ W.cell? ⟨H, 3, none⟩ = some (.int .i64 0) ∧ W.cell? ⟨H, 4, none⟩ = some (.int .i64 (-1)) ∧ W.cell? ⟨H, 5, none⟩ = some (.bool false) ∧ W.cell? ⟨H, 6, none⟩ = some (.int .i64 0) ∧ W.cell? ⟨H, 7, none⟩ = some (.int .i64 0) ∧ W.cell? ⟨H, 8, none⟩ = some (.int .i64 (-1)) ∧ W.cell? ⟨H, 9, none⟩ = some (.int .i64 0) ∧ Below W0.heap.size W0 W), hS, (fun W h => h), ?_⟩
      simp only [Act.put, zp1, zp2, zp3]
      repeat (first
        | ((refine seq_skip (by rfl) (by rfl) ?_); simp only [Act.put, zp1, zp2, zp3])
        | ((refine seq_val (v := .slice A3 i c3) (by rfl) (by rfl) (fun w hS => run_sl (t := 24) (x := .tmp 56) (lo := none) (hi := some (.tmp 57)) (X := .slice A3 l.length c3) (LO := none) (HI := some (.int .i64 (i : Int))) rfl (by rfl) (by rfl) (by rfl) (HX0.out w)) ?_); simp only [Act.put, zp1, zp2, zp3])
        | ((refine seq_val (v := .slice A2 n2 d2) (by rfl) (by rfl) (fun w hS => run_sl (t := 24) (x := .tmp 64) (lo := some (.tmp 65)) (hi := none) (X := .slice A3 l.length c3) (LO := some (.int .i64 (i : Int))) (HI := none) rfl (by rfl) (by rfl) (by rfl) (HX1.out w)) ?_); simp only [Act.put, zp1, zp2, zp3])
        | ((refine seq_val (v := ?_) (by rfl) (by rfl) (fun w hS => ?_) ?_); rotate_left; (focus ((try dsimp only at hS); go_simp; (try (with_reducible rfl)); done)); simp only [Act.put, zp1, zp2, zp3]))
      refine seq_append _ (by rfl) (by rfl) _ _ 24 (by rfl) W0.heap.size 42 i0 (hdV nHd) 10 80 Try.underlying24 hi0 iz0 iy0 ix0 rfl (by decide) _ (i + 1) ((hds l).take (i * 10) ++ hdc (nwH Ad)) (by rfl) hown2 X4.heap.size A2 n2 _ ((hds l).drop (i * 10)) (by rfl) ((HRB2.out.below hB).more hB.size) HN2.out (fun u hu => hds_one2 l u (List.mem_of_mem_drop hu)) (by unfold maxLen; omega) (by omega) hB.size ?_
      intro Aq3 cq3 X5 hown3 hgrow
      have hS2 : X5.cell? ⟨T, 1, none⟩ = some (.slice A3 l.length c3) ∧ X5.cell? ⟨H, 0, none⟩ = some (.int .i64 Ad) ∧ X5.cell? ⟨H, 1, none⟩ = some (.bool false) ∧ X5.cell? ⟨H, 2, none⟩ = some (.int .i64 0) ∧ X5.cell? ⟨H, 3, none⟩ = some (.int .i64 0) ∧ X5.cell? ⟨H, 4, none⟩ = some (.int .i64 (-1)) ∧ X5.cell? ⟨H, 5, none⟩ = some (.bool false) ∧ X5.cell? ⟨H, 6, none⟩ = some (.int .i64 0) ∧ X5.cell? ⟨H, 7, none⟩ = some (.int .i64 0) ∧ X5.cell? ⟨H, 8, none⟩ = some (.int .i64 (-1)) ∧ X5.cell? ⟨H, 9, none⟩ = some (.int .i64 0) ∧ Below W0.heap.size W0 X5 := ⟨own_cell hown2 hgrow (hS.1) (by show _ < W0.heap.size; omega), own_cell hown2 hgrow (hS.2.1) (by show _ < W0.heap.size; omega), own_cell hown2 hgrow (hS.2.2.1) (by show _ < W0.heap.size; omega), own_cell hown2 hgrow (hS.2.2.2.1) (by show _ < W0.heap.size; omega), own_cell hown2 hgrow (hS.2.2.2.2.1) (by show _ < W0.heap.size; omega), own_cell hown2 hgrow (hS.2.2.2.2.2.1) (by show _ < W0.heap.size; omega), own_cell hown2 hgrow (hS.2.2.2.2.2.2.1) (by show _ < W0.heap.size; omega), own_cell hown2 hgrow (hS.2.2.2.2.2.2.2.1) (by show _ < W0.heap.size; omega), own_cell hown2 hgrow (hS.2.2.2.2.2.2.2.2.1) (by show _ < W0.heap.size; omega), own_cell hown2 hgrow (hS.2.2.2.2.2.2.2.2.2.1) (by show _ < W0.heap.size; omega), own_cell hown2 hgrow (hS.2.2.2.2.2.2.2.2.2.2.1) (by show _ < W0.heap.size; omega), own_grown hown2 hgrow hB hB.size (Nat.le_refl _)⟩
      clear hS hB
      have hS := hS2
      clear hS2
      have hB := hS.2.2.2.2.2.2.2.2.2.2.2
      clear hgrow hown2
      refine ⟨(fun W => W.cell? ⟨T, 1, none⟩ = some (.slice A3 l.length c3) ∧ W.cell? ⟨H, 0, none⟩ = some (.int .i64 Ad) ∧ W.cell? ⟨H, 1, none⟩ = some (.bool false) ∧ W.cell? ⟨H, 2, none⟩ = some (.int .i64 0) ∧ W.cell? ⟨H, 3, none⟩ = some (.int .i64 0) ∧ W.cell? ⟨H, 4, none⟩ = some (.int .i64 (-1)) ∧ W.cell? ⟨H, 5, none⟩ = some (.bool false) ∧ W.cell? ⟨H, 6, none⟩ = some (.int .i64 0) ∧ W.cell? ⟨H, 7, none⟩ = some (.int .i64 0) ∧ W.cell? ⟨H, 8, none⟩ = some (.int .i64 (-1)) ∧ W.cell? ⟨H, 9, none⟩ = some (.int .i64 0) ∧ Below W0.heap.size W0 W), hS, (fun W h => h), ?_⟩
      simp only [Act.put, zp1, zp2, zp3]
      repeat (first
        | ((refine seq_skip (by rfl) (by rfl) ?_); simp only [Act.put, zp1, zp2, zp3])
        | ((refine seq_val (v := .slice A3 i c3) (by rfl) (by rfl) (fun w hS => run_sl (t := 24) (x := .tmp 56) (lo := none) (hi := some (.tmp 57)) (X := .slice A3 l.length c3) (LO := none) (HI := some (.int .i64 (i : Int))) rfl (by rfl) (by rfl) (by rfl) (HX0.out w)) ?_); simp only [Act.put, zp1, zp2, zp3])
        | ((refine seq_val (v := .slice A2 n2 d2) (by rfl) (by rfl) (fun w hS => run_sl (t := 24) (x := .tmp 64) (lo := some (.tmp 65)) (hi := none) (X := .slice A3 l.length c3) (LO := some (.int .i64 (i : Int))) (HI := none) rfl (by rfl) (by rfl) (by rfl) (HX1.out w)) ?_); simp only [Act.put, zp1, zp2, zp3])
        | ((refine seq_val (v := ?_) (by rfl) (by rfl) (fun w hS => ?_) ?_); rotate_left; (focus ((try dsimp only at hS); go_simp; (try (with_reducible rfl)); done)); simp only [Act.put, zp1, zp2, zp3]))
      refine seq_nil ?_
      dsimp only [List.drop]
      rw [bub_flat] at hown3
      have hlb : i + 1 + n2 = (bubL l Ad i).length := by rw [bub_len]; omega
      rw [hlb] at hown3 ⊢
      obtain ⟨g, hAg, hg0, hg1⟩ := own_at hown3 (by rw [bub_len]; omega)
      subst hAg
      have hgT : g ≠ T := by omega
      have hF := keep_fre hB (HS0.out.2.2.2.2.2.2.2.2.1)
      have fz : ∀ q, X5.frozen? ⟨T, q, none⟩ = false := hF.2
      have ct := hS.1
      have HROW := hide (own_mono hown3 hwW)
      have hBx := below_via (HS0.out.2.2.2.2.2.2.2.2.2) hB
      clear hown3
      go_wp2_with fail
      go_meet
      case rel => rw [HRB.out]; exact ⟨g, cq3, hgT, hide (ownsRow_setCell_other HROW.out (a := ⟨T, 1, none⟩) (fun e => hgT (Option.some.inj e)) _), sc2 _ (by omega) (keep_cell hB (HS0.out.1)), sc2 _ (by omega) (keep_cell hB (HS0.out.2.1)), sc2 _ (by omega) (keep_cell hB (HS0.out.2.2.1)), sc2 _ (by omega) (keep_cell hB (HS0.out.2.2.2.1)), sc2 _ (by omega) (keep_cell hB (HS0.out.2.2.2.2.1)), sf2 _ (keep_fre hB (HS0.out.2.2.2.2.2.1)), sc_off (by omega) (keep_cell hB (HS0.out.2.2.2.2.2.2.1)), sc_at ct, sf2 _ (keep_fre hB (HS0.out.2.2.2.2.2.2.2.2.1)), hBx.setCell (p := ⟨T, 1, none⟩) (by show _ ≤ T; omega) _⟩
    · refine all_split 7 5 (by decide) ?_ ?_
      · refine all_seq_tail_core [1, 2, 3, 4, 6, 9, 10, 11, 12, 0, 7, 5, 8, 13, 14, 15] 14 (fun W => W.cell? ⟨T, 1, none⟩ = some (.slice A3 l.length c3) ∧ W.cell? ⟨H, 0, none⟩ = some (.int .i64 Ad) ∧ W.cell? ⟨H, 1, none⟩ = some (.bool false) ∧ W.cell? ⟨H, 2, none⟩ = some (.int .i64 0) ∧ W.cell? ⟨H, 3, none⟩ = some (.int .i64 0) ∧ W.cell? ⟨H, 4, none⟩ = some (.int .i64 (-1)) ∧ W.cell? ⟨H, 5, none⟩ = some (.bool false) ∧ W.cell? ⟨H, 6, none⟩ = some (.int .i64 0) ∧ W.cell? ⟨H, 7, none⟩ = some (.int .i64 0) ∧ W.cell? ⟨H, 8, none⟩ = some (.int .i64 (-1)) ∧ W.cell? ⟨H, 9, none⟩ = some (.int .i64 0) ∧ Below W0.heap.size W0 W) (Core.trans (addE_core 0 7 _) (addE_core 7 5 _)) (by kernel_rfl) hS ?_
        simp only [byNum, List.take, List.getElem?_cons_zero, List.getElem?_cons_succ]
        repeat (first
          | ((refine seq_skip (by rfl) (by rfl) ?_); simp only [Act.put, zp1, zp2, zp3])
          | ((refine seq_val (v := .slice A3 i c3) (by rfl) (by rfl) (fun w hS => run_sl (t := 24) (x := .tmp 56) (lo := none) (hi := some (.tmp 57)) (X := .slice A3 l.length c3) (LO := none) (HI := some (.int .i64 (i : Int))) rfl (by rfl) (by rfl) (by rfl) (HX0.out w)) ?_); simp only [Act.put, zp1, zp2, zp3])
          | ((refine seq_val (v := .slice A2 n2 d2) (by rfl) (by rfl) (fun w hS => run_sl (t := 24) (x := .tmp 64) (lo := some (.tmp 65)) (hi := none) (X := .slice A3 l.length c3) (LO := some (.int .i64 (i : Int))) (HI := none) rfl (by rfl) (by rfl) (by rfl) (HX1.out w)) ?_); simp only [Act.put, zp1, zp2, zp3])
          | ((refine seq_val (v := ?_) (by rfl) (by rfl) (fun w hS => ?_) ?_); rotate_left; (focus ((try dsimp only at hS); go_simp; (try (with_reducible rfl)); done)); simp only [Act.put, zp1, zp2, zp3]))
        refine seq_deed (v := ?_) (w' := ?_) (by rfl) (by rfl) ?_ ?_
        rotate_left
        rotate_left
        focus (go_simp; (constructor <;> (with_reducible rfl)); done)
        obtain ⟨X1, hX1⟩ : ∃ X, World.alloc W0 (.cells #[] 42) = X := ⟨_, rfl⟩
        rw [hX1]
        have hbx : Below W0.heap.size W0 X1 := by rw [← hX1]; go_grown
        have hl1 : W0.heap.size ≤ W0.heap.size := hB.size
        have hm1 : W0.heap.size < X1.heap.size := by rw [← hX1]; simp
        have hown0 : X1.ownsRow W0.heap.size 42 10 (.slice (some ⟨W0.heap.size, 0, none⟩) 0 0) 0 [] := by rw [← hX1]; exact own_empty _ rfl hl1
        have hS2 : X1.cell? ⟨T, 1, none⟩ = some (.slice A3 l.length c3) ∧ X1.cell? ⟨H, 0, none⟩ = some (.int .i64 Ad) ∧ X1.cell? ⟨H, 1, none⟩ = some (.bool false) ∧ X1.cell? ⟨H, 2, none⟩ = some (.int .i64 0) ∧ X1.cell? ⟨H, 3, none⟩ = some (.int .i64 0) ∧ X1.cell? ⟨H, 4, none⟩ = some (.int .i64 (-1)) ∧ X1.cell? ⟨H, 5, none⟩ = some (.bool false) ∧ X1.cell? ⟨H, 6, none⟩ = some (.int .i64 0) ∧ X1.cell? ⟨H, 7, none⟩ = some (.int .i64 0) ∧ X1.cell? ⟨H, 8, none⟩ = some (.int .i64 (-1)) ∧ X1.cell? ⟨H, 9, none⟩ = some (.int .i64 0) ∧ Below W0.heap.size W0 X1 := ⟨keep_cell hbx (hS.1), keep_cell hbx (hS.2.1), keep_cell hbx (hS.2.2.1), keep_cell hbx (hS.2.2.2.1), keep_cell hbx (hS.2.2.2.2.1), keep_cell hbx (hS.2.2.2.2.2.1), keep_cell hbx (hS.2.2.2.2.2.2.1), keep_cell hbx (hS.2.2.2.2.2.2.2.1), keep_cell hbx (hS.2.2.2.2.2.2.2.2.1), keep_cell hbx (hS.2.2.2.2.2.2.2.2.2.1), keep_cell hbx (hS.2.2.2.2.2.2.2.2.2.2.1), below_via hB hbx⟩
        clear hS hB
        have hS := hS2
        clear hS2
        have hB := hS.2.2.2.2.2.2.2.2.2.2.2
        clear hbx hX1
        refine ⟨(fun W => W.cell? ⟨T, 1, none⟩ = some (.slice A3 l.length c3) ∧ W.cell? ⟨H, 0, none⟩ = some (.int .i64 Ad) ∧ W.cell? ⟨H, 1, none⟩ = some (.bool false) ∧ W.cell? ⟨H, 2, none⟩ = some (.int .i64 0) ∧ W.cell? ⟨H, 3, none⟩ = some (.int .i64 0) ∧ W.cell? ⟨H, 4, none⟩ = some (.int .i64 (-1)) ∧ W.cell? ⟨H, 5, none⟩ = some (.bool false) ∧ W.cell? ⟨H, 6, none⟩ = some (.int .i64 0) ∧ W.cell? ⟨H, 7, none⟩ = some (.int .i64 0) ∧ W.cell? ⟨H, 8, none⟩ = some (.int .i64 (-1)) ∧ W.cell? ⟨H, 9, none⟩ = some (.int .i64 0) ∧ Below W0.heap.size W0 W), hS, (fun W h => h), ?_⟩
        simp only [Act.put, zp1, zp2, zp3]
        repeat (first
          | ((refine seq_skip (by rfl) (by rfl) ?_); simp only [Act.put, zp1, zp2, zp3])
          | ((refine seq_val (v := .slice A3 i c3) (by rfl) (by rfl) (fun w hS => run_sl (t := 24) (x := .tmp 56) (lo := none) (hi := some (.tmp 57)) (X := .slice A3 l.length c3) (LO := none) (HI := some (.int .i64 (i : Int))) rfl (by rfl) (by rfl) (by rfl) (HX0.out w)) ?_); simp only [Act.put, zp1, zp2, zp3])
          | ((refine seq_val (v := .slice A2 n2 d2) (by rfl) (by rfl) (fun w hS => run_sl (t := 24) (x := .tmp 64) (lo := some (.tmp 65)) (hi := none) (X := .slice A3 l.length c3) (LO := some (.int .i64 (i : Int))) (HI := none) rfl (by rfl) (by rfl) (by rfl) (HX1.out w)) ?_); simp only [Act.put, zp1, zp2, zp3])
          | ((refine seq_val (v := ?_) (by rfl) (by rfl) (fun w hS => ?_) ?_); rotate_left; (focus ((try dsimp only at hS); go_simp; (try (with_reducible rfl)); done)); simp only [Act.put, zp1, zp2, zp3]))
        refine seq_deed (v := ?_) (w' := ?_) (by rfl) (by rfl) ?_ ?_
        rotate_left
        rotate_left
        focus (go_simp; (constructor <;> (with_reducible rfl)); done)
        obtain ⟨X2, hX2⟩ : ∃ X, World.alloc X1 (.cells #[.int .i64 Ad, .bool false, .int .i64 0, .int .i64 0, .int .i64 (-1), .bool false, .int .i64 0, .int .i64 0, .int .i64 (-1), .int .i64 0] 42) = X := ⟨_, rfl⟩
        rw [hX2]
        have hbx : Below X1.heap.size X1 X2 := by rw [← hX2]; go_grown
        have hl2 : W0.heap.size ≤ X1.heap.size := hB.size
        have hm2 : X1.heap.size < X2.heap.size := by rw [← hX2]; simp
        have hown0b := own_below hown0 hbx
        clear hown0
        have hown0 := hown0b
        clear hown0b
        have HNW := hide (show Reads X2 X2.heap.size 10 (some ⟨X1.heap.size, 0, none⟩) 1 (hdc (nwH Ad)) from by rw [← hX2]; exact reads_alloc X1 (hdc (nwH Ad)) 42)
        have hS2 : X2.cell? ⟨T, 1, none⟩ = some (.slice A3 l.length c3) ∧ X2.cell? ⟨H, 0, none⟩ = some (.int .i64 Ad) ∧ X2.cell? ⟨H, 1, none⟩ = some (.bool false) ∧ X2.cell? ⟨H, 2, none⟩ = some (.int .i64 0) ∧ X2.cell? ⟨H, 3, none⟩ = some (.int .i64 0) ∧ X2.cell? ⟨H, 4, none⟩ = some (.int .i64 (-1)) ∧ X2.cell? ⟨H, 5, none⟩ = some (.bool false) ∧ X2.cell? ⟨H, 6, none⟩ = some (.int .i64 0) ∧ X2.cell? ⟨H, 7, none⟩ = some (.int .i64 0) ∧ X2.cell? ⟨H, 8, none⟩ = some (.int .i64 (-1)) ∧ X2.cell? ⟨H, 9, none⟩ = some (.int .i64 0) ∧ Below W0.heap.size W0 X2 := ⟨keep_cell hbx (hS.1), keep_cell hbx (hS.2.1), keep_cell hbx (hS.2.2.1), keep_cell hbx (hS.2.2.2.1), keep_cell hbx (hS.2.2.2.2.1), keep_cell hbx (hS.2.2.2.2.2.1), keep_cell hbx (hS.2.2.2.2.2.2.1), keep_cell hbx (hS.2.2.2.2.2.2.2.1), keep_cell hbx (hS.2.2.2.2.2.2.2.2.1), keep_cell hbx (hS.2.2.2.2.2.2.2.2.2.1), keep_cell hbx (hS.2.2.2.2.2.2.2.2.2.2.1), below_via hB hbx⟩
        clear hS hB
        have hS := hS2
        clear hS2
        have hB := hS.2.2.2.2.2.2.2.2.2.2.2
        clear hbx hX2
        refine ⟨(fun W => W.cell? ⟨T, 1, none⟩ = some (.slice A3 l.length c3) ∧ W.cell? ⟨H, 0, none⟩ = some (.int .i64 Ad) ∧ W.cell? ⟨H, 1, none⟩ = some (.bool false) ∧ W.cell? ⟨H, 2, none⟩ = some (.int .i64 0) ∧ W.cell? ⟨H, 3, none⟩ = some (.int .i64 0) ∧ W.cell? ⟨H, 4, none⟩ = some (.int .i64 (-1)) ∧ W.cell? ⟨H, 5, none⟩ = some (.bool false) ∧ W.cell? ⟨H, 6, none⟩ = some (.int .i64 0) ∧ W.cell? ⟨H, 7, none⟩ = some (.int .i64 0) ∧ W.cell? ⟨H, 8, none⟩ = some (.int .i64 (-1)) ∧ W.cell? ⟨H, 9, none⟩ = some (.int .i64 0) ∧ Below W0.heap.size W0 W), hS, (fun W h => h), ?_⟩
        simp only [Act.put, zp1, zp2, zp3]
        repeat (first
          | ((refine seq_skip (by rfl) (by rfl) ?_); simp only [Act.put, zp1, zp2, zp3])
          | ((refine seq_val (v := .slice A3 i c3) (by rfl) (by rfl) (fun w hS => run_sl (t := 24) (x := .tmp 56) (lo := none) (hi := some (.tmp 57)) (X := .slice A3 l.length c3) (LO := none) (HI := some (.int .i64 (i : Int))) rfl (by rfl) (by rfl) (by rfl) (HX0.out w)) ?_); simp only [Act.put, zp1, zp2, zp3])
          | ((refine seq_val (v := .slice A2 n2 d2) (by rfl) (by rfl) (fun w hS => run_sl (t := 24) (x := .tmp 64) (lo := some (.tmp 65)) (hi := none) (X := .slice A3 l.length c3) (LO := some (.int .i64 (i : Int))) (HI := none) rfl (by rfl) (by rfl) (by rfl) (HX1.out w)) ?_); simp only [Act.put, zp1, zp2, zp3])
          | ((refine seq_val (v := ?_) (by rfl) (by rfl) (fun w hS => ?_) ?_); rotate_left; (focus ((try dsimp only at hS); go_simp; (try (with_reducible rfl)); done)); simp only [Act.put, zp1, zp2, zp3]))
        refine seq_append _ (by rfl) (by rfl) _ _ 24 (by rfl) W0.heap.size 42 i0 (hdV nHd) 10 80 Try.underlying24 hi0 iz0 iy0 ix0 rfl (by decide) _ 0 [] (by rfl) hown0 X2.heap.size A3 i _ ((hds l).take (i * 10)) (by rfl) (Reads.front (reads_below HR0.out hB) hil) (fun e => by have := hn0 e; omega) (fun u hu => hds_one2 l u (List.mem_of_mem_take hu)) (by unfold maxLen; omega) (by omega) hB.size ?_
        intro Aq1 cq1 X3 hown1 hgrow
        rw [Nat.zero_add, List.nil_append] at hown1
        rw [Nat.zero_add]
        have HNWb := hide (reads_gb HNW.out hgrow (fun a e => by obtain rfl := Option.some.inj e; exact ne_some (by show W0.heap.size ≠ X1.heap.size; omega)))
        clear HNW
        have HNW := HNWb
        clear HNWb
        have hS2 : X3.cell? ⟨T, 1, none⟩ = some (.slice A3 l.length c3) ∧ X3.cell? ⟨H, 0, none⟩ = some (.int .i64 Ad) ∧ X3.cell? ⟨H, 1, none⟩ = some (.bool false) ∧ X3.cell? ⟨H, 2, none⟩ = some (.int .i64 0) ∧ X3.cell? ⟨H, 3, none⟩ = some (.int .i64 0) ∧ X3.cell? ⟨H, 4, none⟩ = some (.int .i64 (-1)) ∧ X3.cell? ⟨H, 5, none⟩ = some (.bool false) ∧ X3.cell? ⟨H, 6, none⟩ = some (.int .i64 0) ∧ X3.cell? ⟨H, 7, none⟩ = some (.int .i64 0) ∧ X3.cell? ⟨H, 8, none⟩ = some (.int .i64 (-1)) ∧ X3.cell? ⟨H, 9, none⟩ = some (.int .i64 0) ∧ Below W0.heap.size W0 X3 := ⟨own_cell hown0 hgrow (hS.1) (by show _ < W0.heap.size; omega), own_cell hown0 hgrow (hS.2.1) (by show _ < W0.heap.size; omega), own_cell hown0 hgrow (hS.2.2.1) (by show _ < W0.heap.size; omega), own_cell hown0 hgrow (hS.2.2.2.1) (by show _ < W0.heap.size; omega), own_cell hown0 hgrow (hS.2.2.2.2.1) (by show _ < W0.heap.size; omega), own_cell hown0 hgrow (hS.2.2.2.2.2.1) (by show _ < W0.heap.size; omega), own_cell hown0 hgrow (hS.2.2.2.2.2.2.1) (by show _ < W0.heap.size; omega), own_cell hown0 hgrow (hS.2.2.2.2.2.2.2.1) (by show _ < W0.heap.size; omega), own_cell hown0 hgrow (hS.2.2.2.2.2.2.2.2.1) (by show _ < W0.heap.size; omega), own_cell hown0 hgrow (hS.2.2.2.2.2.2.2.2.2.1) (by show _ < W0.heap.size; omega), own_cell hown0 hgrow (hS.2.2.2.2.2.2.2.2.2.2.1) (by show _ < W0.heap.size; omega), own_grown hown0 hgrow hB hB.size (Nat.le_refl _)⟩
        clear hS hB
        have hS := hS2
        clear hS2
        have hB := hS.2.2.2.2.2.2.2.2.2.2.2
        clear hgrow hown0
        refine ⟨(fun W => W.cell? ⟨T, 1, none⟩ = some (.slice A3 l.length c3) ∧ W.cell? ⟨H, 0, none⟩ = some (.int .i64 Ad) ∧ W.cell? ⟨H, 1, none⟩ = some (.bool false) ∧ W.cell? ⟨H, 2, none⟩ = some (.int .i64 0) ∧ W.cell? ⟨H, 3, none⟩ = some (.int .i64 0) ∧ W.cell? ⟨H, 4, none⟩ = some (.int .i64 (-1)) ∧ W.cell? ⟨H, 5, none⟩ = some (.bool false) ∧ W.cell? ⟨H, 6, none⟩ = some (.int .i64 0) ∧ W.cell? ⟨H, 7, none⟩ = some (.int .i64 0) ∧ W.cell? ⟨H, 8, none⟩ = some (.int .i64 (-1)) ∧ W.cell? ⟨H, 9, none⟩ = some (.int .i64 0) ∧ Below W0.heap.size W0 W), hS, (fun W h => h), ?_⟩
        simp only [Act.put, zp1, zp2, zp3]
        repeat (first
          | ((refine seq_skip (by rfl) (by rfl) ?_); simp only [Act.put, zp1, zp2, zp3])
          | ((refine seq_val (v := .slice A3 i c3) (by rfl) (by rfl) (fun w hS => run_sl (t := 24) (x := .tmp 56) (lo := none) (hi := some (.tmp 57)) (X := .slice A3 l.length c3) (LO := none) (HI := some (.int .i64 (i : Int))) rfl (by rfl) (by rfl) (by rfl) (HX0.out w)) ?_); simp only [Act.put, zp1, zp2, zp3])
          | ((refine seq_val (v := .slice A2 n2 d2) (by rfl) (by rfl) (fun w hS => run_sl (t := 24) (x := .tmp 64) (lo := some (.tmp 65)) (hi := none) (X := .slice A3 l.length c3) (LO := some (.int .i64 (i : Int))) (HI := none) rfl (by rfl) (by rfl) (by rfl) (HX1.out w)) ?_); simp only [Act.put, zp1, zp2, zp3])
          | ((refine seq_val (v := ?_) (by rfl) (by rfl) (fun w hS => ?_) ?_); rotate_left; (focus ((try dsimp only at hS); go_simp; (try (with_reducible rfl)); done)); simp only [Act.put, zp1, zp2, zp3]))
        refine seq_append _ (by rfl) (by rfl) _ _ 24 (by rfl) W0.heap.size 42 i0 (hdV nHd) 10 80 Try.underlying24 hi0 iz0 iy0 ix0 rfl (by decide) _ i ((hds l).take (i * 10)) (by rfl) hown1 X3.heap.size (some ⟨X1.heap.size, 0, none⟩) 1 _ (hdc (nwH Ad)) (by rfl) HNW.out (fun e => by cases e) (one_ten rfl rfl rfl rfl rfl rfl rfl rfl rfl rfl) (by unfold maxLen; omega) (by omega) hB.size ?_
        intro Aq2 cq2 X4 hown2 hgrow
        have hS2 : X4.cell? ⟨T, 1, none⟩ = some (.slice A3 l.length c3) ∧ X4.cell? ⟨H, 0, none⟩ = some (.int .i64 Ad) ∧ X4.cell? ⟨H, 1, none⟩ = some (.bool false) ∧ X4.cell? ⟨H, 2, none⟩ = some (.int .i64 0) ∧ X4.cell? ⟨H, 3, none⟩ = some (.int .i64 0) ∧ X4.cell? ⟨H, 4, none⟩ = some (.int .i64 (-1)) ∧ X4.cell? ⟨H, 5, none⟩ = some (.bool false) ∧ X4.cell? ⟨H, 6, none⟩ = some (.int .i64 0) ∧ X4.cell? ⟨H, 7, none⟩ = some (.int .i64 0) ∧ X4.cell? ⟨H, 8, none⟩ = some (.int .i64 (-1)) ∧ X4.cell? ⟨H, 9, none⟩ = some (.int .i64 0) ∧ Below W0.heap.size W0 X4 := ⟨own_cell hown1 hgrow (hS.1) (by show _ < W0.heap.size; omega), own_cell hown1 hgrow (hS.2.1) (by show _ < W0.heap.size; omega), own_cell hown1 hgrow (hS.2.2.1) (by show _ < W0.heap.size; omega), own_cell hown1 hgrow (hS.2.2.2.1) (by show _ < W0.heap.size; omega), own_cell hown1 hgrow (hS.2.2.2.2.1) (by show _ < W0.heap.size; omega), own_cell hown1 hgrow (hS.2.2.2.2.2.1) (by show _ < W0.heap.size; omega), own_cell hown1 hgrow (hS.2.2.2.2.2.2.1) (by show _ < W0.heap.size; omega), own_cell hown1 hgrow (hS.2.2.2.2.2.2.2.1) (by show _ < W0.heap.size; omega), own_cell hown1 hgrow (hS.2.2.2.2.2.2.2.2.1) (by show _ < W0.heap.size; omega), own_cell hown1 hgrow (hS.2.2.2.2.2.2.2.2.2.1) (by show _ < W0.heap.size; omega), own_cell hown1 hgrow (hS.2.2.2.2.2.2.2.2.2.2.1) (by show _ < W0.heap.size; omega), own_grown hown1 hgrow hB hB.size (Nat.le_refl _)⟩
        clear hS hB
        have hS := hS2
        clear hS2
        have hB := hS.2.2.2.2.2.2.2.2.2.2.2
        clear hgrow hown1 HNW
        refine ⟨(fun W => W.cell? ⟨T, 1, none⟩ = some (.slice A3 l.length c3) ∧ W.cell? ⟨H, 0, none⟩ = some (.int .i64 Ad) ∧ W.cell? ⟨H, 1, none⟩ = some (.bool false) ∧ W.cell? ⟨H, 2, none⟩ = some (.int .i64 0) ∧ W.cell? ⟨H, 3, none⟩ = some (.int .i64 0) ∧ W.cell? ⟨H, 4, none⟩ = some (.int .i64 (-1)) ∧ W.cell? ⟨H, 5, none⟩ = some (.bool false) ∧ W.cell? ⟨H, 6, none⟩ = some (.int .i64 0) ∧ W.cell? ⟨H, 7, none⟩ = some (.int .i64 0) ∧ W.cell? ⟨H, 8, none⟩ = some (.int .i64 (-1)) ∧ W.cell? ⟨H, 9, none⟩ = some (.int .i64 0) ∧ Below W0.heap.size W0 W), hS, (fun W h => h), ?_⟩
        simp only [Act.put, zp1, zp2, zp3]
        repeat (first
          | ((refine seq_skip (by rfl) (by rfl) ?_); simp only [Act.put, zp1, zp2, zp3])
          | ((refine seq_val (v := .slice A3 i c3) (by rfl) (by rfl) (fun w hS => run_sl (t := 24) (x := .tmp 56) (lo := none) (hi := some (.tmp 57)) (X := .slice A3 l.length c3) (LO := none) (HI := some (.int .i64 (i : Int))) rfl (by rfl) (by rfl) (by rfl) (HX0.out w)) ?_); simp only [Act.put, zp1, zp2, zp3])
          | ((refine seq_val (v := .slice A2 n2 d2) (by rfl) (by rfl) (fun w hS => run_sl (t := 24) (x := .tmp 64) (lo := some (.tmp 65)) (hi := none) (X := .slice A3 l.length c3) (LO := some (.int .i64 (i : Int))) (HI := none) rfl (by rfl) (by rfl) (by rfl) (HX1.out w)) ?_); simp only [Act.put, zp1, zp2, zp3])
          | ((refine seq_val (v := ?_) (by rfl) (by rfl) (fun w hS => ?_) ?_); rotate_left; (focus ((try dsimp only at hS); go_simp; (try (with_reducible rfl)); done)); simp only [Act.put, zp1, zp2, zp3]))
        refine seq_append _ (by rfl) (by rfl) _ _ 24 (by rfl) W0.heap.size 42 i0 (hdV nHd) 10 80 Try.underlying24 hi0 iz0 iy0 ix0 rfl (by decide) _ (i + 1) ((hds l).take (i * 10) ++ hdc (nwH Ad)) (by rfl) hown2 X4.heap.size A2 n2 _ ((hds l).drop (i * 10)) (by rfl) ((HRB2.out.below hB).more hB.size) HN2.out (fun u hu => hds_one2 l u (List.mem_of_mem_drop hu)) (by unfold maxLen; omega) (by omega) hB.size ?_
        intro Aq3 cq3 X5 hown3 hgrow
        have hS2 : X5.cell? ⟨T, 1, none⟩ = some (.slice A3 l.length c3) ∧ X5.cell? ⟨H, 0, none⟩ = some (.int .i64 Ad) ∧ X5.cell? ⟨H, 1, none⟩ = some (.bool false) ∧ X5.cell? ⟨H, 2, none⟩ = some (.int .i64 0) ∧ X5.cell? ⟨H, 3, none⟩ = some (.int .i64 0) ∧ X5.cell? ⟨H, 4, none⟩ = some (.int .i64 (-1)) ∧ X5.cell? ⟨H, 5, none⟩ = some (.bool false) ∧ X5.cell? ⟨H, 6, none⟩ = some (.int .i64 0) ∧ X5.cell? ⟨H, 7, none⟩ = some (.int .i64 0) ∧ X5.cell? ⟨H, 8, none⟩ = some (.int .i64 (-1)) ∧ X5.cell? ⟨H, 9, none⟩ = some (.int .i64 0) ∧ Below W0.heap.size W0 X5 := ⟨own_cell hown2 hgrow (hS.1) (by show _ < W0.heap.size; omega), own_cell hown2 hgrow (hS.2.1) (by show _ < W0.heap.size; omega), own_cell hown2 hgrow (hS.2.2.1) (by show _ < W0.heap.size; omega), own_cell hown2 hgrow (hS.2.2.2.1) (by show _ < W0.heap.size; omega), own_cell hown2 hgrow (hS.2.2.2.2.1) (by show _ < W0.heap.size; omega), own_cell hown2 hgrow (hS.2.2.2.2.2.1) (by show _ < W0.heap.size; omega), own_cell hown2 hgrow (hS.2.2.2.2.2.2.1) (by show _ < W0.heap.size; omega), own_cell hown2 hgrow (hS.2.2.2.2.2.2.2.1) (by show _ < W0.heap.size; omega), own_cell hown2 hgrow (hS.2.2.2.2.2.2.2.2.1) (by show _ < W0.heap.size; omega), own_cell hown2 hgrow (hS.2.2.2.2.2.2.2.2.2.1) (by show _ < W0.heap.size; omega), own_cell hown2 hgrow (hS.2.2.2.2.2.2.2.2.2.2.1) (by show _ < W0.heap.size; omega), own_grown hown2 hgrow hB hB.size (Nat.le_refl _)⟩
        clear hS hB
        have hS := hS2
        clear hS2
        have hB := hS.2.2.2.2.2.2.2.2.2.2.2
        clear hgrow hown2
        refine ⟨(fun W => W.cell? ⟨T, 1, none⟩ = some (.slice A3 l.length c3) ∧ W.cell? ⟨H, 0, none⟩ = some (.int .i64 Ad) ∧ W.cell? ⟨H, 1, none⟩ = some (.bool false) ∧ W.cell? ⟨H, 2, none⟩ = some (.int .i64 0) ∧ W.cell? ⟨H, 3, none⟩ = some (.int .i64 0) ∧ W.cell? ⟨H, 4, none⟩ = some (.int .i64 (-1)) ∧ W.cell? ⟨H, 5, none⟩ = some (.bool false) ∧ W.cell? ⟨H, 6, none⟩ = some (.int .i64 0) ∧ W.cell? ⟨H, 7, none⟩ = some (.int .i64 0) ∧ W.cell? ⟨H, 8, none⟩ = some (.int .i64 (-1)) ∧ W.cell? ⟨H, 9, none⟩ = some (.int .i64 0) ∧ Below W0.heap.size W0 W), hS, (fun W h => h), ?_⟩
        simp only [Act.put, zp1, zp2, zp3]
        repeat (first
          | ((refine seq_skip (by rfl) (by rfl) ?_); simp only [Act.put, zp1, zp2, zp3])
          | ((refine seq_val (v := .slice A3 i c3) (by rfl) (by rfl) (fun w hS => run_sl (t := 24) (x := .tmp 56) (lo := none) (hi := some (.tmp 57)) (X := .slice A3 l.length c3) (LO := none) (HI := some (.int .i64 (i : Int))) rfl (by rfl) (by rfl) (by rfl) (HX0.out w)) ?_); simp only [Act.put, zp1, zp2, zp3])
          | ((refine seq_val (v := .slice A2 n2 d2) (by rfl) (by rfl) (fun w hS => run_sl (t := 24) (x := .tmp 64) (lo := some (.tmp 65)) (hi := none) (X := .slice A3 l.length c3) (LO := some (.int .i64 (i : Int))) (HI := none) rfl (by rfl) (by rfl) (by rfl) (HX1.out w)) ?_); simp only [Act.put, zp1, zp2, zp3])
          | ((refine seq_val (v := ?_) (by rfl) (by rfl) (fun w hS => ?_) ?_); rotate_left; (focus ((try dsimp only at hS); go_simp; (try (with_reducible rfl)); done)); simp only [Act.put, zp1, zp2, zp3]))
        refine seq_nil ?_
        dsimp only [List.drop]
        rw [bub_flat] at hown3
        have hlb : i + 1 + n2 = (bubL l Ad i).length := by rw [bub_len]; omega
        rw [hlb] at hown3 ⊢
        obtain ⟨g, hAg, hg0, hg1⟩ := own_at hown3 (by rw [bub_len]; omega)
        subst hAg
        have hgT : g ≠ T := by omega
        have hF := keep_fre hB (HS0.out.2.2.2.2.2.2.2.2.1)
        have fz : ∀ q, X5.frozen? ⟨T, q, none⟩ = false := hF.2
        have ct := hS.1
        have HROW := hide (own_mono hown3 hwW)
        have hBx := below_via (HS0.out.2.2.2.2.2.2.2.2.2) hB
        clear hown3
        go_wp2_with fail
        go_meet
        case rel => rw [HRB.out]; exact ⟨g, cq3, hgT, hide (ownsRow_setCell_other HROW.out (a := ⟨T, 1, none⟩) (fun e => hgT (Option.some.inj e)) _), sc2 _ (by omega) (keep_cell hB (HS0.out.1)), sc2 _ (by omega) (keep_cell hB (HS0.out.2.1)), sc2 _ (by omega) (keep_cell hB (HS0.out.2.2.1)), sc2 _ (by omega) (keep_cell hB (HS0.out.2.2.2.1)), sc2 _ (by omega) (keep_cell hB (HS0.out.2.2.2.2.1)), sf2 _ (keep_fre hB (HS0.out.2.2.2.2.2.1)), sc_off (by omega) (keep_cell hB (HS0.out.2.2.2.2.2.2.1)), sc_at ct, sf2 _ (keep_fre hB (HS0.out.2.2.2.2.2.2.2.2.1)), hBx.setCell (p := ⟨T, 1, none⟩) (by show _ ≤ T; omega) _⟩
      · refine all_seq_tail_core [1, 2, 3, 4, 6, 9, 10, 11, 12, 0, 5, 7, 8, 13, 14, 15] 14 (fun W => W.cell? ⟨T, 1, none⟩ = some (.slice A3 l.length c3) ∧ W.cell? ⟨H, 0, none⟩ = some (.int .i64 Ad) ∧ W.cell? ⟨H, 1, none⟩ = some (.bool false) ∧ W.cell? ⟨H, 2, none⟩ = some (.int .i64 0) ∧ W.cell? ⟨H, 3, none⟩ = some (.int .i64 0) ∧ W.cell? ⟨H, 4, none⟩ = some (.int .i64 (-1)) ∧ W.cell? ⟨H, 5, none⟩ = some (.bool false) ∧ W.cell? ⟨H, 6, none⟩ = some (.int .i64 0) ∧ W.cell? ⟨H, 7, none⟩ = some (.int .i64 0) ∧ W.cell? ⟨H, 8, none⟩ = some (.int .i64 (-1)) ∧ W.cell? ⟨H, 9, none⟩ = some (.int .i64 0) ∧ Below W0.heap.size W0 W) (Core.trans (addE_core 0 7 _) (addE_core 5 7 _)) (by kernel_rfl) hS ?_
        simp only [byNum, List.take, List.getElem?_cons_zero, List.getElem?_cons_succ]
        repeat (first
          | ((refine seq_skip (by rfl) (by rfl) ?_); simp only [Act.put, zp1, zp2, zp3])
          | ((refine seq_val (v := .slice A3 i c3) (by rfl) (by rfl) (fun w hS => run_sl (t := 24) (x := .tmp 56) (lo := none) (hi := some (.tmp 57)) (X := .slice A3 l.length c3) (LO := none) (HI := some (.int .i64 (i : Int))) rfl (by rfl) (by rfl) (by rfl) (HX0.out w)) ?_); simp only [Act.put, zp1, zp2, zp3])
          | ((refine seq_val (v := .slice A2 n2 d2) (by rfl) (by rfl) (fun w hS => run_sl (t := 24) (x := .tmp 64) (lo := some (.tmp 65)) (hi := none) (X := .slice A3 l.length c3) (LO := some (.int .i64 (i : Int))) (HI := none) rfl (by rfl) (by rfl) (by rfl) (HX1.out w)) ?_); simp only [Act.put, zp1, zp2, zp3])
          | ((refine seq_val (v := ?_) (by rfl) (by rfl) (fun w hS => ?_) ?_); rotate_left; (focus ((try dsimp only at hS); go_simp; (try (with_reducible rfl)); done)); simp only [Act.put, zp1, zp2, zp3]))
        refine seq_deed (v := ?_) (w' := ?_) (by rfl) (by rfl) ?_ ?_
        rotate_left
        rotate_left
        focus (go_simp; (constructor <;> (with_reducible rfl)); done)
        obtain ⟨X1, hX1⟩ : ∃ X, World.alloc W0 (.cells #[] 42) = X := ⟨_, rfl⟩
        rw [hX1]
        have hbx : Below W0.heap.size W0 X1 := by rw [← hX1]; go_grown
        have hl1 : W0.heap.size ≤ W0.heap.size := hB.size
        have hm1 : W0.heap.size < X1.heap.size := by rw [← hX1]; simp
        have hown0 : X1.ownsRow W0.heap.size 42 10 (.slice (some ⟨W0.heap.size, 0, none⟩) 0 0) 0 [] := by rw [← hX1]; exact own_empty _ rfl hl1
        have hS2 : X1.cell? ⟨T, 1, none⟩ = some (.slice A3 l.length c3) ∧ X1.cell? ⟨H, 0, none⟩ = some (.int .i64 Ad) ∧ X1.cell? ⟨H, 1, none⟩ = some (.bool false) ∧ X1.cell? ⟨H, 2, none⟩ = some (.int .i64 0) ∧ X1.cell? ⟨H, 3, none⟩ = some (.int .i64 0) ∧ X1.cell? ⟨H, 4, none⟩ = some (.int .i64 (-1)) ∧ X1.cell? ⟨H, 5, none⟩ = some (.bool false) ∧ X1.cell? ⟨H, 6, none⟩ = some (.int .i64 0) ∧ X1.cell? ⟨H, 7, none⟩ = some (.int .i64 0) ∧ X1.cell? ⟨H, 8, none⟩ = some (.int .i64 (-1)) ∧ X1.cell? ⟨H, 9, none⟩ = some (.int .i64 0) ∧ Below W0.heap.size W0 X1 := ⟨keep_cell hbx (hS.1), keep_cell hbx (hS.2.1), keep_cell hbx (hS.2.2.1), keep_cell hbx (hS.2.2.2.1), keep_cell hbx (hS.2.2.2.2.1), keep_cell hbx (hS.2.2.2.2.2.1), keep_cell hbx (hS.2.2.2.2.2.2.1), keep_cell hbx (hS.2.2.2.2.2.2.2.1), keep_cell hbx (hS.2.2.2.2.2.2.2.2.1), keep_cell hbx (hS.2.2.2.2.2.2.2.2.2.1), keep_cell hbx (hS.2.2.2.2.2.2.2.2.2.2.1), below_via hB hbx⟩
        clear hS hB
        have hS := hS2
        clear hS2
        have hB := hS.2.2.2.2.2.2.2.2.2.2.2
        clear hbx hX1
        refine ⟨(fun W => W.cell? ⟨T, 1, none⟩ = some (.slice A3 l.length c3) ∧ W.cell? ⟨H, 0, none⟩ = some (.int .i64 Ad) ∧ W.cell? ⟨H, 1, none⟩ = some (.bool false) ∧ W.cell? ⟨H, 2, none⟩ = some (.int .i64 0) ∧ W.cell? ⟨H, 3, none⟩ = some (.int .i64 0) ∧ W.cell? ⟨H, 4, none⟩ = some (.int .i64 (-1)) ∧ W.cell? ⟨H, 5, none⟩ = some (.bool false) ∧ W.cell? ⟨H, 6, none⟩ = some (.int .i64 0) ∧ W.cell? ⟨H, 7, none⟩ = some (.int .i64 0) ∧ W.cell? ⟨H, 8, none⟩ = some (.int .i64 (-1)) ∧ W.cell? ⟨H, 9, none⟩ = some (.int .i64 0) ∧ Below W0.heap.size W0 W), hS, (fun W h => h), ?_⟩
        simp only [Act.put, zp1, zp2, zp3]
        repeat (first
          | ((refine seq_skip (by rfl) (by rfl) ?_); simp only [Act.put, zp1, zp2, zp3])
          | ((refine seq_val (v := .slice A3 i c3) (by rfl) (by rfl) (fun w hS => run_sl (t := 24) (x := .tmp 56) (lo := none) (hi := some (.tmp 57)) (X := .slice A3 l.length c3) (LO := none) (HI := some (.int .i64 (i : Int))) rfl (by rfl) (by rfl) (by rfl) (HX0.out w)) ?_); simp only [Act.put, zp1, zp2, zp3])
          | ((refine seq_val (v := .slice A2 n2 d2) (by rfl) (by rfl) (fun w hS => run_sl (t := 24) (x := .tmp 64) (lo := some (.tmp 65)) (hi := none) (X := .slice A3 l.length c3) (LO := some (.int .i64 (i : Int))) (HI := none) rfl (by rfl) (by rfl) (by rfl) (HX1.out w)) ?_); simp only [Act.put, zp1, zp2, zp3])
          | ((refine seq_val (v := ?_) (by rfl) (by rfl) (fun w hS => ?_) ?_); rotate_left; (focus ((try dsimp only at hS); go_simp; (try (with_reducible rfl)); done)); simp only [Act.put, zp1, zp2, zp3]))
        refine seq_append _ (by rfl) (by rfl) _ _ 24 (by rfl) W0.heap.size 42 i0 (hdV nHd) 10 80 Try.underlying24 hi0 iz0 iy0 ix0 rfl (by decide) _ 0 [] (by rfl) hown0 X1.heap.size A3 i _ ((hds l).take (i * 10)) (by rfl) (Reads.front (reads_below HR0.out hB) hil) (fun e => by have := hn0 e; omega) (fun u hu => hds_one2 l u (List.mem_of_mem_take hu)) (by unfold maxLen; omega) (by omega) hB.size ?_
        intro Aq1 cq1 X2 hown1 hgrow
        rw [Nat.zero_add, List.nil_append] at hown1
        rw [Nat.zero_add]
        have hS2 : X2.cell? ⟨T, 1, none⟩ = some (.slice A3 l.length c3) ∧ X2.cell? ⟨H, 0, none⟩ = some (.int .i64 Ad) ∧ X2.cell? ⟨H, 1, none⟩ = some (.bool false) ∧ X2.cell? ⟨H, 2, none⟩ = some (.int .i64 0) ∧ X2.cell? ⟨H, 3, none⟩ = some (.int .i64 0) ∧ X2.cell? ⟨H, 4, none⟩ = some (.int .i64 (-1)) ∧ X2.cell? ⟨H, 5, none⟩ = some (.bool false) ∧ X2.cell? ⟨H, 6, none⟩ = some (.int .i64 0) ∧ X2.cell? ⟨H, 7, none⟩ = some (.int .i64 0) ∧ X2.cell? ⟨H, 8, none⟩ = some (.int .i64 (-1)) ∧ X2.cell? ⟨H, 9, none⟩ = some (.int .i64 0) ∧ Below W0.heap.size W0 X2 := ⟨own_cell hown0 hgrow (hS.1) (by show _ < W0.heap.size; omega), own_cell hown0 hgrow (hS.2.1) (by show _ < W0.heap.size; omega), own_cell hown0 hgrow (hS.2.2.1) (by show _ < W0.heap.size; omega), own_cell hown0 hgrow (hS.2.2.2.1) (by show _ < W0.heap.size; omega), own_cell hown0 hgrow (hS.2.2.2.2.1) (by show _ < W0.heap.size; omega), own_cell hown0 hgrow (hS.2.2.2.2.2.1) (by show _ < W0.heap.size; omega), own_cell hown0 hgrow (hS.2.2.2.2.2.2.1) (by show _ < W0.heap.size; omega), own_cell hown0 hgrow (hS.2.2.2.2.2.2.2.1) (by show _ < W0.heap.size; omega), own_cell hown0 hgrow (hS.2.2.2.2.2.2.2.2.1) (by show _ < W0.heap.size; omega), own_cell hown0 hgrow (hS.2.2.2.2.2.2.2.2.2.1) (by show _ < W0.heap.size; omega), own_cell hown0 hgrow (hS.2.2.2.2.2.2.2.2.2.2.1) (by show _ < W0.heap.size; omega), own_grown hown0 hgrow hB hB.size (Nat.le_refl _)⟩
        clear hS hB
        have hS := hS2
        clear hS2
        have hB := hS.2.2.2.2.2.2.2.2.2.2.2
        clear hgrow hown0
        refine ⟨(fun W => W.cell? ⟨T, 1, none⟩ = some (.slice A3 l.length c3) ∧ W.cell? ⟨H, 0, none⟩ = some (.int .i64 Ad) ∧ W.cell? ⟨H, 1, none⟩ = some (.bool false) ∧ W.cell? ⟨H, 2, none⟩ = some (.int .i64 0) ∧ W.cell? ⟨H, 3, none⟩ = some (.int .i64 0) ∧ W.cell? ⟨H, 4, none⟩ = some (.int .i64 (-1)) ∧ W.cell? ⟨H, 5, none⟩ = some (.bool false) ∧ W.cell? ⟨H, 6, none⟩ = some (.int .i64 0) ∧ W.cell? ⟨H, 7, none⟩ = some (.int .i64 0) ∧ W.cell? ⟨H, 8, none⟩ = some (.int .i64 (-1)) ∧ W.cell? ⟨H, 9, none⟩ = some (.int .i64 0) ∧ Below W0.heap.size W0 W), hS, (fun W h => h), ?_⟩
        simp only [Act.put, zp1, zp2, zp3]
        repeat (first
          | ((refine seq_skip (by rfl) (by rfl) ?_); simp only [Act.put, zp1, zp2, zp3])
          | ((refine seq_val (v := .slice A3 i c3) (by rfl) (by rfl) (fun w hS => run_sl (t := 24) (x := .tmp 56) (lo := none) (hi := some (.tmp 57)) (X := .slice A3 l.length c3) (LO := none) (HI := some (.int .i64 (i : Int))) rfl (by rfl) (by rfl) (by rfl) (HX0.out w)) ?_); simp only [Act.put, zp1, zp2, zp3])
          | ((refine seq_val (v := .slice A2 n2 d2) (by rfl) (by rfl) (fun w hS => run_sl (t := 24) (x := .tmp 64) (lo := some (.tmp 65)) (hi := none) (X := .slice A3 l.length c3) (LO := some (.int .i64 (i : Int))) (HI := none) rfl (by rfl) (by rfl) (by rfl) (HX1.out w)) ?_); simp only [Act.put, zp1, zp2, zp3])
          | ((refine seq_val (v := ?_) (by rfl) (by rfl) (fun w hS => ?_) ?_); rotate_left; (focus ((try dsimp only at hS); go_simp; (try (with_reducible rfl)); done)); simp only [Act.put, zp1, zp2, zp3]))
        refine seq_deed (v := ?_) (w' := ?_) (by rfl) (by rfl) ?_ ?_
        rotate_left
        rotate_left
        focus (go_simp; (constructor <;> (with_reducible rfl)); done)
        obtain ⟨X3, hX3⟩ : ∃ X, World.alloc X2 (.cells #[.int .i64 Ad, .bool false, .int .i64 0, .int .i64 0, .int .i64 (-1), .bool false, .int .i64 0, .int .i64 0, .int .i64 (-1), .int .i64 0] 42) = X := ⟨_, rfl⟩
        rw [hX3]
        have hbx : Below X2.heap.size X2 X3 := by rw [← hX3]; go_grown
        have hl3 : W0.heap.size ≤ X2.heap.size := hB.size
        have hm3 : X2.heap.size < X3.heap.size := by rw [← hX3]; simp
        have hown1b := own_below hown1 hbx
        clear hown1
        have hown1 := hown1b
        clear hown1b
        have HNW := hide (show Reads X3 X3.heap.size 10 (some ⟨X2.heap.size, 0, none⟩) 1 (hdc (nwH Ad)) from by rw [← hX3]; exact reads_alloc X2 (hdc (nwH Ad)) 42)
        have hS2 : X3.cell? ⟨T, 1, none⟩ = some (.slice A3 l.length c3) ∧ X3.cell? ⟨H, 0, none⟩ = some (.int .i64 Ad) ∧ X3.cell? ⟨H, 1, none⟩ = some (.bool false) ∧ X3.cell? ⟨H, 2, none⟩ = some (.int .i64 0) ∧ X3.cell? ⟨H, 3, none⟩ = some (.int .i64 0) ∧ X3.cell? ⟨H, 4, none⟩ = some (.int .i64 (-1)) ∧ X3.cell? ⟨H, 5, none⟩ = some (.bool false) ∧ X3.cell? ⟨H, 6, none⟩ = some (.int .i64 0) ∧ X3.cell? ⟨H, 7, none⟩ = some (.int .i64 0) ∧ X3.cell? ⟨H, 8, none⟩ = some (.int .i64 (-1)) ∧ X3.cell? ⟨H, 9, none⟩ = some (.int .i64 0) ∧ Below W0.heap.size W0 X3 := ⟨keep_cell hbx (hS.1), keep_cell hbx (hS.2.1), keep_cell hbx (hS.2.2.1), keep_cell hbx (hS.2.2.2.1), keep_cell hbx (hS.2.2.2.2.1), keep_cell hbx (hS.2.2.2.2.2.1), keep_cell hbx (hS.2.2.2.2.2.2.1), keep_cell hbx (hS.2.2.2.2.2.2.2.1), keep_cell hbx (hS.2.2.2.2.2.2.2.2.1), keep_cell hbx (hS.2.2.2.2.2.2.2.2.2.1), keep_cell hbx (hS.2.2.2.2.2.2.2.2.2.2.1), below_via hB hbx⟩
        clear hS hB
        have hS := hS2
        clear hS2
        have hB := hS.2.2.2.2.2.2.2.2.2.2.2
        clear hbx hX3
        refine ⟨(fun W => W.cell? ⟨T, 1, none⟩ = some (.slice A3 l.length c3) ∧ W.cell? ⟨H, 0, none⟩ = some (.int .i64 Ad) ∧ W.cell? ⟨H, 1, none⟩ = some (.bool false) ∧ W.cell? ⟨H, 2, none⟩ = some (.int .i64 0) ∧ W.cell? ⟨H, 3, none⟩ = some (.int .i64 0) ∧ W.cell? ⟨H, 4, none⟩ = some (.int .i64 (-1)) ∧ W.cell? ⟨H, 5, none⟩ = some (.bool false) ∧ W.cell? ⟨H, 6, none⟩ = some (.int .i64 0) ∧ W.cell? ⟨H, 7, none⟩ = some (.int .i64 0) ∧ W.cell? ⟨H, 8, none⟩ = some (.int .i64 (-1)) ∧ W.cell? ⟨H, 9, none⟩ = some (.int .i64 0) ∧ Below W0.heap.size W0 W), hS, (fun W h => h), ?_⟩
        simp only [Act.put, zp1, zp2, zp3]
        repeat (first
          | ((refine seq_skip (by rfl) (by rfl) ?_); simp only [Act.put, zp1, zp2, zp3])
          | ((refine seq_val (v := .slice A3 i c3) (by rfl) (by rfl) (fun w hS => run_sl (t := 24) (x := .tmp 56) (lo := none) (hi := some (.tmp 57)) (X := .slice A3 l.length c3) (LO := none) (HI := some (.int .i64 (i : Int))) rfl (by rfl) (by rfl) (by rfl) (HX0.out w)) ?_); simp only [Act.put, zp1, zp2, zp3])
          | ((refine seq_val (v := .slice A2 n2 d2) (by rfl) (by rfl) (fun w hS => run_sl (t := 24) (x := .tmp 64) (lo := some (.tmp 65)) (hi := none) (X := .slice A3 l.length c3) (LO := some (.int .i64 (i : Int))) (HI := none) rfl (by rfl) (by rfl) (by rfl) (HX1.out w)) ?_); simp only [Act.put, zp1, zp2, zp3])
          | ((refine seq_val (v := ?_) (by rfl) (by rfl) (fun w hS => ?_) ?_); rotate_left; (focus ((try dsimp only at hS); go_simp; (try (with_reducible rfl)); done)); simp only [Act.put, zp1, zp2, zp3]))
        refine seq_append _ (by rfl) (by rfl) _ _ 24 (by rfl) W0.heap.size 42 i0 (hdV nHd) 10 80 Try.underlying24 hi0 iz0 iy0 ix0 rfl (by decide) _ i ((hds l).take (i * 10)) (by rfl) hown1 X3.heap.size (some ⟨X2.heap.size, 0, none⟩) 1 _ (hdc (nwH Ad)) (by rfl) HNW.out (fun e => by cases e) (one_ten rfl rfl rfl rfl rfl rfl rfl rfl rfl rfl) (by unfold maxLen; omega) (by omega) hB.size ?_
        intro Aq2 cq2 X4 hown2 hgrow
        have hS2 : X4.cell? ⟨T, 1, none⟩ = some (.slice A3 l.length c3) ∧ X4.cell? ⟨H, 0, none⟩ = some (.int .i64 Ad) ∧ X4.cell? ⟨H, 1, none⟩ = some (.bool false) ∧ X4.cell? ⟨H, 2, none⟩ = some (.int .i64 0) ∧ X4.cell? ⟨H, 3, none⟩ = some (.int .i64 0) ∧ X4.cell? ⟨H, 4, none⟩ = some (.int .i64 (-1)) ∧ X4.cell? ⟨H, 5, none⟩ = some (.bool false) ∧ X4.cell? ⟨H, 6, none⟩ = some (.int .i64 0) ∧ X4.cell? ⟨H, 7, none⟩ = some (.int .i64 0) ∧ X4.cell? ⟨H, 8, none⟩ = some (.int .i64 (-1)) ∧ X4.cell? ⟨H, 9, none⟩ = some (.int .i64 0) ∧ Below W0.heap.size W0 X4 := ⟨own_cell hown1 hgrow (hS.1) (by show _ < W0.heap.size; omega), own_cell hown1 hgrow (hS.2.1) (by show _ < W0.heap.size; omega), own_cell hown1 hgrow (hS.2.2.1) (by show _ < W0.heap.size; omega), own_cell hown1 hgrow (hS.2.2.2.1) (by show _ < W0.heap.size; omega), own_cell hown1 hgrow (hS.2.2.2.2.1) (by show _ < W0.heap.size; omega), own_cell hown1 hgrow (hS.2.2.2.2.2.1) (by show _ < W0.heap.size; omega), own_cell hown1 hgrow (hS.2.2.2.2.2.2.1) (by show _ < W0.heap.size; omega), own_cell hown1 hgrow (hS.2.2.2.2.2.2.2.1) (by show _ < W0.heap.size; omega), own_cell hown1 hgrow (hS.2.2.2.2.2.2.2.2.1) (by show _ < W0.heap.size; omega), own_cell hown1 hgrow (hS.2.2.2.2.2.2.2.2.2.1) (by show _ < W0.heap.size; omega), own_cell hown1 hgrow (hS.2.2.2.2.2.2.2.2.2.2.1) (by show _ < W0.heap.size; omega), own_grown hown1 hgrow hB hB.size (Nat.le_refl _)⟩
        clear hS hB
        have hS := hS2
        clear hS2
        have hB := hS.2.2.2.2.2.2.2.2.2.2.2
        clear hgrow hown1 HNW
        refine ⟨(fun W => W.cell? ⟨T, 1, none⟩ = some (.slice A3 l.length c3) ∧ W.cell? ⟨H, 0, none⟩ = some (.int .i64 Ad) ∧ W.cell? ⟨H, 1, none⟩ = some (.bool false) ∧ W.cell? ⟨H, 2, none⟩ = some (.int .i64 0) ∧ W.cell? ⟨H, 3, none⟩ = some (.int .i64 0) ∧ W.cell? ⟨H, 4, none⟩ = some (.int .i64 (-1)) ∧ W.cell? ⟨H, 5, none⟩ = some (.bool false) ∧ W.cell? ⟨H, 6, none⟩ = some (.int .i64 0) ∧ W.cell? ⟨H, 7, none⟩ = some (.int .i64 0) ∧ W.cell? ⟨H, 8, none⟩ = some (.int .i64 (-1)) ∧ W.cell? ⟨H, 9, none⟩ = some (.int .i64 0) ∧ Below W0.heap.size W0 W), hS, (fun W h => h), ?_⟩
        simp only [Act.put, zp1, zp2, zp3]
        repeat (first
          | ((refine seq_skip (by rfl) (by rfl) ?_); simp only [Act.put, zp1, zp2, zp3])
          | ((refine seq_val (v := .slice A3 i c3) (by rfl) (by rfl) (fun w hS => run_sl (t := 24) (x := .tmp 56) (lo := none) (hi := some (.tmp 57)) (X := .slice A3 l.length c3) (LO := none) (HI := some (.int .i64 (i : Int))) rfl (by rfl) (by rfl) (by rfl) (HX0.out w)) ?_); simp only [Act.put, zp1, zp2, zp3])
          | ((refine seq_val (v := .slice A2 n2 d2) (by rfl) (by rfl) (fun w hS => run_sl (t := 24) (x := .tmp 64) (lo := some (.tmp 65)) (hi := none) (X := .slice A3 l.length c3) (LO := some (.int .i64 (i : Int))) (HI := none) rfl (by rfl) (by rfl) (by rfl) (HX1.out w)) ?_); simp only [Act.put, zp1, zp2, zp3])
          | ((refine seq_val (v := ?_) (by rfl) (by rfl) (fun w hS => ?_) ?_); rotate_left; (focus ((try dsimp only at hS); go_simp; (try (with_reducible rfl)); done)); simp only [Act.put, zp1, zp2, zp3]))
        refine seq_append _ (by rfl) (by rfl) _ _ 24 (by rfl) W0.heap.size 42 i0 (hdV nHd) 10 80 Try.underlying24 hi0 iz0 iy0 ix0 rfl (by decide) _ (i + 1) ((hds l).take (i * 10) ++ hdc (nwH Ad)) (by rfl) hown2 X4.heap.size A2 n2 _ ((hds l).drop (i * 10)) (by rfl) ((HRB2.out.below hB).more hB.size) HN2.out (fun u hu => hds_one2 l u (List.mem_of_mem_drop hu)) (by unfold maxLen; omega) (by omega) hB.size ?_
        intro Aq3 cq3 X5 hown3 hgrow
        have hS2 : X5.cell? ⟨T, 1, none⟩ = some (.slice A3 l.length c3) ∧ X5.cell? ⟨H, 0, none⟩ = some (.int .i64 Ad) ∧ X5.cell? ⟨H, 1, none⟩ = some (.bool false) ∧ X5.cell? ⟨H, 2, none⟩ = some (.int .i64 0) ∧ X5.cell? ⟨H, 3, none⟩ = some (.int .i64 0) ∧ X5.cell? ⟨H, 4, none⟩ = some (.int .i64 (-1)) ∧ X5.cell? ⟨H, 5, none⟩ = some (.bool false) ∧ X5.cell? ⟨H, 6, none⟩ = some (.int .i64 0) ∧ X5.cell? ⟨H, 7, none⟩ = some (.int .i64 0) ∧ X5.cell? ⟨H, 8, none⟩ = some (.int .i64 (-1)) ∧ X5.cell? ⟨H, 9, none⟩ = some (.int .i64 0) ∧ Below W0.heap.size W0 X5 := ⟨own_cell hown2 hgrow (hS.1) (by show _ < W0.heap.size; omega), own_cell hown2 hgrow (hS.2.1) (by show _ < W0.heap.size; omega), own_cell hown2 hgrow (hS.2.2.1) (by show _ < W0.heap.size; omega), own_cell hown2 hgrow (hS.2.2.2.1) (by show _ < W0.heap.size; omega), own_cell hown2 hgrow (hS.2.2.2.2.1) (by show _ < W0.heap.size; omega), own_cell hown2 hgrow (hS.2.2.2.2.2.1) (by show _ < W0.heap.size; omega), own_cell hown2 hgrow (hS.2.2.2.2.2.2.1) (by show _ < W0.heap.size; omega), own_cell hown2 hgrow (hS.2.2.2.2.2.2.2.1) (by show _ < W0.heap.size; omega), own_cell hown2 hgrow (hS.2.2.2.2.2.2.2.2.1) (by show _ < W0.heap.size; omega), own_cell hown2 hgrow (hS.2.2.2.2.2.2.2.2.2.1) (by show _ < W0.heap.size; omega), own_cell hown2 hgrow (hS.2.2.2.2.2.2.2.2.2.2.1) (by show _ < W0.heap.size; omega), own_grown hown2 hgrow hB hB.size (Nat.le_refl _)⟩
        clear hS hB
        have hS := hS2
        clear hS2
        have hB := hS.2.2.2.2.2.2.2.2.2.2.2
        clear hgrow hown2
        refine ⟨(fun W => W.cell? ⟨T, 1, none⟩ = some (.slice A3 l.length c3) ∧ W.cell? ⟨H, 0, none⟩ = some (.int .i64 Ad) ∧ W.cell? ⟨H, 1, none⟩ = some (.bool false) ∧ W.cell? ⟨H, 2, none⟩ = some (.int .i64 0) ∧ W.cell? ⟨H, 3, none⟩ = some (.int .i64 0) ∧ W.cell? ⟨H, 4, none⟩ = some (.int .i64 (-1)) ∧ W.cell? ⟨H, 5, none⟩ = some (.bool false) ∧ W.cell? ⟨H, 6, none⟩ = some (.int .i64 0) ∧ W.cell? ⟨H, 7, none⟩ = some (.int .i64 0) ∧ W.cell? ⟨H, 8, none⟩ = some (.int .i64 (-1)) ∧ W.cell? ⟨H, 9, none⟩ = some (.int .i64 0) ∧ Below W0.heap.size W0 W), hS, (fun W h => h), ?_⟩
        simp only [Act.put, zp1, zp2, zp3]
        repeat (first
          | ((refine seq_skip (by rfl) (by rfl) ?_); simp only [Act.put, zp1, zp2, zp3])
          | ((refine seq_val (v := .slice A3 i c3) (by rfl) (by rfl) (fun w hS => run_sl (t := 24) (x := .tmp 56) (lo := none) (hi := some (.tmp 57)) (X := .slice A3 l.length c3) (LO := none) (HI := some (.int .i64 (i : Int))) rfl (by rfl) (by rfl) (by rfl) (HX0.out w)) ?_); simp only [Act.put, zp1, zp2, zp3])
          | ((refine seq_val (v := .slice A2 n2 d2) (by rfl) (by rfl) (fun w hS => run_sl (t := 24) (x := .tmp 64) (lo := some (.tmp 65)) (hi := none) (X := .slice A3 l.length c3) (LO := some (.int .i64 (i : Int))) (HI := none) rfl (by rfl) (by rfl) (by rfl) (HX1.out w)) ?_); simp only [Act.put, zp1, zp2, zp3])
          | ((refine seq_val (v := ?_) (by rfl) (by rfl) (fun w hS => ?_) ?_); rotate_left; (focus ((try dsimp only at hS); go_simp; (try (with_reducible rfl)); done)); simp only [Act.put, zp1, zp2, zp3]))
        refine seq_nil ?_
        dsimp only [List.drop]
        rw [bub_flat] at hown3
        have hlb : i + 1 + n2 = (bubL l Ad i).length := by rw [bub_len]; omega
        rw [hlb] at hown3 ⊢
        obtain ⟨g, hAg, hg0, hg1⟩ := own_at hown3 (by rw [bub_len]; omega)
        subst hAg
        have hgT : g ≠ T := by omega
        have hF := keep_fre hB (HS0.out.2.2.2.2.2.2.2.2.1)
        have fz : ∀ q, X5.frozen? ⟨T, q, none⟩ = false := hF.2
        have ct := hS.1
        have HROW := hide (own_mono hown3 hwW)
        have hBx := below_via (HS0.out.2.2.2.2.2.2.2.2.2) hB
        clear hown3
        go_wp2_with fail
        go_meet
        case rel => rw [HRB.out]; exact ⟨g, cq3, hgT, hide (ownsRow_setCell_other HROW.out (a := ⟨T, 1, none⟩) (fun e => hgT (Option.some.inj e)) _), sc2 _ (by omega) (keep_cell hB (HS0.out.1)), sc2 _ (by omega) (keep_cell hB (HS0.out.2.1)), sc2 _ (by omega) (keep_cell hB (HS0.out.2.2.1)), sc2 _ (by omega) (keep_cell hB (HS0.out.2.2.2.1)), sc2 _ (by omega) (keep_cell hB (HS0.out.2.2.2.2.1)), sf2 _ (keep_fre hB (HS0.out.2.2.2.2.2.1)), sc_off (by omega) (keep_cell hB (HS0.out.2.2.2.2.2.2.1)), sc_at ct, sf2 _ (keep_fre hB (HS0.out.2.2.2.2.2.2.2.2.1)), hBx.setCell (p := ⟨T, 1, none⟩) (by show _ ≤ T; omega) _⟩
  (try clear hS)
  (try clear HROW)
  (try clear hzw)
  (try clear hB)
  (try clear hT9)
  obtain ⟨g, cp, hgT, HROW, hS⟩ := hcut
  have hkl := rcB_at Ad l
  have hll := rcB_len Ad l
  have hff := rcB_f (A := Ad) HOK.out
  rw [HI9.out] at hkl hff
  obtain ⟨L, hL⟩ : ∃ q, rcB Ad l = q := ⟨_, rfl⟩
  have HVL := hide (show rcL t Ad K Dt l = L.set i (upH t K Dt (hx L i)) from by unfold rcL; rw [hL, HI9.out])
  rw [hL] at HROW hS hll hkl hff
  clear hL
  obtain ⟨⟨a, ⟨eo, ea, eb⟩, et, ⟨oo, oa, ob⟩, ot, f⟩, he⟩ : ∃ q, hx L i = q := ⟨_, rfl⟩
  rw [he] at HVL hff
  have HE := hide he
  clear he
  have hf0 : 0 ≤ f := hff.1
  have hf1 : f ≤ 9999 := hff.2
  clear hff
  have ef : IntKind.i64.wrap (f + 1) = f + 1 := IntWalk.i64_in _ (by omega)
  have c0 : wc.cell? ⟨g, i * 10, none⟩ = some (.int .i64 a) := row_cell (j := 0) HROW.out rfl hkl (by omega) (by rw [HE.out]; rfl)
  have c1 : wc.cell? ⟨g, i * 10 + 1, none⟩ = some (.bool eo) := row_cell (j := 1) HROW.out rfl hkl (by omega) (by rw [HE.out]; rfl)
  have c2 : wc.cell? ⟨g, i * 10 + 2, none⟩ = some (.int .i64 ea) := row_cell (j := 2) HROW.out rfl hkl (by omega) (by rw [HE.out]; rfl)
  have c3 : wc.cell? ⟨g, i * 10 + 3, none⟩ = some (.int .i64 eb) := row_cell (j := 3) HROW.out rfl hkl (by omega) (by rw [HE.out]; rfl)
  have c4 : wc.cell? ⟨g, i * 10 + 4, none⟩ = some (.int .i64 et) := row_cell (j := 4) HROW.out rfl hkl (by omega) (by rw [HE.out]; rfl)
  have c5 : wc.cell? ⟨g, i * 10 + 5, none⟩ = some (.bool oo) := row_cell (j := 5) HROW.out rfl hkl (by omega) (by rw [HE.out]; rfl)
  have c6 : wc.cell? ⟨g, i * 10 + 6, none⟩ = some (.int .i64 oa) := row_cell (j := 6) HROW.out rfl hkl (by omega) (by rw [HE.out]; rfl)
  have c7 : wc.cell? ⟨g, i * 10 + 7, none⟩ = some (.int .i64 ob) := row_cell (j := 7) HROW.out rfl hkl (by omega) (by rw [HE.out]; rfl)
  have c8 : wc.cell? ⟨g, i * 10 + 8, none⟩ = some (.int .i64 ot) := row_cell (j := 8) HROW.out rfl hkl (by omega) (by rw [HE.out]; rfl)
  have c9 : wc.cell? ⟨g, i * 10 + 9, none⟩ = some (.int .i64 f) := row_cell (j := 9) HROW.out rfl hkl (by omega) (by rw [HE.out]; rfl)
  have hg0 : w.heap.size + 3 ≤ g := (HROW.out.lt g rfl).1
  have hTg : T ≠ g := fun e => hgT e.symm
  obtain ⟨Y, hY⟩ : ∃ q, upH t K Dt (a, (eo, ea, eb), et, (oo, oa, ob), ot, f) = q := ⟨_, rfl⟩
  rw [hY] at HVL
  have HY := hide hY
  clear hY
  go_upto_region 10 with fail
  obtain ⟨H, hH⟩ : ∃ q, wc.heap.size = q := ⟨_, rfl⟩
  obtain ⟨X9, hX9⟩ : ∃ X, World.alloc wc (.cells #[.int .i64 a, .bool eo, .int .i64 ea, .int .i64 eb, .int .i64 et, .bool oo, .int .i64 oa, .int .i64 ob, .int .i64 ot, .int .i64 (f + 1)] 42) = X := ⟨_, rfl⟩
  rw [hX9, hH]
  have hbx : Below wc.heap.size wc X9 := by rw [← hX9]; go_grown
  have HR9 := hide (own_below HROW.out hbx)
  have hS9 : X9.cell? ⟨w.heap.size + 1, 0, none⟩ = some (.int .i64 K) ∧ X9.cell? ⟨w.heap.size + 1, 1, none⟩ = some (.int .i64 Ad) ∧ X9.cell? ⟨w.heap.size + 1, 2, none⟩ = some (.int .i64 Dt) ∧ X9.cell? ⟨w.heap.size + 2, 0, none⟩ = some (.int .i64 0) ∧ X9.cell? ⟨w.heap.size + 2, 1, none⟩ = some (.slice none 0 0) ∧ (w.heap.size + 2 < X9.heap.size ∧ ∀ i, X9.frozen? ⟨w.heap.size + 2, i, none⟩ = false) ∧ X9.cell? ⟨T, 0, none⟩ = some (.int .i64 t) ∧ X9.cell? ⟨T, 1, none⟩ = some (.slice (some ⟨g, 0, none⟩) L.length cp) ∧ (T < X9.heap.size ∧ ∀ i, X9.frozen? ⟨T, i, none⟩ = false) ∧ X9.cell? ⟨H, 0, none⟩ = some (.int .i64 a) ∧ X9.cell? ⟨H, 1, none⟩ = some (.bool eo) ∧ X9.cell? ⟨H, 2, none⟩ = some (.int .i64 ea) ∧ X9.cell? ⟨H, 3, none⟩ = some (.int .i64 eb) ∧ X9.cell? ⟨H, 4, none⟩ = some (.int .i64 et) ∧ X9.cell? ⟨H, 5, none⟩ = some (.bool oo) ∧ X9.cell? ⟨H, 6, none⟩ = some (.int .i64 oa) ∧ X9.cell? ⟨H, 7, none⟩ = some (.int .i64 ob) ∧ X9.cell? ⟨H, 8, none⟩ = some (.int .i64 ot) ∧ X9.cell? ⟨H, 9, none⟩ = some (.int .i64 (f + 1)) ∧ (H < X9.heap.size ∧ ∀ i, X9.frozen? ⟨H, i, none⟩ = false) ∧ Below w.heap.size w X9 := ⟨keep_cell hbx (hS.1), keep_cell hbx (hS.2.1), keep_cell hbx (hS.2.2.1), keep_cell hbx (hS.2.2.2.1), keep_cell hbx (hS.2.2.2.2.1), keep_fre hbx (hS.2.2.2.2.2.1), keep_cell hbx (hS.2.2.2.2.2.2.1), keep_cell hbx (hS.2.2.2.2.2.2.2.1), keep_fre hbx (hS.2.2.2.2.2.2.2.2.1), (by rw [← hX9, ← hH]; simp [go_sem]), (by rw [← hX9, ← hH]; simp [go_sem]), (by rw [← hX9, ← hH]; simp [go_sem]), (by rw [← hX9, ← hH]; simp [go_sem]), (by rw [← hX9, ← hH]; simp [go_sem]), (by rw [← hX9, ← hH]; simp [go_sem]), (by rw [← hX9, ← hH]; simp [go_sem]), (by rw [← hX9, ← hH]; simp [go_sem]), (by rw [← hX9, ← hH]; simp [go_sem]), (by rw [← hX9, ← hH]; simp [go_sem]), ⟨(by rw [← hX9, ← hH]; simp), (by rw [← hX9, ← hH]; simp [go_sem])⟩, below_via (hS.2.2.2.2.2.2.2.2.2) hbx⟩
  have hHg : g < H := by rw [← hH]; exact (HROW.out.lt g rfl).2
  have hHT : T < H := by rw [← hH]; exact (hS.2.2.2.2.2.2.2.2.1).1
  have hHw : w.heap.size + 2 < H := by omega
  have hgH : g ≠ H := by omega
  clear hbx hX9 hH hS HROW c0 c1 c2 c3 c4 c5 c6 c7 c8 c9
  have hS := hS9
  clear hS9
  have hB := hS.2.2.2.2.2.2.2.2.2.2.2.2.2.2.2.2.2.2.2.2
  have hzw : w.heap.size ≤ X9.heap.size := hB.size
  go_upto_region 11 with (first | (go_at_call 100; refine (l7Unpack_c Dt _).mono ?_; rintro e w9 ⟨rfl, hb⟩; have hT : w9.cell? ⟨w.heap.size + 1, 0, none⟩ = some (.int .i64 K) ∧ w9.cell? ⟨w.heap.size + 1, 1, none⟩ = some (.int .i64 Ad) ∧ w9.cell? ⟨w.heap.size + 1, 2, none⟩ = some (.int .i64 Dt) ∧ w9.cell? ⟨w.heap.size + 2, 0, none⟩ = some (.int .i64 0) ∧ w9.cell? ⟨w.heap.size + 2, 1, none⟩ = some (.slice none 0 0) ∧ (w.heap.size + 2 < w9.heap.size ∧ ∀ i, w9.frozen? ⟨w.heap.size + 2, i, none⟩ = false) ∧ w9.cell? ⟨T, 0, none⟩ = some (.int .i64 t) ∧ w9.cell? ⟨T, 1, none⟩ = some (.slice (some ⟨g, 0, none⟩) L.length cp) ∧ (T < w9.heap.size ∧ ∀ i, w9.frozen? ⟨T, i, none⟩ = false) ∧ w9.cell? ⟨H, 0, none⟩ = some (.int .i64 a) ∧ w9.cell? ⟨H, 1, none⟩ = some (.bool eo) ∧ w9.cell? ⟨H, 2, none⟩ = some (.int .i64 ea) ∧ w9.cell? ⟨H, 3, none⟩ = some (.int .i64 eb) ∧ w9.cell? ⟨H, 4, none⟩ = some (.int .i64 et) ∧ w9.cell? ⟨H, 5, none⟩ = some (.bool oo) ∧ w9.cell? ⟨H, 6, none⟩ = some (.int .i64 oa) ∧ w9.cell? ⟨H, 7, none⟩ = some (.int .i64 ob) ∧ w9.cell? ⟨H, 8, none⟩ = some (.int .i64 ot) ∧ w9.cell? ⟨H, 9, none⟩ = some (.int .i64 (f + 1)) ∧ (H < w9.heap.size ∧ ∀ i, w9.frozen? ⟨H, i, none⟩ = false) ∧ Below w.heap.size w w9 := (fun W h hb => ⟨keep_cell (hb) h.1, keep_cell (hb) h.2.1, keep_cell (hb) h.2.2.1, keep_cell (hb) h.2.2.2.1, keep_cell (hb) h.2.2.2.2.1, keep_fre (hb) h.2.2.2.2.2.1, keep_cell (hb) h.2.2.2.2.2.2.1, keep_cell (hb) h.2.2.2.2.2.2.2.1, keep_fre (hb) h.2.2.2.2.2.2.2.2.1, keep_cell (hb) h.2.2.2.2.2.2.2.2.2.1, keep_cell (hb) h.2.2.2.2.2.2.2.2.2.2.1, keep_cell (hb) h.2.2.2.2.2.2.2.2.2.2.2.1, keep_cell (hb) h.2.2.2.2.2.2.2.2.2.2.2.2.1, keep_cell (hb) h.2.2.2.2.2.2.2.2.2.2.2.2.2.1, keep_cell (hb) h.2.2.2.2.2.2.2.2.2.2.2.2.2.2.1, keep_cell (hb) h.2.2.2.2.2.2.2.2.2.2.2.2.2.2.2.1, keep_cell (hb) h.2.2.2.2.2.2.2.2.2.2.2.2.2.2.2.2.1, keep_cell (hb) h.2.2.2.2.2.2.2.2.2.2.2.2.2.2.2.2.2.1, keep_cell (hb) h.2.2.2.2.2.2.2.2.2.2.2.2.2.2.2.2.2.2.1, keep_fre (hb) h.2.2.2.2.2.2.2.2.2.2.2.2.2.2.2.2.2.2.2.1, below_via h.2.2.2.2.2.2.2.2.2.2.2.2.2.2.2.2.2.2.2.2 (hb)⟩ : ∀ W : World, (W.cell? ⟨w.heap.size + 1, 0, none⟩ = some (.int .i64 K) ∧ W.cell? ⟨w.heap.size + 1, 1, none⟩ = some (.int .i64 Ad) ∧ W.cell? ⟨w.heap.size + 1, 2, none⟩ = some (.int .i64 Dt) ∧ W.cell? ⟨w.heap.size + 2, 0, none⟩ = some (.int .i64 0) ∧ W.cell? ⟨w.heap.size + 2, 1, none⟩ = some (.slice none 0 0) ∧ (w.heap.size + 2 < W.heap.size ∧ ∀ i, W.frozen? ⟨w.heap.size + 2, i, none⟩ = false) ∧ W.cell? ⟨T, 0, none⟩ = some (.int .i64 t) ∧ W.cell? ⟨T, 1, none⟩ = some (.slice (some ⟨g, 0, none⟩) L.length cp) ∧ (T < W.heap.size ∧ ∀ i, W.frozen? ⟨T, i, none⟩ = false) ∧ W.cell? ⟨H, 0, none⟩ = some (.int .i64 a) ∧ W.cell? ⟨H, 1, none⟩ = some (.bool eo) ∧ W.cell? ⟨H, 2, none⟩ = some (.int .i64 ea) ∧ W.cell? ⟨H, 3, none⟩ = some (.int .i64 eb) ∧ W.cell? ⟨H, 4, none⟩ = some (.int .i64 et) ∧ W.cell? ⟨H, 5, none⟩ = some (.bool oo) ∧ W.cell? ⟨H, 6, none⟩ = some (.int .i64 oa) ∧ W.cell? ⟨H, 7, none⟩ = some (.int .i64 ob) ∧ W.cell? ⟨H, 8, none⟩ = some (.int .i64 ot) ∧ W.cell? ⟨H, 9, none⟩ = some (.int .i64 (f + 1)) ∧ (H < W.heap.size ∧ ∀ i, W.frozen? ⟨H, i, none⟩ = false) ∧ Below w.heap.size w W) → Below W.heap.size W w9 → (w9.cell? ⟨w.heap.size + 1, 0, none⟩ = some (.int .i64 K) ∧ w9.cell? ⟨w.heap.size + 1, 1, none⟩ = some (.int .i64 Ad) ∧ w9.cell? ⟨w.heap.size + 1, 2, none⟩ = some (.int .i64 Dt) ∧ w9.cell? ⟨w.heap.size + 2, 0, none⟩ = some (.int .i64 0) ∧ w9.cell? ⟨w.heap.size + 2, 1, none⟩ = some (.slice none 0 0) ∧ (w.heap.size + 2 < w9.heap.size ∧ ∀ i, w9.frozen? ⟨w.heap.size + 2, i, none⟩ = false) ∧ w9.cell? ⟨T, 0, none⟩ = some (.int .i64 t) ∧ w9.cell? ⟨T, 1, none⟩ = some (.slice (some ⟨g, 0, none⟩) L.length cp) ∧ (T < w9.heap.size ∧ ∀ i, w9.frozen? ⟨T, i, none⟩ = false) ∧ w9.cell? ⟨H, 0, none⟩ = some (.int .i64 a) ∧ w9.cell? ⟨H, 1, none⟩ = some (.bool eo) ∧ w9.cell? ⟨H, 2, none⟩ = some (.int .i64 ea) ∧ w9.cell? ⟨H, 3, none⟩ = some (.int .i64 eb) ∧ w9.cell? ⟨H, 4, none⟩ = some (.int .i64 et) ∧ w9.cell? ⟨H, 5, none⟩ = some (.bool oo) ∧ w9.cell? ⟨H, 6, none⟩ = some (.int .i64 oa) ∧ w9.cell? ⟨H, 7, none⟩ = some (.int .i64 ob) ∧ w9.cell? ⟨H, 8, none⟩ = some (.int .i64 ot) ∧ w9.cell? ⟨H, 9, none⟩ = some (.int .i64 (f + 1)) ∧ (H < w9.heap.size ∧ ∀ i, w9.frozen? ⟨H, i, none⟩ = false) ∧ Below w.heap.size w w9)) _ hS hb; (try clear hS); have hS := hT; clear hT; have hB := hS.2.2.2.2.2.2.2.2.2.2.2.2.2.2.2.2.2.2.2.2; have hzw : w.heap.size ≤ w9.heap.size := hB.size; have hz1 : w.heap.size + 1 < w9.heap.size := World.block_lt_of_cell? w9 _ (hS.1); have hz2 : w.heap.size + 2 < w9.heap.size := World.block_lt_of_cell? w9 _ (hS.2.2.2.1); have hz3 : T < w9.heap.size := World.block_lt_of_cell? w9 _ (hS.2.2.2.2.2.2.1); have hz4 : H < w9.heap.size := World.block_lt_of_cell? w9 _ (hS.2.2.2.2.2.2.2.2.2.1); have R9 := hide (own_below HR9.out hb); clear hb))
  obtain ⟨P, hP⟩ : ∃ q, w9.heap.size = q := ⟨_, rfl⟩
  obtain ⟨X10, hX10⟩ : ∃ X, World.alloc w9 (.cells #[.bool (upO Dt), .int .i64 (upA Dt), .int .i64 (upB Dt)] 40) = X := ⟨_, rfl⟩
  rw [hX10, hP]
  have hbx : Below w9.heap.size w9 X10 := by rw [← hX10]; go_grown
  have HR10 := hide (own_below R9.out hbx)
  have hS10 : X10.cell? ⟨w.heap.size + 1, 0, none⟩ = some (.int .i64 K) ∧ X10.cell? ⟨w.heap.size + 1, 1, none⟩ = some (.int .i64 Ad) ∧ X10.cell? ⟨w.heap.size + 1, 2, none⟩ = some (.int .i64 Dt) ∧ X10.cell? ⟨w.heap.size + 2, 0, none⟩ = some (.int .i64 0) ∧ X10.cell? ⟨w.heap.size + 2, 1, none⟩ = some (.slice none 0 0) ∧ (w.heap.size + 2 < X10.heap.size ∧ ∀ i, X10.frozen? ⟨w.heap.size + 2, i, none⟩ = false) ∧ X10.cell? ⟨T, 0, none⟩ = some (.int .i64 t) ∧ X10.cell? ⟨T, 1, none⟩ = some (.slice (some ⟨g, 0, none⟩) L.length cp) ∧ (T < X10.heap.size ∧ ∀ i, X10.frozen? ⟨T, i, none⟩ = false) ∧ X10.cell? ⟨H, 0, none⟩ = some (.int .i64 a) ∧ X10.cell? ⟨H, 1, none⟩ = some (.bool eo) ∧ X10.cell? ⟨H, 2, none⟩ = some (.int .i64 ea) ∧ X10.cell? ⟨H, 3, none⟩ = some (.int .i64 eb) ∧ X10.cell? ⟨H, 4, none⟩ = some (.int .i64 et) ∧ X10.cell? ⟨H, 5, none⟩ = some (.bool oo) ∧ X10.cell? ⟨H, 6, none⟩ = some (.int .i64 oa) ∧ X10.cell? ⟨H, 7, none⟩ = some (.int .i64 ob) ∧ X10.cell? ⟨H, 8, none⟩ = some (.int .i64 ot) ∧ X10.cell? ⟨H, 9, none⟩ = some (.int .i64 (f + 1)) ∧ (H < X10.heap.size ∧ ∀ i, X10.frozen? ⟨H, i, none⟩ = false) ∧ X10.cell? ⟨P, 0, none⟩ = some (.bool (upO Dt)) ∧ X10.cell? ⟨P, 1, none⟩ = some (.int .i64 (upA Dt)) ∧ X10.cell? ⟨P, 2, none⟩ = some (.int .i64 (upB Dt)) ∧ Below w.heap.size w X10 := ⟨keep_cell hbx (hS.1), keep_cell hbx (hS.2.1), keep_cell hbx (hS.2.2.1), keep_cell hbx (hS.2.2.2.1), keep_cell hbx (hS.2.2.2.2.1), keep_fre hbx (hS.2.2.2.2.2.1), keep_cell hbx (hS.2.2.2.2.2.2.1), keep_cell hbx (hS.2.2.2.2.2.2.2.1), keep_fre hbx (hS.2.2.2.2.2.2.2.2.1), keep_cell hbx (hS.2.2.2.2.2.2.2.2.2.1), keep_cell hbx (hS.2.2.2.2.2.2.2.2.2.2.1), keep_cell hbx (hS.2.2.2.2.2.2.2.2.2.2.2.1), keep_cell hbx (hS.2.2.2.2.2.2.2.2.2.2.2.2.1), keep_cell hbx (hS.2.2.2.2.2.2.2.2.2.2.2.2.2.1), keep_cell hbx (hS.2.2.2.2.2.2.2.2.2.2.2.2.2.2.1), keep_cell hbx (hS.2.2.2.2.2.2.2.2.2.2.2.2.2.2.2.1), keep_cell hbx (hS.2.2.2.2.2.2.2.2.2.2.2.2.2.2.2.2.1), keep_cell hbx (hS.2.2.2.2.2.2.2.2.2.2.2.2.2.2.2.2.2.1), keep_cell hbx (hS.2.2.2.2.2.2.2.2.2.2.2.2.2.2.2.2.2.2.1), keep_fre hbx (hS.2.2.2.2.2.2.2.2.2.2.2.2.2.2.2.2.2.2.2.1), (by rw [← hX10, ← hP]; simp [go_sem]), (by rw [← hX10, ← hP]; simp [go_sem]), (by rw [← hX10, ← hP]; simp [go_sem]), below_via (hS.2.2.2.2.2.2.2.2.2.2.2.2.2.2.2.2.2.2.2.2) hbx⟩
  have hPH : H < P := by rw [← hP]; exact (hS.2.2.2.2.2.2.2.2.2.2.2.2.2.2.2.2.2.2.2.1).1
  clear hbx hX10 hP hS HR9 R9 hzw hB hz1 hz2 hz3 hz4
  have hS := hS10
  clear hS10
  have hB := hS.2.2.2.2.2.2.2.2.2.2.2.2.2.2.2.2.2.2.2.2.2.2.2
  have hzw : w.heap.size ≤ X10.heap.size := hB.size
  go_cut [13, 89] (fun bv sv wx => bv = .bool (upK Dt) ∧ sv = .bool (decide (upK Dt = true ∧ K = 2)) ∧ Hid (wx.ownsRow (w.heap.size + 3) 42 10 (.slice (some ⟨g, 0, none⟩) L.length cp) L.length (hds (L))) ∧ (wx.cell? ⟨w.heap.size + 1, 0, none⟩ = some (.int .i64 K) ∧ wx.cell? ⟨w.heap.size + 1, 1, none⟩ = some (.int .i64 Ad) ∧ wx.cell? ⟨w.heap.size + 1, 2, none⟩ = some (.int .i64 Dt) ∧ wx.cell? ⟨w.heap.size + 2, 0, none⟩ = some (.int .i64 0) ∧ wx.cell? ⟨w.heap.size + 2, 1, none⟩ = some (.slice none 0 0) ∧ (w.heap.size + 2 < wx.heap.size ∧ ∀ i, wx.frozen? ⟨w.heap.size + 2, i, none⟩ = false) ∧ wx.cell? ⟨T, 0, none⟩ = some (.int .i64 t) ∧ wx.cell? ⟨T, 1, none⟩ = some (.slice (some ⟨g, 0, none⟩) L.length cp) ∧ (T < wx.heap.size ∧ ∀ i, wx.frozen? ⟨T, i, none⟩ = false) ∧ wx.cell? ⟨H, 0, none⟩ = some (.int .i64 a) ∧ wx.cell? ⟨H, 1, none⟩ = some (.bool eo) ∧ wx.cell? ⟨H, 2, none⟩ = some (.int .i64 ea) ∧ wx.cell? ⟨H, 3, none⟩ = some (.int .i64 eb) ∧ wx.cell? ⟨H, 4, none⟩ = some (.int .i64 et) ∧ wx.cell? ⟨H, 5, none⟩ = some (.bool oo) ∧ wx.cell? ⟨H, 6, none⟩ = some (.int .i64 oa) ∧ wx.cell? ⟨H, 7, none⟩ = some (.int .i64 ob) ∧ wx.cell? ⟨H, 8, none⟩ = some (.int .i64 ot) ∧ wx.cell? ⟨H, 9, none⟩ = some (.int .i64 (f + 1)) ∧ (H < wx.heap.size ∧ ∀ i, wx.frozen? ⟨H, i, none⟩ = false) ∧ wx.cell? ⟨P, 0, none⟩ = some (.bool (upO Dt)) ∧ wx.cell? ⟨P, 1, none⟩ = some (.int .i64 (upA Dt)) ∧ wx.cell? ⟨P, 2, none⟩ = some (.int .i64 (upB Dt)) ∧ Below w.heap.size w wx))
  case first =>
    rcases kU : upK Dt with _ | _
    · go_wp2_with fail
      go_meet
      case rel => exact ⟨(by first | rfl | rw [kU]), (by (try rw [kU]); rw [show decide (false = true ∧ K = 2) = false from decide_eq_false (fun h => absurd h.1 (by decide))]), HR10, hS⟩
    by_cases k2 : K = 2
    · have hq2 : (K == 2) = true := by rw [k2]; rfl
      have HK2 := hide k2
      clear k2
      go_wp2_with fail
      go_meet
      case rel => exact ⟨(by first | rfl | rw [kU]), (by (try rw [kU]); rw [show decide (true = true ∧ K = 2) = true from decide_eq_true ⟨rfl, HK2.out⟩]), HR10, hS⟩
    have hq2 : (K == 2) = false := beq_false_of_ne k2
    have HK2 := hide k2
    clear k2
    go_wp2_with fail
    go_meet
    case rel => exact ⟨(by first | rfl | rw [kU]), (by (try rw [kU]); rw [show decide (true = true ∧ K = 2) = false from decide_eq_false (fun h => HK2.out h.2)]), HR10, hS⟩
  
  (try clear hS)
  (try clear HROW)
  (try clear hzw)
  (try clear hB)
  (try clear hT9)
  obtain ⟨rfl, rfl, HROW, hS⟩ := hcut
  clear HR10
  go_upto_if 89 with fail
  go_cut [] (fun wx => Hid (wx.ownsRow (w.heap.size + 3) 42 10 (.slice (some ⟨g, 0, none⟩) L.length cp) L.length (hds (L))) ∧ (wx.cell? ⟨w.heap.size + 1, 0, none⟩ = some (.int .i64 K) ∧ wx.cell? ⟨w.heap.size + 1, 1, none⟩ = some (.int .i64 Ad) ∧ wx.cell? ⟨w.heap.size + 1, 2, none⟩ = some (.int .i64 Dt) ∧ wx.cell? ⟨w.heap.size + 2, 0, none⟩ = some (.int .i64 0) ∧ wx.cell? ⟨w.heap.size + 2, 1, none⟩ = some (.slice none 0 0) ∧ (w.heap.size + 2 < wx.heap.size ∧ ∀ i, wx.frozen? ⟨w.heap.size + 2, i, none⟩ = false) ∧ wx.cell? ⟨T, 0, none⟩ = some (.int .i64 t) ∧ wx.cell? ⟨T, 1, none⟩ = some (.slice (some ⟨g, 0, none⟩) L.length cp) ∧ (T < wx.heap.size ∧ ∀ i, wx.frozen? ⟨T, i, none⟩ = false) ∧ wx.cell? ⟨H, 0, none⟩ = some (.int .i64 (Y).1) ∧ wx.cell? ⟨H, 1, none⟩ = some (.bool (Y).2.1.1) ∧ wx.cell? ⟨H, 2, none⟩ = some (.int .i64 (Y).2.1.2.1) ∧ wx.cell? ⟨H, 3, none⟩ = some (.int .i64 (Y).2.1.2.2) ∧ wx.cell? ⟨H, 4, none⟩ = some (.int .i64 (Y).2.2.1) ∧ wx.cell? ⟨H, 5, none⟩ = some (.bool (Y).2.2.2.1.1) ∧ wx.cell? ⟨H, 6, none⟩ = some (.int .i64 (Y).2.2.2.1.2.1) ∧ wx.cell? ⟨H, 7, none⟩ = some (.int .i64 (Y).2.2.2.1.2.2) ∧ wx.cell? ⟨H, 8, none⟩ = some (.int .i64 (Y).2.2.2.2.1) ∧ wx.cell? ⟨H, 9, none⟩ = some (.int .i64 (Y).2.2.2.2.2) ∧ Below w.heap.size w wx))
  case first =>
    have hzw : w.heap.size ≤ wc.heap.size := (hS.2.2.2.2.2.2.2.2.2.2.2.2.2.2.2.2.2.2.2.2.2.2.2).size
    by_cases kk : upK Dt = true ∧ K = 2
    rotate_left
    · have hn : decide (upK Dt = true ∧ K = 2) = false := decide_eq_false kk
      rw [hn]
      have HX := hide (show Y = (a, (eo, ea, eb), et, (oo, oa, ob), ot, f + 1) from by rw [← HY.out]; unfold upH; rw [if_neg kk])
      clear kk
      go_wp2_with fail
      go_meet
      case rel => rw [HX.out]; exact ⟨HROW, hS.1, hS.2.1, hS.2.2.1, hS.2.2.2.1, hS.2.2.2.2.1, hS.2.2.2.2.2.1, hS.2.2.2.2.2.2.1, hS.2.2.2.2.2.2.2.1, hS.2.2.2.2.2.2.2.2.1, hS.2.2.2.2.2.2.2.2.2.1, hS.2.2.2.2.2.2.2.2.2.2.1, hS.2.2.2.2.2.2.2.2.2.2.2.1, hS.2.2.2.2.2.2.2.2.2.2.2.2.1, hS.2.2.2.2.2.2.2.2.2.2.2.2.2.1, hS.2.2.2.2.2.2.2.2.2.2.2.2.2.2.1, hS.2.2.2.2.2.2.2.2.2.2.2.2.2.2.2.1, hS.2.2.2.2.2.2.2.2.2.2.2.2.2.2.2.2.1, hS.2.2.2.2.2.2.2.2.2.2.2.2.2.2.2.2.2.1, hS.2.2.2.2.2.2.2.2.2.2.2.2.2.2.2.2.2.2.1, hS.2.2.2.2.2.2.2.2.2.2.2.2.2.2.2.2.2.2.2.2.2.2.2⟩
    have hn : decide (upK Dt = true ∧ K = 2) = true := decide_eq_true kk
    rw [hn]
    have fz : ∀ q, wc.frozen? ⟨H, q, none⟩ = false := (hS.2.2.2.2.2.2.2.2.2.2.2.2.2.2.2.2.2.2.2.1).2
    obtain ⟨q0, q1, q2, q3, q4, q5, q6, q7, q8, q9, q10, q11, q12, q13, q14, q15, q16, q17, q18, q19, q20, q21, q22, hBq⟩ := hS
    rcases kO : upO Dt with _ | _
    · rw [kO] at q20
      have HX := hide (show Y = (a, (false, upA Dt, upB Dt), t, (oo, oa, ob), ot, f + 1) from by rw [← HY.out]; unfold upH; rw [if_pos kk, if_neg (by rw [kO]; decide), kO])
      clear kk
      go_wp2_with fail
      go_meet
      case rel => rw [HX.out]; exact ⟨hide (ownsRow_setCell_other (ownsRow_setCell_other (ownsRow_setCell_other (ownsRow_setCell_other (HROW.out) (a := ⟨H, 1, none⟩) (fun e => hgH (Option.some.inj e)) _) (a := ⟨H, 2, none⟩) (fun e => hgH (Option.some.inj e)) _) (a := ⟨H, 3, none⟩) (fun e => hgH (Option.some.inj e)) _) (a := ⟨H, 4, none⟩) (fun e => hgH (Option.some.inj e)) _), sc2 _ (by omega) (sc2 _ (by omega) (sc2 _ (by omega) (sc2 _ (by omega) (q0)))), sc2 _ (by omega) (sc2 _ (by omega) (sc2 _ (by omega) (sc2 _ (by omega) (q1)))), sc2 _ (by omega) (sc2 _ (by omega) (sc2 _ (by omega) (sc2 _ (by omega) (q2)))), sc2 _ (by omega) (sc2 _ (by omega) (sc2 _ (by omega) (sc2 _ (by omega) (q3)))), sc2 _ (by omega) (sc2 _ (by omega) (sc2 _ (by omega) (sc2 _ (by omega) (q4)))), sf2 _ (sf2 _ (sf2 _ (sf2 _ (q5)))), sc2 _ (by omega) (sc2 _ (by omega) (sc2 _ (by omega) (sc2 _ (by omega) (q6)))), sc2 _ (by omega) (sc2 _ (by omega) (sc2 _ (by omega) (sc2 _ (by omega) (q7)))), sf2 _ (sf2 _ (sf2 _ (sf2 _ (q8)))), sc_off (by omega) (sc_off (by omega) (sc_off (by omega) (sc_off (by omega) (q9)))), sc_off (by omega) (sc_off (by omega) (sc_off (by omega) (sc_at (q10)))), sc_off (by omega) (sc_off (by omega) (sc_at (sc_off (by omega) (q11)))), sc_off (by omega) (sc_at (sc_off (by omega) (sc_off (by omega) (q12)))), sc_at (sc_off (by omega) (sc_off (by omega) (sc_off (by omega) (q13)))), sc_off (by omega) (sc_off (by omega) (sc_off (by omega) (sc_off (by omega) (q14)))), sc_off (by omega) (sc_off (by omega) (sc_off (by omega) (sc_off (by omega) (q15)))), sc_off (by omega) (sc_off (by omega) (sc_off (by omega) (sc_off (by omega) (q16)))), sc_off (by omega) (sc_off (by omega) (sc_off (by omega) (sc_off (by omega) (q17)))), sc_off (by omega) (sc_off (by omega) (sc_off (by omega) (sc_off (by omega) (q18)))), ((((hBq).setCell (p := ⟨H, 1, none⟩) (by show _ ≤ H; omega) _).setCell (p := ⟨H, 2, none⟩) (by show _ ≤ H; omega) _).setCell (p := ⟨H, 3, none⟩) (by show _ ≤ H; omega) _).setCell (p := ⟨H, 4, none⟩) (by show _ ≤ H; omega) _⟩
    · rw [kO] at q20
      have HX := hide (show Y = (a, (eo, ea, eb), et, (true, upA Dt, upB Dt), t, f + 1) from by rw [← HY.out]; unfold upH; rw [if_pos kk, if_pos kO, kO])
      clear kk
      go_wp2_with fail
      go_meet
      case rel => rw [HX.out]; exact ⟨hide (ownsRow_setCell_other (ownsRow_setCell_other (ownsRow_setCell_other (ownsRow_setCell_other (HROW.out) (a := ⟨H, 5, none⟩) (fun e => hgH (Option.some.inj e)) _) (a := ⟨H, 6, none⟩) (fun e => hgH (Option.some.inj e)) _) (a := ⟨H, 7, none⟩) (fun e => hgH (Option.some.inj e)) _) (a := ⟨H, 8, none⟩) (fun e => hgH (Option.some.inj e)) _), sc2 _ (by omega) (sc2 _ (by omega) (sc2 _ (by omega) (sc2 _ (by omega) (q0)))), sc2 _ (by omega) (sc2 _ (by omega) (sc2 _ (by omega) (sc2 _ (by omega) (q1)))), sc2 _ (by omega) (sc2 _ (by omega) (sc2 _ (by omega) (sc2 _ (by omega) (q2)))), sc2 _ (by omega) (sc2 _ (by omega) (sc2 _ (by omega) (sc2 _ (by omega) (q3)))), sc2 _ (by omega) (sc2 _ (by omega) (sc2 _ (by omega) (sc2 _ (by omega) (q4)))), sf2 _ (sf2 _ (sf2 _ (sf2 _ (q5)))), sc2 _ (by omega) (sc2 _ (by omega) (sc2 _ (by omega) (sc2 _ (by omega) (q6)))), sc2 _ (by omega) (sc2 _ (by omega) (sc2 _ (by omega) (sc2 _ (by omega) (q7)))), sf2 _ (sf2 _ (sf2 _ (sf2 _ (q8)))), sc_off (by omega) (sc_off (by omega) (sc_off (by omega) (sc_off (by omega) (q9)))), sc_off (by omega) (sc_off (by omega) (sc_off (by omega) (sc_off (by omega) (q10)))), sc_off (by omega) (sc_off (by omega) (sc_off (by omega) (sc_off (by omega) (q11)))), sc_off (by omega) (sc_off (by omega) (sc_off (by omega) (sc_off (by omega) (q12)))), sc_off (by omega) (sc_off (by omega) (sc_off (by omega) (sc_off (by omega) (q13)))), sc_off (by omega) (sc_off (by omega) (sc_off (by omega) (sc_at (q14)))), sc_off (by omega) (sc_off (by omega) (sc_at (sc_off (by omega) (q15)))), sc_off (by omega) (sc_at (sc_off (by omega) (sc_off (by omega) (q16)))), sc_at (sc_off (by omega) (sc_off (by omega) (sc_off (by omega) (q17)))), sc_off (by omega) (sc_off (by omega) (sc_off (by omega) (sc_off (by omega) (q18)))), ((((hBq).setCell (p := ⟨H, 5, none⟩) (by show _ ≤ H; omega) _).setCell (p := ⟨H, 6, none⟩) (by show _ ≤ H; omega) _).setCell (p := ⟨H, 7, none⟩) (by show _ ≤ H; omega) _).setCell (p := ⟨H, 8, none⟩) (by show _ ≤ H; omega) _⟩
  (try clear hS)
  (try clear HROW)
  (try clear hzw)
  (try clear hB)
  (try clear hT9)
  obtain ⟨HROW, hS⟩ := hcut
  have hzw : w.heap.size ≤ wc.heap.size := (hS.2.2.2.2.2.2.2.2.2.2.2.2.2.2.2.2.2.2.2).size
  have fzg : ∀ q, wc.frozen? ⟨g, q, none⟩ = false := fun q => HROW.out.frozenAt q
  have d0 : wc.cell? ⟨g, i * 10, none⟩ = some (.int .i64 a) := row_cell (j := 0) HROW.out rfl hkl (by omega) (by rw [HE.out]; rfl)
  have d1 : wc.cell? ⟨g, i * 10 + 1, none⟩ = some (.bool eo) := row_cell (j := 1) HROW.out rfl hkl (by omega) (by rw [HE.out]; rfl)
  have d2 : wc.cell? ⟨g, i * 10 + 2, none⟩ = some (.int .i64 ea) := row_cell (j := 2) HROW.out rfl hkl (by omega) (by rw [HE.out]; rfl)
  have d3 : wc.cell? ⟨g, i * 10 + 3, none⟩ = some (.int .i64 eb) := row_cell (j := 3) HROW.out rfl hkl (by omega) (by rw [HE.out]; rfl)
  have d4 : wc.cell? ⟨g, i * 10 + 4, none⟩ = some (.int .i64 et) := row_cell (j := 4) HROW.out rfl hkl (by omega) (by rw [HE.out]; rfl)
  have d5 : wc.cell? ⟨g, i * 10 + 5, none⟩ = some (.bool oo) := row_cell (j := 5) HROW.out rfl hkl (by omega) (by rw [HE.out]; rfl)
  have d6 : wc.cell? ⟨g, i * 10 + 6, none⟩ = some (.int .i64 oa) := row_cell (j := 6) HROW.out rfl hkl (by omega) (by rw [HE.out]; rfl)
  have d7 : wc.cell? ⟨g, i * 10 + 7, none⟩ = some (.int .i64 ob) := row_cell (j := 7) HROW.out rfl hkl (by omega) (by rw [HE.out]; rfl)
  have d8 : wc.cell? ⟨g, i * 10 + 8, none⟩ = some (.int .i64 ot) := row_cell (j := 8) HROW.out rfl hkl (by omega) (by rw [HE.out]; rfl)
  have d9 : wc.cell? ⟨g, i * 10 + 9, none⟩ = some (.int .i64 f) := row_cell (j := 9) HROW.out rfl hkl (by omega) (by rw [HE.out]; rfl)
  go_upto_region 18 with fail
  obtain ⟨X18, hX18⟩ : ∃ X, tenW wc g i Y = X := ⟨_, rfl⟩
  rw [show (((((((((wc.setCell ⟨g, i * 10, none⟩ (.int .i64 (Y).1)).setCell ⟨g, i * 10 + 1, none⟩ (.bool (Y).2.1.1)).setCell ⟨g, i * 10 + 2, none⟩ (.int .i64 (Y).2.1.2.1)).setCell ⟨g, i * 10 + 3, none⟩ (.int .i64 (Y).2.1.2.2)).setCell ⟨g, i * 10 + 4, none⟩ (.int .i64 (Y).2.2.1)).setCell ⟨g, i * 10 + 5, none⟩ (.bool (Y).2.2.2.1.1)).setCell ⟨g, i * 10 + 6, none⟩ (.int .i64 (Y).2.2.2.1.2.1)).setCell ⟨g, i * 10 + 7, none⟩ (.int .i64 (Y).2.2.2.1.2.2)).setCell ⟨g, i * 10 + 8, none⟩ (.int .i64 (Y).2.2.2.2.1)).setCell ⟨g, i * 10 + 9, none⟩ (.int .i64 (Y).2.2.2.2.2) = X18 from hX18]
  have HR18 := hide (show X18.ownsRow (w.heap.size + 3) 42 10 (.slice (some ⟨g, 0, none⟩) L.length cp) L.length (hds (L.set i Y)) from by rw [← hX18]; exact ten_row HROW.out hkl Y)
  have hS18 : X18.cell? ⟨w.heap.size + 1, 0, none⟩ = some (.int .i64 K) ∧ X18.cell? ⟨w.heap.size + 1, 1, none⟩ = some (.int .i64 Ad) ∧ X18.cell? ⟨w.heap.size + 1, 2, none⟩ = some (.int .i64 Dt) ∧ X18.cell? ⟨w.heap.size + 2, 0, none⟩ = some (.int .i64 0) ∧ X18.cell? ⟨w.heap.size + 2, 1, none⟩ = some (.slice none 0 0) ∧ (w.heap.size + 2 < X18.heap.size ∧ ∀ i, X18.frozen? ⟨w.heap.size + 2, i, none⟩ = false) ∧ X18.cell? ⟨T, 0, none⟩ = some (.int .i64 t) ∧ X18.cell? ⟨T, 1, none⟩ = some (.slice (some ⟨g, 0, none⟩) L.length cp) ∧ (T < X18.heap.size ∧ ∀ i, X18.frozen? ⟨T, i, none⟩ = false) ∧ Below w.heap.size w X18 := by rw [← hX18]; exact ⟨ten_cell _ _ (by omega) (hS.1), ten_cell _ _ (by omega) (hS.2.1), ten_cell _ _ (by omega) (hS.2.2.1), ten_cell _ _ (by omega) (hS.2.2.2.1), ten_cell _ _ (by omega) (hS.2.2.2.2.1), ten_fre _ _ _ (hS.2.2.2.2.2.1), ten_cell _ _ (by omega) (hS.2.2.2.2.2.2.1), ten_cell _ _ (by omega) (hS.2.2.2.2.2.2.2.1), ten_fre _ _ _ (hS.2.2.2.2.2.2.2.2.1), ten_below _ _ (hS.2.2.2.2.2.2.2.2.2.2.2.2.2.2.2.2.2.2.2) (by omega)⟩
  clear hS hzw HROW hX18 fzg d0 d1 d2 d3 d4 d5 d6 d7 d8 d9
  have hS := hS18
  clear hS18
  have hB := hS.2.2.2.2.2.2.2.2.2
  have hzw : w.heap.size ≤ X18.heap.size := hB.size
  have hval : ∀ W : World, Hid (W.ownsRow (w.heap.size + 3) 42 10 (.slice (some ⟨g, 0, none⟩) L.length cp) L.length (hds (L.set i Y))) → Calls Try.prog 58 #[.agg #[.int .i64 t, .slice (some ⟨g, 0, none⟩) L.length cp]] W (Gives W (.bool (okR t (L.set i Y)))) := fun W h => by
    have h9 := l9Good_c t (some ⟨g, 0, none⟩) cp (L.set i Y) W (by rw [List.length_set]; exact hide (own_reads h.out)) (by rw [List.length_set]; omega)
    rw [List.length_set] at h9
    exact h9
  clear hTg hf0 hf1 ef HE HY hi0 iz0 iy0 ix0
  rcases hv : okR t (L.set i Y) with _ | _
  · have HV := hide hv
    clear hv
    have HF := hide (rs_no (show okR t (rcL t Ad K Dt l) = false from by rw [HVL.out]; exact HV.out))
    go_wp2_with (first | (go_at_call 58; refine (hval _ HR18).mono ?_; rw [HV.out]; rintro e w10 ⟨rfl, hb⟩; have hT : w10.cell? ⟨w.heap.size + 1, 0, none⟩ = some (.int .i64 K) ∧ w10.cell? ⟨w.heap.size + 1, 1, none⟩ = some (.int .i64 Ad) ∧ w10.cell? ⟨w.heap.size + 1, 2, none⟩ = some (.int .i64 Dt) ∧ w10.cell? ⟨w.heap.size + 2, 0, none⟩ = some (.int .i64 0) ∧ w10.cell? ⟨w.heap.size + 2, 1, none⟩ = some (.slice none 0 0) ∧ (w.heap.size + 2 < w10.heap.size ∧ ∀ i, w10.frozen? ⟨w.heap.size + 2, i, none⟩ = false) ∧ w10.cell? ⟨T, 0, none⟩ = some (.int .i64 t) ∧ w10.cell? ⟨T, 1, none⟩ = some (.slice (some ⟨g, 0, none⟩) L.length cp) ∧ (T < w10.heap.size ∧ ∀ i, w10.frozen? ⟨T, i, none⟩ = false) ∧ Below w.heap.size w w10 := (fun W h hb => ⟨keep_cell (hb) h.1, keep_cell (hb) h.2.1, keep_cell (hb) h.2.2.1, keep_cell (hb) h.2.2.2.1, keep_cell (hb) h.2.2.2.2.1, keep_fre (hb) h.2.2.2.2.2.1, keep_cell (hb) h.2.2.2.2.2.2.1, keep_cell (hb) h.2.2.2.2.2.2.2.1, keep_fre (hb) h.2.2.2.2.2.2.2.2.1, below_via h.2.2.2.2.2.2.2.2.2 (hb)⟩ : ∀ W : World, (W.cell? ⟨w.heap.size + 1, 0, none⟩ = some (.int .i64 K) ∧ W.cell? ⟨w.heap.size + 1, 1, none⟩ = some (.int .i64 Ad) ∧ W.cell? ⟨w.heap.size + 1, 2, none⟩ = some (.int .i64 Dt) ∧ W.cell? ⟨w.heap.size + 2, 0, none⟩ = some (.int .i64 0) ∧ W.cell? ⟨w.heap.size + 2, 1, none⟩ = some (.slice none 0 0) ∧ (w.heap.size + 2 < W.heap.size ∧ ∀ i, W.frozen? ⟨w.heap.size + 2, i, none⟩ = false) ∧ W.cell? ⟨T, 0, none⟩ = some (.int .i64 t) ∧ W.cell? ⟨T, 1, none⟩ = some (.slice (some ⟨g, 0, none⟩) L.length cp) ∧ (T < W.heap.size ∧ ∀ i, W.frozen? ⟨T, i, none⟩ = false) ∧ Below w.heap.size w W) → Below W.heap.size W w10 → (w10.cell? ⟨w.heap.size + 1, 0, none⟩ = some (.int .i64 K) ∧ w10.cell? ⟨w.heap.size + 1, 1, none⟩ = some (.int .i64 Ad) ∧ w10.cell? ⟨w.heap.size + 1, 2, none⟩ = some (.int .i64 Dt) ∧ w10.cell? ⟨w.heap.size + 2, 0, none⟩ = some (.int .i64 0) ∧ w10.cell? ⟨w.heap.size + 2, 1, none⟩ = some (.slice none 0 0) ∧ (w.heap.size + 2 < w10.heap.size ∧ ∀ i, w10.frozen? ⟨w.heap.size + 2, i, none⟩ = false) ∧ w10.cell? ⟨T, 0, none⟩ = some (.int .i64 t) ∧ w10.cell? ⟨T, 1, none⟩ = some (.slice (some ⟨g, 0, none⟩) L.length cp) ∧ (T < w10.heap.size ∧ ∀ i, w10.frozen? ⟨T, i, none⟩ = false) ∧ Below w.heap.size w w10)) _ hS hb; (try clear hS); have hS := hT; clear hT; have hB := hS.2.2.2.2.2.2.2.2.2; have hzw : w.heap.size ≤ w10.heap.size := hB.size; have hz1 : w.heap.size + 1 < w10.heap.size := World.block_lt_of_cell? w10 _ (hS.1); have hz2 : w.heap.size + 2 < w10.heap.size := World.block_lt_of_cell? w10 _ (hS.2.2.2.1); have hz3 : T < w10.heap.size := World.block_lt_of_cell? w10 _ (hS.2.2.2.2.2.2.1); have HR20 := hide (own_below HR18.out hb); clear hb))
    refine bodyPost_ret (by simp [results, Try.results60, go_sem, cell_set_some, *]; try rfl) rfl ?_
    rw [HF.out.1, HF.out.2.1, HF.out.2.2]
    exact ⟨none, 0, rfl, World.ownsRow_nil _ _ _ _, by go_grown⟩
  have HV := hide hv
  clear hv
  have HF := hide (rs_yes (show okR t (rcL t Ad K Dt l) = true from by rw [HVL.out]; exact HV.out))
  go_wp2_with (first | (go_at_call 58; refine (hval _ HR18).mono ?_; rw [HV.out]; rintro e w10 ⟨rfl, hb⟩; have hT : w10.cell? ⟨w.heap.size + 1, 0, none⟩ = some (.int .i64 K) ∧ w10.cell? ⟨w.heap.size + 1, 1, none⟩ = some (.int .i64 Ad) ∧ w10.cell? ⟨w.heap.size + 1, 2, none⟩ = some (.int .i64 Dt) ∧ w10.cell? ⟨w.heap.size + 2, 0, none⟩ = some (.int .i64 0) ∧ w10.cell? ⟨w.heap.size + 2, 1, none⟩ = some (.slice none 0 0) ∧ (w.heap.size + 2 < w10.heap.size ∧ ∀ i, w10.frozen? ⟨w.heap.size + 2, i, none⟩ = false) ∧ w10.cell? ⟨T, 0, none⟩ = some (.int .i64 t) ∧ w10.cell? ⟨T, 1, none⟩ = some (.slice (some ⟨g, 0, none⟩) L.length cp) ∧ (T < w10.heap.size ∧ ∀ i, w10.frozen? ⟨T, i, none⟩ = false) ∧ Below w.heap.size w w10 := (fun W h hb => ⟨keep_cell (hb) h.1, keep_cell (hb) h.2.1, keep_cell (hb) h.2.2.1, keep_cell (hb) h.2.2.2.1, keep_cell (hb) h.2.2.2.2.1, keep_fre (hb) h.2.2.2.2.2.1, keep_cell (hb) h.2.2.2.2.2.2.1, keep_cell (hb) h.2.2.2.2.2.2.2.1, keep_fre (hb) h.2.2.2.2.2.2.2.2.1, below_via h.2.2.2.2.2.2.2.2.2 (hb)⟩ : ∀ W : World, (W.cell? ⟨w.heap.size + 1, 0, none⟩ = some (.int .i64 K) ∧ W.cell? ⟨w.heap.size + 1, 1, none⟩ = some (.int .i64 Ad) ∧ W.cell? ⟨w.heap.size + 1, 2, none⟩ = some (.int .i64 Dt) ∧ W.cell? ⟨w.heap.size + 2, 0, none⟩ = some (.int .i64 0) ∧ W.cell? ⟨w.heap.size + 2, 1, none⟩ = some (.slice none 0 0) ∧ (w.heap.size + 2 < W.heap.size ∧ ∀ i, W.frozen? ⟨w.heap.size + 2, i, none⟩ = false) ∧ W.cell? ⟨T, 0, none⟩ = some (.int .i64 t) ∧ W.cell? ⟨T, 1, none⟩ = some (.slice (some ⟨g, 0, none⟩) L.length cp) ∧ (T < W.heap.size ∧ ∀ i, W.frozen? ⟨T, i, none⟩ = false) ∧ Below w.heap.size w W) → Below W.heap.size W w10 → (w10.cell? ⟨w.heap.size + 1, 0, none⟩ = some (.int .i64 K) ∧ w10.cell? ⟨w.heap.size + 1, 1, none⟩ = some (.int .i64 Ad) ∧ w10.cell? ⟨w.heap.size + 1, 2, none⟩ = some (.int .i64 Dt) ∧ w10.cell? ⟨w.heap.size + 2, 0, none⟩ = some (.int .i64 0) ∧ w10.cell? ⟨w.heap.size + 2, 1, none⟩ = some (.slice none 0 0) ∧ (w.heap.size + 2 < w10.heap.size ∧ ∀ i, w10.frozen? ⟨w.heap.size + 2, i, none⟩ = false) ∧ w10.cell? ⟨T, 0, none⟩ = some (.int .i64 t) ∧ w10.cell? ⟨T, 1, none⟩ = some (.slice (some ⟨g, 0, none⟩) L.length cp) ∧ (T < w10.heap.size ∧ ∀ i, w10.frozen? ⟨T, i, none⟩ = false) ∧ Below w.heap.size w w10)) _ hS hb; (try clear hS); have hS := hT; clear hT; have hB := hS.2.2.2.2.2.2.2.2.2; have hzw : w.heap.size ≤ w10.heap.size := hB.size; have hz1 : w.heap.size + 1 < w10.heap.size := World.block_lt_of_cell? w10 _ (hS.1); have hz2 : w.heap.size + 2 < w10.heap.size := World.block_lt_of_cell? w10 _ (hS.2.2.2.1); have hz3 : T < w10.heap.size := World.block_lt_of_cell? w10 _ (hS.2.2.2.2.2.2.1); have HR20 := hide (own_below HR18.out hb); clear hb))
  refine bodyPost_ret (by simp [results, Try.results60, go_sem, cell_set_some, *]; try rfl) rfl ?_
  rw [HF.out.1, HF.out.2.1, HF.out.2.2, HVL.out, List.length_set]
  refine ⟨some ⟨g, 0, none⟩, cp, rfl, own_mono ?_ (show w.heap.size ≤ w.heap.size + 3 by omega), by go_grown⟩
  repeat (refine own_set ?_ (by first | (simp; done) | (simp; omega)) _)
  exact HR20.out
end Go.Proofs.Ytbeojfhakmbacaa
