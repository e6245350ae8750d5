/- A received frame is counted, and with both reports of a place its position is known. No conditions. -/
import Derived.Deep.DeepCutAuto
import Derived.Test.YtbeojfhakmbacaaFinRiaa
import Derived.Test.YtbeojfhakmbacaaFinRiab
import Derived.Test.YtbeojfhakmbacaaFinRiac
import Derived.Test.YtbeojfhakmbacaaFinRiaf
import Derived.Test.YtbeojfhakmbacaaFinRiah
import Derived.Test.YtbeojfhakmbacaaFinRiaj
import Derived.Test.YtbeojfhakmbacaaFinRial
import Derived.Test.YtbeojfhakmbacaaFinRiap
namespace Go.Proofs.Ytbeojfhakmbacaa
open Go.RowKit
def bigB (n : Nat) : Bool := decide (65536 < n)
theorem bigB_no {n : Nat} (h : bigB n = false) : n ≤ 65536 := by have := of_decide_eq_false h; omega
theorem vBig_c (A : Option Addr) (n c : Nat)  (w : World) : Calls Try.prog 13 #[.slice A n c] w fun e w' => e = .returned (.bool (bigB n)) ∧ w = w' := by
  by_cases h : 65536 < n
  all_goals
    go_enter Try.func13, Try.ntmps13
    go_wp2
    all_goals (go_returns; exact ⟨ret_eq (by unfold bigB; simp [h]; (try omega)), rfl⟩)
attribute [local go_sem ↓] neRep_self nePla_self
set_option maxRecDepth 100000 in
set_option maxHeartbeats 20000000 in
theorem fnReceiver (A : Option Addr) (n c : Nat) (w : World) (h1 : Hid (CodeOk w A n))  : Calls Try.prog 3 #[.slice A n c] w (Gives w (.bool true)) := by
  rcases kb : bigB n with _ | _
  rotate_left
  · have HKB := hide kb
    clear kb
    go_enter Try.func3, Try.ntmps3
    go_wp2_with (first | (go_at_call 13; refine (vBig_c _ _ _ _).mono ?_; rintro e w1 ⟨rfl, rfl⟩; rw [HKB.out]))
    go_returns
    exact ⟨ret_eq rfl, by go_grown⟩
  have HKB := hide kb
  have HN := hide (bigB_no kb)
  clear kb
  go_enter Try.func3, Try.ntmps3
  go_wp2_with fail
  refine (vBig_c _ _ _ _).mono ?_
  rintro e wz ⟨rfl, rfl⟩
  rw [HKB.out]
  go_wp2_with fail
  refine (drawReceive_c A n c _ (hide (h1.out.below (by go_grown))) HN.out).mono ?_
  rintro e w1 ⟨m, l, A1, c1, s, x, rfl, ho1, hl20, ⟨hm0, hm1⟩, hs16, ⟨hx0, hx1⟩, hb⟩
  obtain ⟨b1, ho1, hbk1⟩ := own_based ho1 (m := w.heap.size) (by first | omega | (simp; done) | (simp; omega))
  have hT : w1.ownsRow (b1) 42 10 (.slice A1 l.length c1) (l.length) (hds l) ∧ Below w.heap.size w w1 := ⟨ho1, (fun W h hb => below_via h (hb) : ∀ W : World, (Below w.heap.size w W) → Below W.heap.size W w1 → (Below w.heap.size w w1)) _ (by first | (with_reducible assumption) | go_grown) hb⟩
  (try clear hS)
  have hS := hT
  clear hT
  have hB := hS.2
  have hzw : w.heap.size ≤ w1.heap.size := hB.size
  clear hb
  go_wp2_with fail
  obtain ⟨w2, hww2⟩ : ∃ W, W = w1.alloc (.cells #[.int .i64 m, .slice A1 l.length c1] 26) := ⟨_, rfl⟩
  have hT : w2.cell? ⟨w1.heap.size, 0, none⟩ = some (.int .i64 m) ∧ w2.cell? ⟨w1.heap.size, 1, none⟩ = some (.slice A1 l.length c1) ∧ w2.ownsRow (b1) 42 10 (.slice A1 l.length c1) (l.length) (hds l) ∧ Below w.heap.size w w2 := by
    rw [hww2]
    exact ⟨by simp [go_sem], by simp [go_sem], own_below hS.1 (by go_grown), below_via hS.2 (by go_grown)⟩
  rw [← hww2]
  clear hS hww2
  have hS := hT
  clear hT
  (try clear hB hzw)
  have hB := hS.2.2.2
  have hzw : w.heap.size ≤ w2.heap.size := hB.size
  have hz1 : w1.heap.size < w2.heap.size := World.block_lt_of_cell? w2 _ (hS.1)
  have hvl := RvV_len m l s x
  have HRF := hide (fun (h : RvK m l s x = true) => rv_facts h rfl rfl)
  obtain ⟨V, hV0⟩ : ∃ q, RvV m l s x = q := ⟨_, rfl⟩
  obtain ⟨M, hM0⟩ : ∃ q, RvM m l s x = q := ⟨_, rfl⟩
  obtain ⟨K, hK0⟩ : ∃ q, RvK m l s x = q := ⟨_, rfl⟩
  rw [hV0, hM0, hK0] at HRF
  rw [hV0] at hvl
  have HV := hide hV0
  have HM := hide hM0
  have HK := hide hK0
  clear hV0 hM0 hK0
  go_wp2_with fail
  refine (Receive_c m A1 c1 l s x _ (hide (own_reads (hS.2.2.1))) (by omega) (by omega)).mono ?_
  rw [HV.out, HM.out, HK.out]
  rintro e w3 ⟨A2, c2, rfl, ho2, hb⟩
  obtain ⟨b2, ho2, hbk2⟩ := own_based ho2 (m := w2.heap.size) (by first | omega | (simp; done) | (simp; omega))
  have hT : w3.ownsRow (b2) 42 10 (.slice A2 V.length c2) (V.length) (hds V) ∧ w3.cell? ⟨w1.heap.size, 0, none⟩ = some (.int .i64 m) ∧ w3.cell? ⟨w1.heap.size, 1, none⟩ = some (.slice A1 l.length c1) ∧ w3.ownsRow (b1) 42 10 (.slice A1 l.length c1) (l.length) (hds l) ∧ Below w.heap.size w w3 := ⟨ho2, ⟨keep_cell (hb) hS.1, keep_cell (hb) hS.2.1, own_below hS.2.2.1 (hb), below_via hS.2.2.2 (hb)⟩⟩
  (try clear hS)
  have hS := hT
  clear hT
  have hB := hS.2.2.2.2
  have hzw : w.heap.size ≤ w3.heap.size := hB.size
  have hz1 : w1.heap.size < w3.heap.size := World.block_lt_of_cell? w3 _ (hS.2.1)
  clear hb
  go_wp2_with fail
  obtain ⟨w4, hww4⟩ : ∃ W, W = w3.alloc (.cells #[.int .i64 M, .slice A2 V.length c2] 26) := ⟨_, rfl⟩
  have hT : w4.cell? ⟨w3.heap.size, 0, none⟩ = some (.int .i64 M) ∧ w4.cell? ⟨w3.heap.size, 1, none⟩ = some (.slice A2 V.length c2) ∧ w4.ownsRow (b2) 42 10 (.slice A2 V.length c2) (V.length) (hds V) ∧ w4.cell? ⟨w1.heap.size, 0, none⟩ = some (.int .i64 m) ∧ w4.cell? ⟨w1.heap.size, 1, none⟩ = some (.slice A1 l.length c1) ∧ w4.ownsRow (b1) 42 10 (.slice A1 l.length c1) (l.length) (hds l) ∧ Below w.heap.size w w4 := by
    rw [hww4]
    exact ⟨by simp [go_sem], by simp [go_sem], own_below hS.1 (by go_grown), keep_cell (by go_grown) hS.2.1, keep_cell (by go_grown) hS.2.2.1, own_below hS.2.2.2.1 (by go_grown), below_via hS.2.2.2.2 (by go_grown)⟩
  rw [← hww4]
  clear hS hww4
  have hS := hT
  clear hT
  (try clear hB hzw)
  have hB := hS.2.2.2.2.2.2
  have hzw : w.heap.size ≤ w4.heap.size := hB.size
  have hz1 : w3.heap.size < w4.heap.size := World.block_lt_of_cell? w4 _ (hS.1)
  have hz2 : w1.heap.size < w4.heap.size := World.block_lt_of_cell? w4 _ (hS.2.2.2.1)
  go_wp2_with fail
  refine (sReceive_c m A1 c1 l s x _ (hide (own_reads (hS.2.2.2.2.2.1))) (by omega) (by omega)).mono ?_
  rw [HV.out, HM.out, HK.out]
  rintro e w5 ⟨A3, c3, rfl, ho3, hb⟩
  obtain ⟨b3, ho3, hbk3⟩ := own_based ho3 (m := w4.heap.size) (by first | omega | (simp; done) | (simp; omega))
  have hT : w5.ownsRow (b3) 42 10 (.slice A3 V.length c3) (V.length) (hds V) ∧ w5.cell? ⟨w3.heap.size, 0, none⟩ = some (.int .i64 M) ∧ w5.cell? ⟨w3.heap.size, 1, none⟩ = some (.slice A2 V.length c2) ∧ w5.ownsRow (b2) 42 10 (.slice A2 V.length c2) (V.length) (hds V) ∧ w5.cell? ⟨w1.heap.size, 0, none⟩ = some (.int .i64 m) ∧ w5.cell? ⟨w1.heap.size, 1, none⟩ = some (.slice A1 l.length c1) ∧ w5.ownsRow (b1) 42 10 (.slice A1 l.length c1) (l.length) (hds l) ∧ Below w.heap.size w w5 := ⟨ho3, ⟨keep_cell (hb) hS.1, keep_cell (hb) hS.2.1, own_below hS.2.2.1 (hb), keep_cell (hb) hS.2.2.2.1, keep_cell (hb) hS.2.2.2.2.1, own_below hS.2.2.2.2.2.1 (hb), below_via hS.2.2.2.2.2.2 (hb)⟩⟩
  (try clear hS)
  have hS := hT
  clear hT
  have hB := hS.2.2.2.2.2.2.2
  have hzw : w.heap.size ≤ w5.heap.size := hB.size
  have hz1 : w3.heap.size < w5.heap.size := World.block_lt_of_cell? w5 _ (hS.2.1)
  have hz2 : w1.heap.size < w5.heap.size := World.block_lt_of_cell? w5 _ (hS.2.2.2.2.1)
  clear hb
  go_upto_region 6 with fail
  obtain ⟨w6, hww6⟩ : ∃ W, W = w5.alloc (.cells #[.int .i64 M, .slice A3 V.length c3] 26) := ⟨_, rfl⟩
  have hT : w6.cell? ⟨w5.heap.size, 0, none⟩ = some (.int .i64 M) ∧ w6.cell? ⟨w5.heap.size, 1, none⟩ = some (.slice A3 V.length c3) ∧ w6.ownsRow (b3) 42 10 (.slice A3 V.length c3) (V.length) (hds V) ∧ w6.cell? ⟨w3.heap.size, 0, none⟩ = some (.int .i64 M) ∧ w6.cell? ⟨w3.heap.size, 1, none⟩ = some (.slice A2 V.length c2) ∧ w6.ownsRow (b2) 42 10 (.slice A2 V.length c2) (V.length) (hds V) ∧ w6.cell? ⟨w1.heap.size, 0, none⟩ = some (.int .i64 m) ∧ w6.cell? ⟨w1.heap.size, 1, none⟩ = some (.slice A1 l.length c1) ∧ w6.ownsRow (b1) 42 10 (.slice A1 l.length c1) (l.length) (hds l) ∧ Below w.heap.size w w6 := by
    rw [hww6]
    exact ⟨by simp [go_sem], by simp [go_sem], own_below hS.1 (by go_grown), keep_cell (by go_grown) hS.2.1, keep_cell (by go_grown) hS.2.2.1, own_below hS.2.2.2.1 (by go_grown), keep_cell (by go_grown) hS.2.2.2.2.1, keep_cell (by go_grown) hS.2.2.2.2.2.1, own_below hS.2.2.2.2.2.2.1 (by go_grown), below_via hS.2.2.2.2.2.2.2 (by go_grown)⟩
  rw [← hww6]
  clear hS hww6
  have hS := hT
  clear hT
  (try clear hB hzw)
  have hB := hS.2.2.2.2.2.2.2.2.2
  have hzw : w.heap.size ≤ w6.heap.size := hB.size
  have hz1 : w5.heap.size < w6.heap.size := World.block_lt_of_cell? w6 _ (hS.1)
  have hz2 : w3.heap.size < w6.heap.size := World.block_lt_of_cell? w6 _ (hS.2.2.2.1)
  have hz3 : w1.heap.size < w6.heap.size := World.block_lt_of_cell? w6 _ (hS.2.2.2.2.2.2.1)
  go_upto_region 6 with fail
  go_cut [70] (fun s wx => s = .bool false ∧ (wx.cell? ⟨w5.heap.size, 0, none⟩ = some (.int .i64 M) ∧ wx.cell? ⟨w5.heap.size, 1, none⟩ = some (.slice A3 V.length c3) ∧ wx.ownsRow (b3) 42 10 (.slice A3 V.length c3) (V.length) (hds V) ∧ wx.cell? ⟨w3.heap.size, 0, none⟩ = some (.int .i64 M) ∧ wx.cell? ⟨w3.heap.size, 1, none⟩ = some (.slice A2 V.length c2) ∧ wx.ownsRow (b2) 42 10 (.slice A2 V.length c2) (V.length) (hds V) ∧ wx.cell? ⟨w1.heap.size, 0, none⟩ = some (.int .i64 m) ∧ wx.cell? ⟨w1.heap.size, 1, none⟩ = some (.slice A1 l.length c1) ∧ wx.ownsRow (b1) 42 10 (.slice A1 l.length c1) (l.length) (hds l) ∧ Below w.heap.size w wx))
  case first => as_aux_lemma =>
    obtain ⟨G, hG⟩ : ∃ q, okR m l = q := ⟨_, rfl⟩
    have HVI := hide (fun (W : World) h => validRecv_c m A1 c1 l W h (by omega))
    have HVS := hide (fun (W : World) h => sValidRecv_c m A1 c1 l W h (by omega))
    rw [hG] at HVI HVS
    clear hG
    cases K
    all_goals
      refine wp_region_det (fun w' => w'.cell? ⟨w5.heap.size, 0, none⟩ = some (.int .i64 M) ∧ w'.cell? ⟨w5.heap.size, 1, none⟩ = some (.slice A3 V.length c3) ∧ w'.ownsRow (b3) 42 10 (.slice A3 V.length c3) (V.length) (hds V) ∧ w'.cell? ⟨w3.heap.size, 0, none⟩ = some (.int .i64 M) ∧ w'.cell? ⟨w3.heap.size, 1, none⟩ = some (.slice A2 V.length c2) ∧ w'.ownsRow (b2) 42 10 (.slice A2 V.length c2) (V.length) (hds V) ∧ w'.cell? ⟨w1.heap.size, 0, none⟩ = some (.int .i64 m) ∧ w'.cell? ⟨w1.heap.size, 1, none⟩ = some (.slice A1 l.length c1) ∧ w'.ownsRow (b1) 42 10 (.slice A1 l.length c1) (l.length) (hds l) ∧ Below w.heap.size w w') (by kernel_rfl) (by kernel_rfl) (by first | (with_reducible assumption) | (exact hS) | (exact ⟨hS.1, hS.2.1, hS.2.2.1, hS.2.2.2.1, hS.2.2.2.2.1, hS.2.2.2.2.2.1, hS.2.2.2.2.2.2.1, hS.2.2.2.2.2.2.2.1, hS.2.2.2.2.2.2.2.2.1, (by go_grown)⟩) | (exact ⟨(by first | (with_reducible assumption) | (simp [go_sem]; done) | ((simp only [go_sem]); (with_reducible assumption)) | ((refine keep_cell ?_ (by with_reducible assumption)); go_grown; done) | (simp [go_sem, *]; done)), (by first | (with_reducible assumption) | (simp [go_sem]; done) | ((simp only [go_sem]); (with_reducible assumption)) | ((refine keep_cell ?_ (by with_reducible assumption)); go_grown; done) | (simp [go_sem, *]; done)), (by first | (with_reducible assumption) | (exact World.ownsRow.alloc (by with_reducible assumption) _) | ((refine own_below (by with_reducible assumption) ?_); go_grown)), (by first | (with_reducible assumption) | (simp [go_sem]; done) | ((simp only [go_sem]); (with_reducible assumption)) | ((refine keep_cell ?_ (by with_reducible assumption)); go_grown; done) | (simp [go_sem, *]; done)), (by first | (with_reducible assumption) | (simp [go_sem]; done) | ((simp only [go_sem]); (with_reducible assumption)) | ((refine keep_cell ?_ (by with_reducible assumption)); go_grown; done) | (simp [go_sem, *]; done)), (by first | (with_reducible assumption) | (exact World.ownsRow.alloc (by with_reducible assumption) _) | ((refine own_below (by with_reducible assumption) ?_); go_grown)), (by first | (with_reducible assumption) | (simp [go_sem]; done) | ((simp only [go_sem]); (with_reducible assumption)) | ((refine keep_cell ?_ (by with_reducible assumption)); go_grown; done) | (simp [go_sem, *]; done)), (by first | (with_reducible assumption) | (simp [go_sem]; done) | ((simp only [go_sem]); (with_reducible assumption)) | ((refine keep_cell ?_ (by with_reducible assumption)); go_grown; done) | (simp [go_sem, *]; done)), (by first | (with_reducible assumption) | (exact World.ownsRow.alloc (by with_reducible assumption) _) | ((refine own_below (by with_reducible assumption) ?_); go_grown)), (by go_grown)⟩)) ?_
      repeat (first
        | ((refine wpDet_skip (by rfl) ?_); simp only [Act.put, zp1, zp2, zp3])
        | ((refine wpDet_val (v := ?_) (by rfl) (fun w hS => ?_) ?_); rotate_left; (focus ((try dsimp only at hS); go_simp; (try (with_reducible rfl)); done)); simp only [Act.put, zp1, zp2, zp3])
        | ((refine wpDet_call (v := ?_) (f := ?_) (args := ?_) (by rfl) (fun w => ?_) (fun w hS => ?_) ?_); rotate_left; rotate_left; rotate_left; (focus (go_simp; (constructor <;> (with_reducible rfl)); done)); (focus (first | (go_at_call 17; refine (vReceiver_c M A2 A3 c2 c3 V _ (hide (own_reads (hS.2.2.2.2.2.1))) (hide (own_reads (hS.2.2.1))) (by omega)).mono ?_; intro e w' h; refine ⟨h.1.trans ?_, ⟨keep_cell (h.2) hS.1, keep_cell (h.2) hS.2.1, own_below hS.2.2.1 (h.2), keep_cell (h.2) hS.2.2.2.1, keep_cell (h.2) hS.2.2.2.2.1, own_below hS.2.2.2.2.2.1 (h.2), keep_cell (h.2) hS.2.2.2.2.2.2.1, keep_cell (h.2) hS.2.2.2.2.2.2.2.1, own_below hS.2.2.2.2.2.2.2.2.1 (h.2), below_via hS.2.2.2.2.2.2.2.2.2 (h.2)⟩⟩; with_reducible rfl) | (go_at_call 18; refine (HVI.out _ (hide (own_reads (hS.2.2.2.2.2.2.2.2.1)))).mono ?_; intro e w' h; refine ⟨h.1.trans ?_, ⟨keep_cell (h.2) hS.1, keep_cell (h.2) hS.2.1, own_below hS.2.2.1 (h.2), keep_cell (h.2) hS.2.2.2.1, keep_cell (h.2) hS.2.2.2.2.1, own_below hS.2.2.2.2.2.1 (h.2), keep_cell (h.2) hS.2.2.2.2.2.2.1, keep_cell (h.2) hS.2.2.2.2.2.2.2.1, own_below hS.2.2.2.2.2.2.2.2.1 (h.2), below_via hS.2.2.2.2.2.2.2.2.2 (h.2)⟩⟩; with_reducible rfl) | (go_at_call 19; refine (HVS.out _ (hide (own_reads (hS.2.2.2.2.2.2.2.2.1)))).mono ?_; intro e w' h; refine ⟨h.1.trans ?_, ⟨keep_cell (h.2) hS.1, keep_cell (h.2) hS.2.1, own_below hS.2.2.1 (h.2), keep_cell (h.2) hS.2.2.2.1, keep_cell (h.2) hS.2.2.2.2.1, own_below hS.2.2.2.2.2.1 (h.2), keep_cell (h.2) hS.2.2.2.2.2.2.1, keep_cell (h.2) hS.2.2.2.2.2.2.2.1, own_below hS.2.2.2.2.2.2.2.2.1 (h.2), below_via hS.2.2.2.2.2.2.2.2.2 (h.2)⟩⟩; with_reducible rfl))); simp only [Act.put, zp1, zp2, zp3]))
      refine wpDet_nil ?_
      intro wz hS
      have hT : wz.cell? ⟨w5.heap.size, 0, none⟩ = some (.int .i64 M) ∧ wz.cell? ⟨w5.heap.size, 1, none⟩ = some (.slice A3 V.length c3) ∧ wz.ownsRow (b3) 42 10 (.slice A3 V.length c3) (V.length) (hds V) ∧ wz.cell? ⟨w3.heap.size, 0, none⟩ = some (.int .i64 M) ∧ wz.cell? ⟨w3.heap.size, 1, none⟩ = some (.slice A2 V.length c2) ∧ wz.ownsRow (b2) 42 10 (.slice A2 V.length c2) (V.length) (hds V) ∧ wz.cell? ⟨w1.heap.size, 0, none⟩ = some (.int .i64 m) ∧ wz.cell? ⟨w1.heap.size, 1, none⟩ = some (.slice A1 l.length c1) ∧ wz.ownsRow (b1) 42 10 (.slice A1 l.length c1) (l.length) (hds l) ∧ Below w.heap.size w wz := hS
      clear hS
      have hS := hT
      obtain ⟨c0, c1, c2, c3, c4, c5, c6, c7, c8, hB⟩ := hT
      have hzw : w.heap.size ≤ wz.heap.size := hB.size
      have hz1 : w5.heap.size < wz.heap.size := World.block_lt_of_cell? wz _ (hS.1)
      have hz2 : w3.heap.size < wz.heap.size := World.block_lt_of_cell? wz _ (hS.2.2.2.1)
      have hz3 : w1.heap.size < wz.heap.size := World.block_lt_of_cell? wz _ (hS.2.2.2.2.2.2.1)
      go_wp2_with fail
      go_meet
      case rel => exact ⟨by simp, hS⟩
  obtain ⟨rfl, hS3⟩ := hcut
  (try clear hS)
  have hS := hS3
  clear hS3
  have hB := hS.2.2.2.2.2.2.2.2.2
  have hzw : w.heap.size ≤ wc.heap.size := hB.size
  have hz1 : w5.heap.size < wc.heap.size := World.block_lt_of_cell? wc _ (hS.1)
  have hz2 : w3.heap.size < wc.heap.size := World.block_lt_of_cell? wc _ (hS.2.2.2.1)
  have hz3 : w1.heap.size < wc.heap.size := World.block_lt_of_cell? wc _ (hS.2.2.2.2.2.2.1)
  go_upto_if 71 with fail
  go_cut [] (fun wx => Below w.heap.size w wx)
  case first => as_aux_lemma =>
    cases K
    · go_wp2_with fail
      go_meet
      case rel => go_grown
    obtain ⟨f1, f2, rfl, f3, f4, f5, ⟨f6, f7⟩, f8, f9⟩ := HRF.out rfl
    obtain ⟨Tt, hT0⟩ : ∃ q, totF l = q := ⟨_, rfl⟩
    rw [hT0] at f4 f5 f6 f7
    clear hT0
    rcases hq : hfV M V (rfAd s) with ⟨qa, ⟨qb, qc, qd⟩, qe, ⟨qf, qg, qh⟩, qi, qj⟩
    rw [hq] at f9
    simp only at f9
    obtain ⟨fa, hfa⟩ : ∃ q, rfAd s = q := ⟨_, rfl⟩
    obtain ⟨fk, hfk⟩ : ∃ q, rfKd s = q := ⟨_, rfl⟩
    obtain ⟨fd, hfd⟩ : ∃ q, rfDt s = q := ⟨_, rfl⟩
    obtain ⟨fi, hfi⟩ : ∃ q, rfI s = q := ⟨_, rfl⟩
    have HRP := hide (repairFrame_c s (by omega))
    rw [hfa, hfk, hfd, hfi, f2] at HRP
    have HT1 := hide (fun (W : World) h => TotalFrames_c m A1 c1 l W h (by omega))
    rw [f4, f1] at HT1
    have HT2 := hide (fun (W : World) h => TotalFrames_c M A2 c2 V W h (by omega))
    rw [f5, f3] at HT2
    rw [hfa] at hq f8
    have HHF := hide (fun (W : World) h => HeardFrom_c M A2 c2 V fa W h (by omega))
    rw [hq, f8] at HHF
    simp only at HHF
    clear hq f8 f5 f4 f3 f2 f1 hfa hfk hfd hfi
    have ewt : IntKind.i64.wrap (Tt + 1) = Tt + 1 := IntWalk.i64_in _ (by omega)
    go_wp2_with fail
    refine (HRP.out _).mono ?_
    rintro e w7 ⟨rfl, hb⟩
    have hT : w7.cell? ⟨w5.heap.size, 0, none⟩ = some (.int .i64 M) ∧ w7.cell? ⟨w5.heap.size, 1, none⟩ = some (.slice A3 V.length c3) ∧ w7.ownsRow (b3) 42 10 (.slice A3 V.length c3) (V.length) (hds V) ∧ w7.cell? ⟨w3.heap.size, 0, none⟩ = some (.int .i64 M) ∧ w7.cell? ⟨w3.heap.size, 1, none⟩ = some (.slice A2 V.length c2) ∧ w7.ownsRow (b2) 42 10 (.slice A2 V.length c2) (V.length) (hds V) ∧ w7.cell? ⟨w1.heap.size, 0, none⟩ = some (.int .i64 m) ∧ w7.cell? ⟨w1.heap.size, 1, none⟩ = some (.slice A1 l.length c1) ∧ w7.ownsRow (b1) 42 10 (.slice A1 l.length c1) (l.length) (hds l) ∧ Below w.heap.size w w7 := ⟨keep_cell (hb) hS.1, keep_cell (hb) hS.2.1, own_below hS.2.2.1 (hb), keep_cell (hb) hS.2.2.2.1, keep_cell (hb) hS.2.2.2.2.1, own_below hS.2.2.2.2.2.1 (hb), keep_cell (hb) hS.2.2.2.2.2.2.1, keep_cell (hb) hS.2.2.2.2.2.2.2.1, own_below hS.2.2.2.2.2.2.2.2.1 (hb), below_via hS.2.2.2.2.2.2.2.2.2 (hb)⟩
    (try clear hS)
    have hS := hT
    clear hT
    have hB := hS.2.2.2.2.2.2.2.2.2
    have hzw : w.heap.size ≤ w7.heap.size := hB.size
    have hz1 : w5.heap.size < w7.heap.size := World.block_lt_of_cell? w7 _ (hS.1)
    have hz2 : w3.heap.size < w7.heap.size := World.block_lt_of_cell? w7 _ (hS.2.2.2.1)
    have hz3 : w1.heap.size < w7.heap.size := World.block_lt_of_cell? w7 _ (hS.2.2.2.2.2.2.1)
    clear hb
    go_wp2_with fail
    obtain ⟨w8, hww8⟩ : ∃ W, W = w7.alloc (.cells #[.int .i64 (fk), .int .i64 (fa), .int .i64 (fd)] 34) := ⟨_, rfl⟩
    have hT : w8.cell? ⟨w7.heap.size, 0, none⟩ = some (.int .i64 (fk)) ∧ w8.cell? ⟨w7.heap.size, 1, none⟩ = some (.int .i64 (fa)) ∧ w8.cell? ⟨w7.heap.size, 2, none⟩ = some (.int .i64 (fd)) ∧ w8.cell? ⟨w5.heap.size, 0, none⟩ = some (.int .i64 M) ∧ w8.cell? ⟨w5.heap.size, 1, none⟩ = some (.slice A3 V.length c3) ∧ w8.ownsRow (b3) 42 10 (.slice A3 V.length c3) (V.length) (hds V) ∧ w8.cell? ⟨w3.heap.size, 0, none⟩ = some (.int .i64 M) ∧ w8.cell? ⟨w3.heap.size, 1, none⟩ = some (.slice A2 V.length c2) ∧ w8.ownsRow (b2) 42 10 (.slice A2 V.length c2) (V.length) (hds V) ∧ w8.cell? ⟨w1.heap.size, 0, none⟩ = some (.int .i64 m) ∧ w8.cell? ⟨w1.heap.size, 1, none⟩ = some (.slice A1 l.length c1) ∧ w8.ownsRow (b1) 42 10 (.slice A1 l.length c1) (l.length) (hds l) ∧ Below w.heap.size w w8 := by
      rw [hww8]
      exact ⟨by simp [go_sem], by simp [go_sem], by simp [go_sem], keep_cell (by go_grown) hS.1, keep_cell (by go_grown) hS.2.1, own_below hS.2.2.1 (by go_grown), keep_cell (by go_grown) hS.2.2.2.1, keep_cell (by go_grown) hS.2.2.2.2.1, own_below hS.2.2.2.2.2.1 (by go_grown), keep_cell (by go_grown) hS.2.2.2.2.2.2.1, keep_cell (by go_grown) hS.2.2.2.2.2.2.2.1, own_below hS.2.2.2.2.2.2.2.2.1 (by go_grown), below_via hS.2.2.2.2.2.2.2.2.2 (by go_grown)⟩
    rw [← hww8]
    clear hS hww8
    have hS := hT
    clear hT
    (try clear hB hzw)
    have hB := hS.2.2.2.2.2.2.2.2.2.2.2.2
    have hzw : w.heap.size ≤ w8.heap.size := hB.size
    have hz1 : w7.heap.size < w8.heap.size := World.block_lt_of_cell? w8 _ (hS.1)
    have hz2 : w5.heap.size < w8.heap.size := World.block_lt_of_cell? w8 _ (hS.2.2.2.1)
    have hz3 : w3.heap.size < w8.heap.size := World.block_lt_of_cell? w8 _ (hS.2.2.2.2.2.2.1)
    have hz4 : w1.heap.size < w8.heap.size := World.block_lt_of_cell? w8 _ (hS.2.2.2.2.2.2.2.2.2.1)
    go_wp2_with fail
    refine (HT1.out _ (hide (own_reads (hS.2.2.2.2.2.2.2.2.2.2.2.1)))).mono ?_
    rintro e w9 ⟨rfl, hb⟩
    have hT : w9.cell? ⟨w7.heap.size, 0, none⟩ = some (.int .i64 (fk)) ∧ w9.cell? ⟨w7.heap.size, 1, none⟩ = some (.int .i64 (fa)) ∧ w9.cell? ⟨w7.heap.size, 2, none⟩ = some (.int .i64 (fd)) ∧ w9.cell? ⟨w5.heap.size, 0, none⟩ = some (.int .i64 M) ∧ w9.cell? ⟨w5.heap.size, 1, none⟩ = some (.slice A3 V.length c3) ∧ w9.ownsRow (b3) 42 10 (.slice A3 V.length c3) (V.length) (hds V) ∧ w9.cell? ⟨w3.heap.size, 0, none⟩ = some (.int .i64 M) ∧ w9.cell? ⟨w3.heap.size, 1, none⟩ = some (.slice A2 V.length c2) ∧ w9.ownsRow (b2) 42 10 (.slice A2 V.length c2) (V.length) (hds V) ∧ w9.cell? ⟨w1.heap.size, 0, none⟩ = some (.int .i64 m) ∧ w9.cell? ⟨w1.heap.size, 1, none⟩ = some (.slice A1 l.length c1) ∧ w9.ownsRow (b1) 42 10 (.slice A1 l.length c1) (l.length) (hds l) ∧ Below w.heap.size w w9 := ⟨keep_cell (hb) hS.1, keep_cell (hb) hS.2.1, keep_cell (hb) hS.2.2.1, keep_cell (hb) hS.2.2.2.1, keep_cell (hb) hS.2.2.2.2.1, own_below hS.2.2.2.2.2.1 (hb), keep_cell (hb) hS.2.2.2.2.2.2.1, keep_cell (hb) hS.2.2.2.2.2.2.2.1, own_below hS.2.2.2.2.2.2.2.2.1 (hb), keep_cell (hb) hS.2.2.2.2.2.2.2.2.2.1, keep_cell (hb) hS.2.2.2.2.2.2.2.2.2.2.1, own_below hS.2.2.2.2.2.2.2.2.2.2.2.1 (hb), below_via hS.2.2.2.2.2.2.2.2.2.2.2.2 (hb)⟩
    (try clear hS)
    have hS := hT
    clear hT
    have hB := hS.2.2.2.2.2.2.2.2.2.2.2.2
    have hzw : w.heap.size ≤ w9.heap.size := hB.size
    have hz1 : w7.heap.size < w9.heap.size := World.block_lt_of_cell? w9 _ (hS.1)
    have hz2 : w5.heap.size < w9.heap.size := World.block_lt_of_cell? w9 _ (hS.2.2.2.1)
    have hz3 : w3.heap.size < w9.heap.size := World.block_lt_of_cell? w9 _ (hS.2.2.2.2.2.2.1)
    have hz4 : w1.heap.size < w9.heap.size := World.block_lt_of_cell? w9 _ (hS.2.2.2.2.2.2.2.2.2.1)
    clear hb
    go_wp2_with fail
    refine (HT2.out _ (hide (own_reads (hS.2.2.2.2.2.2.2.2.1)))).mono ?_
    rintro e w10 ⟨rfl, hb⟩
    have hT : w10.cell? ⟨w7.heap.size, 0, none⟩ = some (.int .i64 (fk)) ∧ w10.cell? ⟨w7.heap.size, 1, none⟩ = some (.int .i64 (fa)) ∧ w10.cell? ⟨w7.heap.size, 2, none⟩ = some (.int .i64 (fd)) ∧ w10.cell? ⟨w5.heap.size, 0, none⟩ = some (.int .i64 M) ∧ w10.cell? ⟨w5.heap.size, 1, none⟩ = some (.slice A3 V.length c3) ∧ w10.ownsRow (b3) 42 10 (.slice A3 V.length c3) (V.length) (hds V) ∧ w10.cell? ⟨w3.heap.size, 0, none⟩ = some (.int .i64 M) ∧ w10.cell? ⟨w3.heap.size, 1, none⟩ = some (.slice A2 V.length c2) ∧ w10.ownsRow (b2) 42 10 (.slice A2 V.length c2) (V.length) (hds V) ∧ w10.cell? ⟨w1.heap.size, 0, none⟩ = some (.int .i64 m) ∧ w10.cell? ⟨w1.heap.size, 1, none⟩ = some (.slice A1 l.length c1) ∧ w10.ownsRow (b1) 42 10 (.slice A1 l.length c1) (l.length) (hds l) ∧ Below w.heap.size w w10 := ⟨keep_cell (hb) hS.1, keep_cell (hb) hS.2.1, keep_cell (hb) hS.2.2.1, keep_cell (hb) hS.2.2.2.1, keep_cell (hb) hS.2.2.2.2.1, own_below hS.2.2.2.2.2.1 (hb), keep_cell (hb) hS.2.2.2.2.2.2.1, keep_cell (hb) hS.2.2.2.2.2.2.2.1, own_below hS.2.2.2.2.2.2.2.2.1 (hb), keep_cell (hb) hS.2.2.2.2.2.2.2.2.2.1, keep_cell (hb) hS.2.2.2.2.2.2.2.2.2.2.1, own_below hS.2.2.2.2.2.2.2.2.2.2.2.1 (hb), below_via hS.2.2.2.2.2.2.2.2.2.2.2.2 (hb)⟩
    (try clear hS)
    have hS := hT
    clear hT
    have hB := hS.2.2.2.2.2.2.2.2.2.2.2.2
    have hzw : w.heap.size ≤ w10.heap.size := hB.size
    have hz1 : w7.heap.size < w10.heap.size := World.block_lt_of_cell? w10 _ (hS.1)
    have hz2 : w5.heap.size < w10.heap.size := World.block_lt_of_cell? w10 _ (hS.2.2.2.1)
    have hz3 : w3.heap.size < w10.heap.size := World.block_lt_of_cell? w10 _ (hS.2.2.2.2.2.2.1)
    have hz4 : w1.heap.size < w10.heap.size := World.block_lt_of_cell? w10 _ (hS.2.2.2.2.2.2.2.2.2.1)
    clear hb
    go_wp2_with fail
    refine (HHF.out _ (hide (own_reads (hS.2.2.2.2.2.2.2.2.1)))).mono ?_
    rintro e w11 ⟨rfl, hb⟩
    have hT : w11.cell? ⟨w7.heap.size, 0, none⟩ = some (.int .i64 (fk)) ∧ w11.cell? ⟨w7.heap.size, 1, none⟩ = some (.int .i64 (fa)) ∧ w11.cell? ⟨w7.heap.size, 2, none⟩ = some (.int .i64 (fd)) ∧ w11.cell? ⟨w5.heap.size, 0, none⟩ = some (.int .i64 M) ∧ w11.cell? ⟨w5.heap.size, 1, none⟩ = some (.slice A3 V.length c3) ∧ w11.ownsRow (b3) 42 10 (.slice A3 V.length c3) (V.length) (hds V) ∧ w11.cell? ⟨w3.heap.size, 0, none⟩ = some (.int .i64 M) ∧ w11.cell? ⟨w3.heap.size, 1, none⟩ = some (.slice A2 V.length c2) ∧ w11.ownsRow (b2) 42 10 (.slice A2 V.length c2) (V.length) (hds V) ∧ w11.cell? ⟨w1.heap.size, 0, none⟩ = some (.int .i64 m) ∧ w11.cell? ⟨w1.heap.size, 1, none⟩ = some (.slice A1 l.length c1) ∧ w11.ownsRow (b1) 42 10 (.slice A1 l.length c1) (l.length) (hds l) ∧ Below w.heap.size w w11 := ⟨keep_cell (hb) hS.1, keep_cell (hb) hS.2.1, keep_cell (hb) hS.2.2.1, keep_cell (hb) hS.2.2.2.1, keep_cell (hb) hS.2.2.2.2.1, own_below hS.2.2.2.2.2.1 (hb), keep_cell (hb) hS.2.2.2.2.2.2.1, keep_cell (hb) hS.2.2.2.2.2.2.2.1, own_below hS.2.2.2.2.2.2.2.2.1 (hb), keep_cell (hb) hS.2.2.2.2.2.2.2.2.2.1, keep_cell (hb) hS.2.2.2.2.2.2.2.2.2.2.1, own_below hS.2.2.2.2.2.2.2.2.2.2.2.1 (hb), below_via hS.2.2.2.2.2.2.2.2.2.2.2.2 (hb)⟩
    (try clear hS)
    have hS := hT
    clear hT
    have hB := hS.2.2.2.2.2.2.2.2.2.2.2.2
    have hzw : w.heap.size ≤ w11.heap.size := hB.size
    have hz1 : w7.heap.size < w11.heap.size := World.block_lt_of_cell? w11 _ (hS.1)
    have hz2 : w5.heap.size < w11.heap.size := World.block_lt_of_cell? w11 _ (hS.2.2.2.1)
    have hz3 : w3.heap.size < w11.heap.size := World.block_lt_of_cell? w11 _ (hS.2.2.2.2.2.2.1)
    have hz4 : w1.heap.size < w11.heap.size := World.block_lt_of_cell? w11 _ (hS.2.2.2.2.2.2.2.2.2.1)
    clear hb
    go_upto_region 13 with fail
    obtain ⟨w12, hww12⟩ : ∃ W, W = w11.alloc (.cells #[.int .i64 (qa), .bool qb, .int .i64 (qc), .int .i64 (qd), .int .i64 (qe), .bool qf, .int .i64 (qg), .int .i64 (qh), .int .i64 (qi), .int .i64 (qj)] 42) := ⟨_, rfl⟩
    have hT : w12.cell? ⟨w11.heap.size, 0, none⟩ = some (.int .i64 (qa)) ∧ w12.cell? ⟨w11.heap.size, 1, none⟩ = some (.bool qb) ∧ w12.cell? ⟨w11.heap.size, 2, none⟩ = some (.int .i64 (qc)) ∧ w12.cell? ⟨w11.heap.size, 3, none⟩ = some (.int .i64 (qd)) ∧ w12.cell? ⟨w11.heap.size, 4, none⟩ = some (.int .i64 (qe)) ∧ w12.cell? ⟨w11.heap.size, 5, none⟩ = some (.bool qf) ∧ w12.cell? ⟨w11.heap.size, 6, none⟩ = some (.int .i64 (qg)) ∧ w12.cell? ⟨w11.heap.size, 7, none⟩ = some (.int .i64 (qh)) ∧ w12.cell? ⟨w11.heap.size, 8, none⟩ = some (.int .i64 (qi)) ∧ w12.cell? ⟨w11.heap.size, 9, none⟩ = some (.int .i64 (qj)) ∧ w12.cell? ⟨w7.heap.size, 0, none⟩ = some (.int .i64 (fk)) ∧ w12.cell? ⟨w7.heap.size, 1, none⟩ = some (.int .i64 (fa)) ∧ w12.cell? ⟨w7.heap.size, 2, none⟩ = some (.int .i64 (fd)) ∧ w12.cell? ⟨w5.heap.size, 0, none⟩ = some (.int .i64 M) ∧ w12.cell? ⟨w5.heap.size, 1, none⟩ = some (.slice A3 V.length c3) ∧ w12.ownsRow (b3) 42 10 (.slice A3 V.length c3) (V.length) (hds V) ∧ w12.cell? ⟨w3.heap.size, 0, none⟩ = some (.int .i64 M) ∧ w12.cell? ⟨w3.heap.size, 1, none⟩ = some (.slice A2 V.length c2) ∧ w12.ownsRow (b2) 42 10 (.slice A2 V.length c2) (V.length) (hds V) ∧ w12.cell? ⟨w1.heap.size, 0, none⟩ = some (.int .i64 m) ∧ w12.cell? ⟨w1.heap.size, 1, none⟩ = some (.slice A1 l.length c1) ∧ w12.ownsRow (b1) 42 10 (.slice A1 l.length c1) (l.length) (hds l) ∧ Below w.heap.size w w12 := by
      rw [hww12]
      exact ⟨by simp [go_sem], by simp [go_sem], by simp [go_sem], by simp [go_sem], by simp [go_sem], by simp [go_sem], by simp [go_sem], by simp [go_sem], by simp [go_sem], by simp [go_sem], keep_cell (by go_grown) hS.1, keep_cell (by go_grown) hS.2.1, keep_cell (by go_grown) hS.2.2.1, keep_cell (by go_grown) hS.2.2.2.1, keep_cell (by go_grown) hS.2.2.2.2.1, own_below hS.2.2.2.2.2.1 (by go_grown), keep_cell (by go_grown) hS.2.2.2.2.2.2.1, keep_cell (by go_grown) hS.2.2.2.2.2.2.2.1, own_below hS.2.2.2.2.2.2.2.2.1 (by go_grown), keep_cell (by go_grown) hS.2.2.2.2.2.2.2.2.2.1, keep_cell (by go_grown) hS.2.2.2.2.2.2.2.2.2.2.1, own_below hS.2.2.2.2.2.2.2.2.2.2.2.1 (by go_grown), below_via hS.2.2.2.2.2.2.2.2.2.2.2.2 (by go_grown)⟩
    rw [← hww12]
    clear hS hww12
    have hS := hT
    clear hT
    (try clear hB hzw)
    have hB := hS.2.2.2.2.2.2.2.2.2.2.2.2.2.2.2.2.2.2.2.2.2.2
    have hzw : w.heap.size ≤ w12.heap.size := hB.size
    have hz1 : w11.heap.size < w12.heap.size := World.block_lt_of_cell? w12 _ (hS.1)
    have hz2 : w7.heap.size < w12.heap.size := World.block_lt_of_cell? w12 _ (hS.2.2.2.2.2.2.2.2.2.2.1)
    have hz3 : w5.heap.size < w12.heap.size := World.block_lt_of_cell? w12 _ (hS.2.2.2.2.2.2.2.2.2.2.2.2.2.1)
    have hz4 : w3.heap.size < w12.heap.size := World.block_lt_of_cell? w12 _ (hS.2.2.2.2.2.2.2.2.2.2.2.2.2.2.2.2.1)
    have hz5 : w1.heap.size < w12.heap.size := World.block_lt_of_cell? w12 _ (hS.2.2.2.2.2.2.2.2.2.2.2.2.2.2.2.2.2.2.2.1)
    have hq1 : decide (qj < 1) = false := decide_eq_false (by omega)
    go_wp2_with fail
    go_meet
    case rel => go_grown
  have hB : Below w.heap.size w wc := hcut
  clear hcut
  (try clear hS)
  have hzw : w.heap.size ≤ wc.heap.size := hB.size
  go_wp2_with fail
  refine (drawPosNow_c A n c _ (hide (h1.out.below (by go_grown))) HN.out).mono ?_
  rintro e w7 ⟨m5, l5, A5, c5, y, rfl, ho5, hl520, ⟨hm50, hm51⟩, ⟨hy0, hy1⟩, hb⟩
  obtain ⟨b5, ho5, hbk5⟩ := own_based ho5 (m := wc.heap.size) (by first | omega | (simp; done) | (simp; omega))
  have hT : w7.ownsRow (b5) 42 10 (.slice A5 l5.length c5) (l5.length) (hds l5) ∧ Below w.heap.size w w7 := ⟨ho5, (fun W h hb => below_via h (hb) : ∀ W : World, (Below w.heap.size w W) → Below W.heap.size W w7 → (Below w.heap.size w w7)) _ (by first | (with_reducible assumption) | go_grown) hb⟩
  (try clear hS)
  have hS := hT
  clear hT
  have hB := hS.2
  have hzw : w.heap.size ≤ w7.heap.size := hB.size
  clear hb
  go_wp2_with fail
  obtain ⟨w8, hww8⟩ : ∃ W, W = w7.alloc (.cells #[.int .i64 m5, .slice A5 l5.length c5] 26) := ⟨_, rfl⟩
  have hT : w8.cell? ⟨w7.heap.size, 0, none⟩ = some (.int .i64 m5) ∧ w8.cell? ⟨w7.heap.size, 1, none⟩ = some (.slice A5 l5.length c5) ∧ w8.ownsRow (b5) 42 10 (.slice A5 l5.length c5) (l5.length) (hds l5) ∧ Below w.heap.size w w8 := by
    rw [hww8]
    exact ⟨by simp [go_sem], by simp [go_sem], own_below hS.1 (by go_grown), below_via hS.2 (by go_grown)⟩
  rw [← hww8]
  clear hS hww8
  have hS := hT
  clear hT
  (try clear hB hzw)
  have hB := hS.2.2.2
  have hzw : w.heap.size ≤ w8.heap.size := hB.size
  have hz1 : w7.heap.size < w8.heap.size := World.block_lt_of_cell? w8 _ (hS.1)
  have hfl := faV_len m5 l5
  have HPB := hide (fun (h : ppK m5 l5 y = true) => pp_back h rfl rfl)
  have HFH := hide (fun (h : okR m5 l5 = true) => fa_has (y := y) h rfl)
  have HPO := hide (fun (h : ppK m5 l5 y = true) => pp_okR h)
  obtain ⟨X, hX0⟩ : ∃ q, ppX m5 l5 y = q := ⟨_, rfl⟩
  obtain ⟨Y, hY0⟩ : ∃ q, ppY m5 l5 y = q := ⟨_, rfl⟩
  obtain ⟨K5, hK50⟩ : ∃ q, ppK m5 l5 y = q := ⟨_, rfl⟩
  obtain ⟨F, hF0⟩ : ∃ q, faV m5 l5 = q := ⟨_, rfl⟩
  obtain ⟨G5, hG50⟩ : ∃ q, okR m5 l5 = q := ⟨_, rfl⟩
  rw [hX0, hY0, hK50] at HPB
  rw [hK50, hF0, hG50] at HFH
  rw [hK50, hG50] at HPO
  rw [hF0] at hfl
  have HX := hide hX0
  have HY := hide hY0
  have HK5 := hide hK50
  have HF := hide hF0
  have HG := hide hG50
  clear hX0 hY0 hK50 hF0 hG50
  go_wp2_with fail
  refine (PositionNow_c m5 A5 c5 l5 y _ (hide (own_reads (hS.2.2.1))) (by omega)).mono ?_
  rw [HX.out, HY.out, HK5.out]
  rintro e w9 ⟨rfl, hb⟩
  have hT : w9.cell? ⟨w7.heap.size, 0, none⟩ = some (.int .i64 m5) ∧ w9.cell? ⟨w7.heap.size, 1, none⟩ = some (.slice A5 l5.length c5) ∧ w9.ownsRow (b5) 42 10 (.slice A5 l5.length c5) (l5.length) (hds l5) ∧ Below w.heap.size w w9 := ⟨keep_cell (hb) hS.1, keep_cell (hb) hS.2.1, own_below hS.2.2.1 (hb), below_via hS.2.2.2 (hb)⟩
  (try clear hS)
  have hS := hT
  clear hT
  have hB := hS.2.2.2
  have hzw : w.heap.size ≤ w9.heap.size := hB.size
  have hz1 : w7.heap.size < w9.heap.size := World.block_lt_of_cell? w9 _ (hS.1)
  clear hb
  go_wp2_with fail
  obtain ⟨w10, hww10⟩ : ∃ W, W = w9.alloc (.cells #[.int .i64 X, .int .i64 Y] 48) := ⟨_, rfl⟩
  have hT : w10.cell? ⟨w9.heap.size, 0, none⟩ = some (.int .i64 X) ∧ w10.cell? ⟨w9.heap.size, 1, none⟩ = some (.int .i64 Y) ∧ w10.cell? ⟨w7.heap.size, 0, none⟩ = some (.int .i64 m5) ∧ w10.cell? ⟨w7.heap.size, 1, none⟩ = some (.slice A5 l5.length c5) ∧ w10.ownsRow (b5) 42 10 (.slice A5 l5.length c5) (l5.length) (hds l5) ∧ Below w.heap.size w w10 := by
    rw [hww10]
    exact ⟨by simp [go_sem], by simp [go_sem], keep_cell (by go_grown) hS.1, keep_cell (by go_grown) hS.2.1, own_below hS.2.2.1 (by go_grown), below_via hS.2.2.2 (by go_grown)⟩
  rw [← hww10]
  clear hS hww10
  have hS := hT
  clear hT
  (try clear hB hzw)
  have hB := hS.2.2.2.2.2
  have hzw : w.heap.size ≤ w10.heap.size := hB.size
  have hz1 : w9.heap.size < w10.heap.size := World.block_lt_of_cell? w10 _ (hS.1)
  have hz2 : w7.heap.size < w10.heap.size := World.block_lt_of_cell? w10 _ (hS.2.2.1)
  go_wp2_with fail
  refine (sPositionNow_c m5 A5 c5 l5 y _ (hide (own_reads (hS.2.2.2.2.1))) (by omega)).mono ?_
  rw [HX.out, HY.out, HK5.out]
  rintro e w11 ⟨rfl, hb⟩
  have hT : w11.cell? ⟨w9.heap.size, 0, none⟩ = some (.int .i64 X) ∧ w11.cell? ⟨w9.heap.size, 1, none⟩ = some (.int .i64 Y) ∧ w11.cell? ⟨w7.heap.size, 0, none⟩ = some (.int .i64 m5) ∧ w11.cell? ⟨w7.heap.size, 1, none⟩ = some (.slice A5 l5.length c5) ∧ w11.ownsRow (b5) 42 10 (.slice A5 l5.length c5) (l5.length) (hds l5) ∧ Below w.heap.size w w11 := ⟨keep_cell (hb) hS.1, keep_cell (hb) hS.2.1, keep_cell (hb) hS.2.2.1, keep_cell (hb) hS.2.2.2.1, own_below hS.2.2.2.2.1 (hb), below_via hS.2.2.2.2.2 (hb)⟩
  (try clear hS)
  have hS := hT
  clear hT
  have hB := hS.2.2.2.2.2
  have hzw : w.heap.size ≤ w11.heap.size := hB.size
  have hz1 : w9.heap.size < w11.heap.size := World.block_lt_of_cell? w11 _ (hS.1)
  have hz2 : w7.heap.size < w11.heap.size := World.block_lt_of_cell? w11 _ (hS.2.2.1)
  clear hb
  go_wp2_with fail
  obtain ⟨w12, hww12⟩ : ∃ W, W = w11.alloc (.cells #[.int .i64 X, .int .i64 Y] 48) := ⟨_, rfl⟩
  have hT : w12.cell? ⟨w11.heap.size, 0, none⟩ = some (.int .i64 X) ∧ w12.cell? ⟨w11.heap.size, 1, none⟩ = some (.int .i64 Y) ∧ w12.cell? ⟨w9.heap.size, 0, none⟩ = some (.int .i64 X) ∧ w12.cell? ⟨w9.heap.size, 1, none⟩ = some (.int .i64 Y) ∧ w12.cell? ⟨w7.heap.size, 0, none⟩ = some (.int .i64 m5) ∧ w12.cell? ⟨w7.heap.size, 1, none⟩ = some (.slice A5 l5.length c5) ∧ w12.ownsRow (b5) 42 10 (.slice A5 l5.length c5) (l5.length) (hds l5) ∧ Below w.heap.size w w12 := by
    rw [hww12]
    exact ⟨by simp [go_sem], by simp [go_sem], keep_cell (by go_grown) hS.1, keep_cell (by go_grown) hS.2.1, keep_cell (by go_grown) hS.2.2.1, keep_cell (by go_grown) hS.2.2.2.1, own_below hS.2.2.2.2.1 (by go_grown), below_via hS.2.2.2.2.2 (by go_grown)⟩
  rw [← hww12]
  clear hS hww12
  have hS := hT
  clear hT
  (try clear hB hzw)
  have hB := hS.2.2.2.2.2.2.2
  have hzw : w.heap.size ≤ w12.heap.size := hB.size
  have hz1 : w11.heap.size < w12.heap.size := World.block_lt_of_cell? w12 _ (hS.1)
  have hz2 : w9.heap.size < w12.heap.size := World.block_lt_of_cell? w12 _ (hS.2.2.1)
  have hz3 : w7.heap.size < w12.heap.size := World.block_lt_of_cell? w12 _ (hS.2.2.2.2.1)
  go_wp2_with fail
  refine (FreshAdr_c m5 A5 c5 l5 _ (hide (own_reads (hS.2.2.2.2.2.2.1))) (by omega)).mono ?_
  rw [HF.out, HG.out]
  rintro e w13 ⟨A6, c6, rfl, ho6, hb⟩
  obtain ⟨b6, ho6, hbk6⟩ := own_based ho6 (m := w12.heap.size) (by first | omega | (simp; done) | (simp; omega))
  have hT : w13.ownsRow (b6) 3 1 (.slice A6 F.length c6) (F.length) (ints F) ∧ w13.cell? ⟨w11.heap.size, 0, none⟩ = some (.int .i64 X) ∧ w13.cell? ⟨w11.heap.size, 1, none⟩ = some (.int .i64 Y) ∧ w13.cell? ⟨w9.heap.size, 0, none⟩ = some (.int .i64 X) ∧ w13.cell? ⟨w9.heap.size, 1, none⟩ = some (.int .i64 Y) ∧ w13.cell? ⟨w7.heap.size, 0, none⟩ = some (.int .i64 m5) ∧ w13.cell? ⟨w7.heap.size, 1, none⟩ = some (.slice A5 l5.length c5) ∧ w13.ownsRow (b5) 42 10 (.slice A5 l5.length c5) (l5.length) (hds l5) ∧ Below w.heap.size w w13 := ⟨ho6, ⟨keep_cell (hb) hS.1, keep_cell (hb) hS.2.1, keep_cell (hb) hS.2.2.1, keep_cell (hb) hS.2.2.2.1, keep_cell (hb) hS.2.2.2.2.1, keep_cell (hb) hS.2.2.2.2.2.1, own_below hS.2.2.2.2.2.2.1 (hb), below_via hS.2.2.2.2.2.2.2 (hb)⟩⟩
  (try clear hS)
  have hS := hT
  clear hT
  have hB := hS.2.2.2.2.2.2.2.2
  have hzw : w.heap.size ≤ w13.heap.size := hB.size
  have hz1 : w11.heap.size < w13.heap.size := World.block_lt_of_cell? w13 _ (hS.2.1)
  have hz2 : w9.heap.size < w13.heap.size := World.block_lt_of_cell? w13 _ (hS.2.2.2.1)
  have hz3 : w7.heap.size < w13.heap.size := World.block_lt_of_cell? w13 _ (hS.2.2.2.2.2.1)
  clear hb
  go_upto_region 21 with fail
  go_cut [163] (fun s wx => s = .bool false ∧ (wx.ownsRow (b6) 3 1 (.slice A6 F.length c6) (F.length) (ints F) ∧ wx.cell? ⟨w11.heap.size, 0, none⟩ = some (.int .i64 X) ∧ wx.cell? ⟨w11.heap.size, 1, none⟩ = some (.int .i64 Y) ∧ wx.cell? ⟨w9.heap.size, 0, none⟩ = some (.int .i64 X) ∧ wx.cell? ⟨w9.heap.size, 1, none⟩ = some (.int .i64 Y) ∧ wx.cell? ⟨w7.heap.size, 0, none⟩ = some (.int .i64 m5) ∧ wx.cell? ⟨w7.heap.size, 1, none⟩ = some (.slice A5 l5.length c5) ∧ wx.ownsRow (b5) 42 10 (.slice A5 l5.length c5) (l5.length) (hds l5) ∧ Below w.heap.size w wx))
  case first => as_aux_lemma =>
    cases G5
    · go_wp2_with fail
      go_meet
      case rel => exact ⟨by simp, hS⟩
    have HVH := hide (fun (W : World) h => vHas_c A6 c6 F y W h (by omega))
    rw [HFH.out rfl] at HVH
    go_wp2_with fail
    refine (HVH.out _ (hide (own_reads (hS.1)))).mono ?_
    rintro e w14 ⟨rfl, hb⟩
    have hT : w14.ownsRow (b6) 3 1 (.slice A6 F.length c6) (F.length) (ints F) ∧ w14.cell? ⟨w11.heap.size, 0, none⟩ = some (.int .i64 X) ∧ w14.cell? ⟨w11.heap.size, 1, none⟩ = some (.int .i64 Y) ∧ w14.cell? ⟨w9.heap.size, 0, none⟩ = some (.int .i64 X) ∧ w14.cell? ⟨w9.heap.size, 1, none⟩ = some (.int .i64 Y) ∧ w14.cell? ⟨w7.heap.size, 0, none⟩ = some (.int .i64 m5) ∧ w14.cell? ⟨w7.heap.size, 1, none⟩ = some (.slice A5 l5.length c5) ∧ w14.ownsRow (b5) 42 10 (.slice A5 l5.length c5) (l5.length) (hds l5) ∧ Below w.heap.size w w14 := ⟨own_below hS.1 (hb), keep_cell (hb) hS.2.1, keep_cell (hb) hS.2.2.1, keep_cell (hb) hS.2.2.2.1, keep_cell (hb) hS.2.2.2.2.1, keep_cell (hb) hS.2.2.2.2.2.1, keep_cell (hb) hS.2.2.2.2.2.2.1, own_below hS.2.2.2.2.2.2.2.1 (hb), below_via hS.2.2.2.2.2.2.2.2 (hb)⟩
    (try clear hS)
    have hS := hT
    clear hT
    have hB := hS.2.2.2.2.2.2.2.2
    have hzw : w.heap.size ≤ w14.heap.size := hB.size
    have hz1 : w11.heap.size < w14.heap.size := World.block_lt_of_cell? w14 _ (hS.2.1)
    have hz2 : w9.heap.size < w14.heap.size := World.block_lt_of_cell? w14 _ (hS.2.2.2.1)
    have hz3 : w7.heap.size < w14.heap.size := World.block_lt_of_cell? w14 _ (hS.2.2.2.2.2.1)
    clear hb
    go_wp2_with fail
    go_meet
    case rel => exact ⟨by simp, hS⟩
  obtain ⟨rfl, hS3⟩ := hcut
  (try clear hS)
  have hS := hS3
  clear hS3
  have hB := hS.2.2.2.2.2.2.2.2
  have hzw : w.heap.size ≤ wc.heap.size := hB.size
  have hz1 : w11.heap.size < wc.heap.size := World.block_lt_of_cell? wc _ (hS.2.1)
  have hz2 : w9.heap.size < wc.heap.size := World.block_lt_of_cell? wc _ (hS.2.2.2.1)
  have hz3 : w7.heap.size < wc.heap.size := World.block_lt_of_cell? wc _ (hS.2.2.2.2.2.1)
  cases K5
  · go_wp2
    go_returns
    exact ⟨ret_eq (by simp), by go_grown⟩
  obtain ⟨qa, qc, qd, qe, qg, qh, qi, qj, g1, g2, g3, ⟨g4, g5, g6⟩, g7, g8, g9⟩ := HPB.out rfl
  have HHF := hide (fun (W : World) h => HeardFrom_c m5 A5 c5 l5 y W h (by omega))
  rw [g2, g1] at HHF
  simp only at HHF
  have HR0 := hide (reportOf_c X Y false)
  rw [g3, g4, g5, g6] at HR0
  have HR1 := hide (reportOf_c X Y true)
  rw [g3, g7, g8, g9] at HR1
  clear g1 g2 g3 g4 g5 g6 g7 g8 g9
  go_wp2_with fail
  refine (HHF.out _ (hide (own_reads (hS.2.2.2.2.2.2.2.1)))).mono ?_
  rintro e w14 ⟨rfl, hb⟩
  have hT : w14.ownsRow (b6) 3 1 (.slice A6 F.length c6) (F.length) (ints F) ∧ w14.cell? ⟨w11.heap.size, 0, none⟩ = some (.int .i64 X) ∧ w14.cell? ⟨w11.heap.size, 1, none⟩ = some (.int .i64 Y) ∧ w14.cell? ⟨w9.heap.size, 0, none⟩ = some (.int .i64 X) ∧ w14.cell? ⟨w9.heap.size, 1, none⟩ = some (.int .i64 Y) ∧ w14.cell? ⟨w7.heap.size, 0, none⟩ = some (.int .i64 m5) ∧ w14.cell? ⟨w7.heap.size, 1, none⟩ = some (.slice A5 l5.length c5) ∧ w14.ownsRow (b5) 42 10 (.slice A5 l5.length c5) (l5.length) (hds l5) ∧ Below w.heap.size w w14 := ⟨own_below hS.1 (hb), keep_cell (hb) hS.2.1, keep_cell (hb) hS.2.2.1, keep_cell (hb) hS.2.2.2.1, keep_cell (hb) hS.2.2.2.2.1, keep_cell (hb) hS.2.2.2.2.2.1, keep_cell (hb) hS.2.2.2.2.2.2.1, own_below hS.2.2.2.2.2.2.2.1 (hb), below_via hS.2.2.2.2.2.2.2.2 (hb)⟩
  (try clear hS)
  have hS := hT
  clear hT
  have hB := hS.2.2.2.2.2.2.2.2
  have hzw : w.heap.size ≤ w14.heap.size := hB.size
  have hz1 : w11.heap.size < w14.heap.size := World.block_lt_of_cell? w14 _ (hS.2.1)
  have hz2 : w9.heap.size < w14.heap.size := World.block_lt_of_cell? w14 _ (hS.2.2.2.1)
  have hz3 : w7.heap.size < w14.heap.size := World.block_lt_of_cell? w14 _ (hS.2.2.2.2.2.1)
  clear hb
  go_wp2_with fail
  obtain ⟨w15, hww15⟩ : ∃ W, W = w14.alloc (.cells #[.int .i64 (qa), .bool false, .int .i64 (qc), .int .i64 (qd), .int .i64 (qe), .bool true, .int .i64 (qg), .int .i64 (qh), .int .i64 (qi), .int .i64 (qj)] 42) := ⟨_, rfl⟩
  have hT : w15.cell? ⟨w14.heap.size, 0, none⟩ = some (.int .i64 (qa)) ∧ w15.cell? ⟨w14.heap.size, 1, none⟩ = some (.bool false) ∧ w15.cell? ⟨w14.heap.size, 2, none⟩ = some (.int .i64 (qc)) ∧ w15.cell? ⟨w14.heap.size, 3, none⟩ = some (.int .i64 (qd)) ∧ w15.cell? ⟨w14.heap.size, 4, none⟩ = some (.int .i64 (qe)) ∧ w15.cell? ⟨w14.heap.size, 5, none⟩ = some (.bool true) ∧ w15.cell? ⟨w14.heap.size, 6, none⟩ = some (.int .i64 (qg)) ∧ w15.cell? ⟨w14.heap.size, 7, none⟩ = some (.int .i64 (qh)) ∧ w15.cell? ⟨w14.heap.size, 8, none⟩ = some (.int .i64 (qi)) ∧ w15.cell? ⟨w14.heap.size, 9, none⟩ = some (.int .i64 (qj)) ∧ w15.ownsRow (b6) 3 1 (.slice A6 F.length c6) (F.length) (ints F) ∧ w15.cell? ⟨w11.heap.size, 0, none⟩ = some (.int .i64 X) ∧ w15.cell? ⟨w11.heap.size, 1, none⟩ = some (.int .i64 Y) ∧ w15.cell? ⟨w9.heap.size, 0, none⟩ = some (.int .i64 X) ∧ w15.cell? ⟨w9.heap.size, 1, none⟩ = some (.int .i64 Y) ∧ w15.cell? ⟨w7.heap.size, 0, none⟩ = some (.int .i64 m5) ∧ w15.cell? ⟨w7.heap.size, 1, none⟩ = some (.slice A5 l5.length c5) ∧ w15.ownsRow (b5) 42 10 (.slice A5 l5.length c5) (l5.length) (hds l5) ∧ Below w.heap.size w w15 := by
    rw [hww15]
    exact ⟨by simp [go_sem], by simp [go_sem], by simp [go_sem], by simp [go_sem], by simp [go_sem], by simp [go_sem], by simp [go_sem], by simp [go_sem], by simp [go_sem], by simp [go_sem], own_below hS.1 (by go_grown), keep_cell (by go_grown) hS.2.1, keep_cell (by go_grown) hS.2.2.1, keep_cell (by go_grown) hS.2.2.2.1, keep_cell (by go_grown) hS.2.2.2.2.1, keep_cell (by go_grown) hS.2.2.2.2.2.1, keep_cell (by go_grown) hS.2.2.2.2.2.2.1, own_below hS.2.2.2.2.2.2.2.1 (by go_grown), below_via hS.2.2.2.2.2.2.2.2 (by go_grown)⟩
  rw [← hww15]
  clear hS hww15
  have hS := hT
  clear hT
  (try clear hB hzw)
  have hB := hS.2.2.2.2.2.2.2.2.2.2.2.2.2.2.2.2.2.2
  have hzw : w.heap.size ≤ w15.heap.size := hB.size
  have hz1 : w14.heap.size < w15.heap.size := World.block_lt_of_cell? w15 _ (hS.1)
  have hz2 : w11.heap.size < w15.heap.size := World.block_lt_of_cell? w15 _ (hS.2.2.2.2.2.2.2.2.2.2.2.1)
  have hz3 : w9.heap.size < w15.heap.size := World.block_lt_of_cell? w15 _ (hS.2.2.2.2.2.2.2.2.2.2.2.2.2.1)
  have hz4 : w7.heap.size < w15.heap.size := World.block_lt_of_cell? w15 _ (hS.2.2.2.2.2.2.2.2.2.2.2.2.2.2.2.1)
  go_wp2_with fail
  refine (HR0.out _).mono ?_
  rintro e w16 ⟨rfl, hb⟩
  have hT : w16.cell? ⟨w14.heap.size, 0, none⟩ = some (.int .i64 (qa)) ∧ w16.cell? ⟨w14.heap.size, 1, none⟩ = some (.bool false) ∧ w16.cell? ⟨w14.heap.size, 2, none⟩ = some (.int .i64 (qc)) ∧ w16.cell? ⟨w14.heap.size, 3, none⟩ = some (.int .i64 (qd)) ∧ w16.cell? ⟨w14.heap.size, 4, none⟩ = some (.int .i64 (qe)) ∧ w16.cell? ⟨w14.heap.size, 5, none⟩ = some (.bool true) ∧ w16.cell? ⟨w14.heap.size, 6, none⟩ = some (.int .i64 (qg)) ∧ w16.cell? ⟨w14.heap.size, 7, none⟩ = some (.int .i64 (qh)) ∧ w16.cell? ⟨w14.heap.size, 8, none⟩ = some (.int .i64 (qi)) ∧ w16.cell? ⟨w14.heap.size, 9, none⟩ = some (.int .i64 (qj)) ∧ w16.ownsRow (b6) 3 1 (.slice A6 F.length c6) (F.length) (ints F) ∧ w16.cell? ⟨w11.heap.size, 0, none⟩ = some (.int .i64 X) ∧ w16.cell? ⟨w11.heap.size, 1, none⟩ = some (.int .i64 Y) ∧ w16.cell? ⟨w9.heap.size, 0, none⟩ = some (.int .i64 X) ∧ w16.cell? ⟨w9.heap.size, 1, none⟩ = some (.int .i64 Y) ∧ w16.cell? ⟨w7.heap.size, 0, none⟩ = some (.int .i64 m5) ∧ w16.cell? ⟨w7.heap.size, 1, none⟩ = some (.slice A5 l5.length c5) ∧ w16.ownsRow (b5) 42 10 (.slice A5 l5.length c5) (l5.length) (hds l5) ∧ Below w.heap.size w w16 := ⟨keep_cell (hb) hS.1, keep_cell (hb) hS.2.1, keep_cell (hb) hS.2.2.1, keep_cell (hb) hS.2.2.2.1, keep_cell (hb) hS.2.2.2.2.1, keep_cell (hb) hS.2.2.2.2.2.1, keep_cell (hb) hS.2.2.2.2.2.2.1, keep_cell (hb) hS.2.2.2.2.2.2.2.1, keep_cell (hb) hS.2.2.2.2.2.2.2.2.1, keep_cell (hb) hS.2.2.2.2.2.2.2.2.2.1, own_below hS.2.2.2.2.2.2.2.2.2.2.1 (hb), keep_cell (hb) hS.2.2.2.2.2.2.2.2.2.2.2.1, keep_cell (hb) hS.2.2.2.2.2.2.2.2.2.2.2.2.1, keep_cell (hb) hS.2.2.2.2.2.2.2.2.2.2.2.2.2.1, keep_cell (hb) hS.2.2.2.2.2.2.2.2.2.2.2.2.2.2.1, keep_cell (hb) hS.2.2.2.2.2.2.2.2.2.2.2.2.2.2.2.1, keep_cell (hb) hS.2.2.2.2.2.2.2.2.2.2.2.2.2.2.2.2.1, own_below hS.2.2.2.2.2.2.2.2.2.2.2.2.2.2.2.2.2.1 (hb), below_via hS.2.2.2.2.2.2.2.2.2.2.2.2.2.2.2.2.2.2 (hb)⟩
  (try clear hS)
  have hS := hT
  clear hT
  have hB := hS.2.2.2.2.2.2.2.2.2.2.2.2.2.2.2.2.2.2
  have hzw : w.heap.size ≤ w16.heap.size := hB.size
  have hz1 : w14.heap.size < w16.heap.size := World.block_lt_of_cell? w16 _ (hS.1)
  have hz2 : w11.heap.size < w16.heap.size := World.block_lt_of_cell? w16 _ (hS.2.2.2.2.2.2.2.2.2.2.2.1)
  have hz3 : w9.heap.size < w16.heap.size := World.block_lt_of_cell? w16 _ (hS.2.2.2.2.2.2.2.2.2.2.2.2.2.1)
  have hz4 : w7.heap.size < w16.heap.size := World.block_lt_of_cell? w16 _ (hS.2.2.2.2.2.2.2.2.2.2.2.2.2.2.2.1)
  clear hb
  go_wp2_with fail
  obtain ⟨w17, hww17⟩ : ∃ W, W = w16.alloc (.cells #[.bool false, .int .i64 qc, .int .i64 qd] 40) := ⟨_, rfl⟩
  have hT : w17.cell? ⟨w16.heap.size, 0, none⟩ = some (.bool false) ∧ w17.cell? ⟨w16.heap.size, 1, none⟩ = some (.int .i64 qc) ∧ w17.cell? ⟨w16.heap.size, 2, none⟩ = some (.int .i64 qd) ∧ w17.cell? ⟨w14.heap.size, 0, none⟩ = some (.int .i64 (qa)) ∧ w17.cell? ⟨w14.heap.size, 1, none⟩ = some (.bool false) ∧ w17.cell? ⟨w14.heap.size, 2, none⟩ = some (.int .i64 (qc)) ∧ w17.cell? ⟨w14.heap.size, 3, none⟩ = some (.int .i64 (qd)) ∧ w17.cell? ⟨w14.heap.size, 4, none⟩ = some (.int .i64 (qe)) ∧ w17.cell? ⟨w14.heap.size, 5, none⟩ = some (.bool true) ∧ w17.cell? ⟨w14.heap.size, 6, none⟩ = some (.int .i64 (qg)) ∧ w17.cell? ⟨w14.heap.size, 7, none⟩ = some (.int .i64 (qh)) ∧ w17.cell? ⟨w14.heap.size, 8, none⟩ = some (.int .i64 (qi)) ∧ w17.cell? ⟨w14.heap.size, 9, none⟩ = some (.int .i64 (qj)) ∧ w17.ownsRow (b6) 3 1 (.slice A6 F.length c6) (F.length) (ints F) ∧ w17.cell? ⟨w11.heap.size, 0, none⟩ = some (.int .i64 X) ∧ w17.cell? ⟨w11.heap.size, 1, none⟩ = some (.int .i64 Y) ∧ w17.cell? ⟨w9.heap.size, 0, none⟩ = some (.int .i64 X) ∧ w17.cell? ⟨w9.heap.size, 1, none⟩ = some (.int .i64 Y) ∧ w17.cell? ⟨w7.heap.size, 0, none⟩ = some (.int .i64 m5) ∧ w17.cell? ⟨w7.heap.size, 1, none⟩ = some (.slice A5 l5.length c5) ∧ w17.ownsRow (b5) 42 10 (.slice A5 l5.length c5) (l5.length) (hds l5) ∧ Below w.heap.size w w17 := by
    rw [hww17]
    exact ⟨by simp [go_sem], by simp [go_sem], by simp [go_sem], keep_cell (by go_grown) hS.1, keep_cell (by go_grown) hS.2.1, keep_cell (by go_grown) hS.2.2.1, keep_cell (by go_grown) hS.2.2.2.1, keep_cell (by go_grown) hS.2.2.2.2.1, keep_cell (by go_grown) hS.2.2.2.2.2.1, keep_cell (by go_grown) hS.2.2.2.2.2.2.1, keep_cell (by go_grown) hS.2.2.2.2.2.2.2.1, keep_cell (by go_grown) hS.2.2.2.2.2.2.2.2.1, keep_cell (by go_grown) hS.2.2.2.2.2.2.2.2.2.1, own_below hS.2.2.2.2.2.2.2.2.2.2.1 (by go_grown), keep_cell (by go_grown) hS.2.2.2.2.2.2.2.2.2.2.2.1, keep_cell (by go_grown) hS.2.2.2.2.2.2.2.2.2.2.2.2.1, keep_cell (by go_grown) hS.2.2.2.2.2.2.2.2.2.2.2.2.2.1, keep_cell (by go_grown) hS.2.2.2.2.2.2.2.2.2.2.2.2.2.2.1, keep_cell (by go_grown) hS.2.2.2.2.2.2.2.2.2.2.2.2.2.2.2.1, keep_cell (by go_grown) hS.2.2.2.2.2.2.2.2.2.2.2.2.2.2.2.2.1, own_below hS.2.2.2.2.2.2.2.2.2.2.2.2.2.2.2.2.2.1 (by go_grown), below_via hS.2.2.2.2.2.2.2.2.2.2.2.2.2.2.2.2.2.2 (by go_grown)⟩
  rw [← hww17]
  clear hS hww17
  have hS := hT
  clear hT
  (try clear hB hzw)
  have hB := hS.2.2.2.2.2.2.2.2.2.2.2.2.2.2.2.2.2.2.2.2.2
  have hzw : w.heap.size ≤ w17.heap.size := hB.size
  have hz1 : w16.heap.size < w17.heap.size := World.block_lt_of_cell? w17 _ (hS.1)
  have hz2 : w14.heap.size < w17.heap.size := World.block_lt_of_cell? w17 _ (hS.2.2.2.1)
  have hz3 : w11.heap.size < w17.heap.size := World.block_lt_of_cell? w17 _ (hS.2.2.2.2.2.2.2.2.2.2.2.2.2.2.1)
  have hz4 : w9.heap.size < w17.heap.size := World.block_lt_of_cell? w17 _ (hS.2.2.2.2.2.2.2.2.2.2.2.2.2.2.2.2.1)
  have hz5 : w7.heap.size < w17.heap.size := World.block_lt_of_cell? w17 _ (hS.2.2.2.2.2.2.2.2.2.2.2.2.2.2.2.2.2.2.1)
  go_wp2_with fail
  refine (HR1.out _).mono ?_
  rintro e w18 ⟨rfl, hb⟩
  have hT : w18.cell? ⟨w16.heap.size, 0, none⟩ = some (.bool false) ∧ w18.cell? ⟨w16.heap.size, 1, none⟩ = some (.int .i64 qc) ∧ w18.cell? ⟨w16.heap.size, 2, none⟩ = some (.int .i64 qd) ∧ w18.cell? ⟨w14.heap.size, 0, none⟩ = some (.int .i64 (qa)) ∧ w18.cell? ⟨w14.heap.size, 1, none⟩ = some (.bool false) ∧ w18.cell? ⟨w14.heap.size, 2, none⟩ = some (.int .i64 (qc)) ∧ w18.cell? ⟨w14.heap.size, 3, none⟩ = some (.int .i64 (qd)) ∧ w18.cell? ⟨w14.heap.size, 4, none⟩ = some (.int .i64 (qe)) ∧ w18.cell? ⟨w14.heap.size, 5, none⟩ = some (.bool true) ∧ w18.cell? ⟨w14.heap.size, 6, none⟩ = some (.int .i64 (qg)) ∧ w18.cell? ⟨w14.heap.size, 7, none⟩ = some (.int .i64 (qh)) ∧ w18.cell? ⟨w14.heap.size, 8, none⟩ = some (.int .i64 (qi)) ∧ w18.cell? ⟨w14.heap.size, 9, none⟩ = some (.int .i64 (qj)) ∧ w18.ownsRow (b6) 3 1 (.slice A6 F.length c6) (F.length) (ints F) ∧ w18.cell? ⟨w11.heap.size, 0, none⟩ = some (.int .i64 X) ∧ w18.cell? ⟨w11.heap.size, 1, none⟩ = some (.int .i64 Y) ∧ w18.cell? ⟨w9.heap.size, 0, none⟩ = some (.int .i64 X) ∧ w18.cell? ⟨w9.heap.size, 1, none⟩ = some (.int .i64 Y) ∧ w18.cell? ⟨w7.heap.size, 0, none⟩ = some (.int .i64 m5) ∧ w18.cell? ⟨w7.heap.size, 1, none⟩ = some (.slice A5 l5.length c5) ∧ w18.ownsRow (b5) 42 10 (.slice A5 l5.length c5) (l5.length) (hds l5) ∧ Below w.heap.size w w18 := ⟨keep_cell (hb) hS.1, keep_cell (hb) hS.2.1, keep_cell (hb) hS.2.2.1, keep_cell (hb) hS.2.2.2.1, keep_cell (hb) hS.2.2.2.2.1, keep_cell (hb) hS.2.2.2.2.2.1, keep_cell (hb) hS.2.2.2.2.2.2.1, keep_cell (hb) hS.2.2.2.2.2.2.2.1, keep_cell (hb) hS.2.2.2.2.2.2.2.2.1, keep_cell (hb) hS.2.2.2.2.2.2.2.2.2.1, keep_cell (hb) hS.2.2.2.2.2.2.2.2.2.2.1, keep_cell (hb) hS.2.2.2.2.2.2.2.2.2.2.2.1, keep_cell (hb) hS.2.2.2.2.2.2.2.2.2.2.2.2.1, own_below hS.2.2.2.2.2.2.2.2.2.2.2.2.2.1 (hb), keep_cell (hb) hS.2.2.2.2.2.2.2.2.2.2.2.2.2.2.1, keep_cell (hb) hS.2.2.2.2.2.2.2.2.2.2.2.2.2.2.2.1, keep_cell (hb) hS.2.2.2.2.2.2.2.2.2.2.2.2.2.2.2.2.1, keep_cell (hb) hS.2.2.2.2.2.2.2.2.2.2.2.2.2.2.2.2.2.1, keep_cell (hb) hS.2.2.2.2.2.2.2.2.2.2.2.2.2.2.2.2.2.2.1, keep_cell (hb) hS.2.2.2.2.2.2.2.2.2.2.2.2.2.2.2.2.2.2.2.1, own_below hS.2.2.2.2.2.2.2.2.2.2.2.2.2.2.2.2.2.2.2.2.1 (hb), below_via hS.2.2.2.2.2.2.2.2.2.2.2.2.2.2.2.2.2.2.2.2.2 (hb)⟩
  (try clear hS)
  have hS := hT
  clear hT
  have hB := hS.2.2.2.2.2.2.2.2.2.2.2.2.2.2.2.2.2.2.2.2.2
  have hzw : w.heap.size ≤ w18.heap.size := hB.size
  have hz1 : w16.heap.size < w18.heap.size := World.block_lt_of_cell? w18 _ (hS.1)
  have hz2 : w14.heap.size < w18.heap.size := World.block_lt_of_cell? w18 _ (hS.2.2.2.1)
  have hz3 : w11.heap.size < w18.heap.size := World.block_lt_of_cell? w18 _ (hS.2.2.2.2.2.2.2.2.2.2.2.2.2.2.1)
  have hz4 : w9.heap.size < w18.heap.size := World.block_lt_of_cell? w18 _ (hS.2.2.2.2.2.2.2.2.2.2.2.2.2.2.2.2.1)
  have hz5 : w7.heap.size < w18.heap.size := World.block_lt_of_cell? w18 _ (hS.2.2.2.2.2.2.2.2.2.2.2.2.2.2.2.2.2.2.1)
  clear hb
  go_upto_region 27 with fail
  obtain ⟨w19, hww19⟩ : ∃ W, W = w18.alloc (.cells #[.bool true, .int .i64 qg, .int .i64 qh] 40) := ⟨_, rfl⟩
  have hT : w19.cell? ⟨w18.heap.size, 0, none⟩ = some (.bool true) ∧ w19.cell? ⟨w18.heap.size, 1, none⟩ = some (.int .i64 qg) ∧ w19.cell? ⟨w18.heap.size, 2, none⟩ = some (.int .i64 qh) ∧ w19.cell? ⟨w16.heap.size, 0, none⟩ = some (.bool false) ∧ w19.cell? ⟨w16.heap.size, 1, none⟩ = some (.int .i64 qc) ∧ w19.cell? ⟨w16.heap.size, 2, none⟩ = some (.int .i64 qd) ∧ w19.cell? ⟨w14.heap.size, 0, none⟩ = some (.int .i64 (qa)) ∧ w19.cell? ⟨w14.heap.size, 1, none⟩ = some (.bool false) ∧ w19.cell? ⟨w14.heap.size, 2, none⟩ = some (.int .i64 (qc)) ∧ w19.cell? ⟨w14.heap.size, 3, none⟩ = some (.int .i64 (qd)) ∧ w19.cell? ⟨w14.heap.size, 4, none⟩ = some (.int .i64 (qe)) ∧ w19.cell? ⟨w14.heap.size, 5, none⟩ = some (.bool true) ∧ w19.cell? ⟨w14.heap.size, 6, none⟩ = some (.int .i64 (qg)) ∧ w19.cell? ⟨w14.heap.size, 7, none⟩ = some (.int .i64 (qh)) ∧ w19.cell? ⟨w14.heap.size, 8, none⟩ = some (.int .i64 (qi)) ∧ w19.cell? ⟨w14.heap.size, 9, none⟩ = some (.int .i64 (qj)) ∧ w19.ownsRow (b6) 3 1 (.slice A6 F.length c6) (F.length) (ints F) ∧ w19.cell? ⟨w11.heap.size, 0, none⟩ = some (.int .i64 X) ∧ w19.cell? ⟨w11.heap.size, 1, none⟩ = some (.int .i64 Y) ∧ w19.cell? ⟨w9.heap.size, 0, none⟩ = some (.int .i64 X) ∧ w19.cell? ⟨w9.heap.size, 1, none⟩ = some (.int .i64 Y) ∧ w19.cell? ⟨w7.heap.size, 0, none⟩ = some (.int .i64 m5) ∧ w19.cell? ⟨w7.heap.size, 1, none⟩ = some (.slice A5 l5.length c5) ∧ w19.ownsRow (b5) 42 10 (.slice A5 l5.length c5) (l5.length) (hds l5) ∧ Below w.heap.size w w19 := by
    rw [hww19]
    exact ⟨by simp [go_sem], by simp [go_sem], by simp [go_sem], keep_cell (by go_grown) hS.1, keep_cell (by go_grown) hS.2.1, keep_cell (by go_grown) hS.2.2.1, keep_cell (by go_grown) hS.2.2.2.1, keep_cell (by go_grown) hS.2.2.2.2.1, keep_cell (by go_grown) hS.2.2.2.2.2.1, keep_cell (by go_grown) hS.2.2.2.2.2.2.1, keep_cell (by go_grown) hS.2.2.2.2.2.2.2.1, keep_cell (by go_grown) hS.2.2.2.2.2.2.2.2.1, keep_cell (by go_grown) hS.2.2.2.2.2.2.2.2.2.1, keep_cell (by go_grown) hS.2.2.2.2.2.2.2.2.2.2.1, keep_cell (by go_grown) hS.2.2.2.2.2.2.2.2.2.2.2.1, keep_cell (by go_grown) hS.2.2.2.2.2.2.2.2.2.2.2.2.1, own_below hS.2.2.2.2.2.2.2.2.2.2.2.2.2.1 (by go_grown), keep_cell (by go_grown) hS.2.2.2.2.2.2.2.2.2.2.2.2.2.2.1, keep_cell (by go_grown) hS.2.2.2.2.2.2.2.2.2.2.2.2.2.2.2.1, keep_cell (by go_grown) hS.2.2.2.2.2.2.2.2.2.2.2.2.2.2.2.2.1, keep_cell (by go_grown) hS.2.2.2.2.2.2.2.2.2.2.2.2.2.2.2.2.2.1, keep_cell (by go_grown) hS.2.2.2.2.2.2.2.2.2.2.2.2.2.2.2.2.2.2.1, keep_cell (by go_grown) hS.2.2.2.2.2.2.2.2.2.2.2.2.2.2.2.2.2.2.2.1, own_below hS.2.2.2.2.2.2.2.2.2.2.2.2.2.2.2.2.2.2.2.2.1 (by go_grown), below_via hS.2.2.2.2.2.2.2.2.2.2.2.2.2.2.2.2.2.2.2.2.2 (by go_grown)⟩
  rw [← hww19]
  clear hS hww19
  have hS := hT
  clear hT
  (try clear hB hzw)
  have hB := hS.2.2.2.2.2.2.2.2.2.2.2.2.2.2.2.2.2.2.2.2.2.2.2.2
  have hzw : w.heap.size ≤ w19.heap.size := hB.size
  have hz1 : w18.heap.size < w19.heap.size := World.block_lt_of_cell? w19 _ (hS.1)
  have hz2 : w16.heap.size < w19.heap.size := World.block_lt_of_cell? w19 _ (hS.2.2.2.1)
  have hz3 : w14.heap.size < w19.heap.size := World.block_lt_of_cell? w19 _ (hS.2.2.2.2.2.2.1)
  have hz4 : w11.heap.size < w19.heap.size := World.block_lt_of_cell? w19 _ (hS.2.2.2.2.2.2.2.2.2.2.2.2.2.2.2.2.2.1)
  have hz5 : w9.heap.size < w19.heap.size := World.block_lt_of_cell? w19 _ (hS.2.2.2.2.2.2.2.2.2.2.2.2.2.2.2.2.2.2.2.1)
  have hz6 : w7.heap.size < w19.heap.size := World.block_lt_of_cell? w19 _ (hS.2.2.2.2.2.2.2.2.2.2.2.2.2.2.2.2.2.2.2.2.2.1)
  go_wp2
  go_returns
  exact ⟨ret_eq (by simp), by go_grown⟩
end Go.Proofs.Ytbeojfhakmbacaa
namespace Go.Proofs.Ytbeojfhakmbacaa
open Go.RowKit Go.WideShapes Go.ChangeShapes Go.ChangeAt Go.Joins Go.Deep
section
variable {H : Type} {enc : TypeId × Value → H} {P : Program} {w : World} {base : Nat} {spare : Nat → Bool} {held : Bool}
end
end Go.Proofs.Ytbeojfhakmbacaa
namespace Go.Proofs.Ytbeojfhakmbacaa
open Go.RowKit Go.WideShapes Go.ChangeShapes Go.ChangeAt Go.Joins Go.Deep
section
variable {H : Type} {enc : TypeId × Value → H} {P : Program} {w : World} {base : Nat} {spare : Nat → Bool} {held : Bool}
theorem u8_of_wf {x : Int} (h : (Lit.int .u8 x).wf = true) : 0 ≤ x ∧ x ≤ 255 := by
  have h1 : IntKind.u8.min = 0 := rfl
  have h2 : IntKind.u8.max = 255 := rfl
  simp only [Lit.wf, Bool.and_eq_true, decide_eq_true_eq] at h
  omega
theorem open_code {t e : TypeId} {v : Value} {d : DataW H} {p : List MemPlace} {r : Reach} {b0 : Nat} (ht : P.underlying t = some (.slice e)) (he : P.underlying e = some (.int .u8)) (hC : P.cellsOf e = 1) (hv : Value.okWide P w r b0 t v) (h : DataW.Trod enc P w base spare held t v d p) :
    ∃ (A : Option Addr) (n c : Nat), v = .slice A n c ∧ CodeOk w A n := by
  obtain ⟨fuel, hf⟩ := h
  have hvc : v.cells.toList = [v] := by
    obtain ⟨a, n, c, rfl, _⟩ := okWide_slice ht hv
    rfl
  rw [hvc] at hf
  rcases open_slice ht hf with ⟨h2, _⟩ | ⟨a, len, cap, m, n, D, Pl, h2, hb, hl, hm, hmm, hx, hi⟩
  · injection h2 with h2 _
    exact ⟨none, 0, 0, h2, fun hn => absurd hn (by omega)⟩
  · injection h2 with h2 _
    refine ⟨some a, len, cap, h2, fun hn => ⟨a, rfl, ?_, ?_⟩⟩
    · have him : 0 < m := by rw [hmm]; split <;> omega
      obtain ⟨cs', hc, ht'⟩ := hi 0 him
      rw [hC] at hc
      obtain ⟨_, hcl, hat⟩ := World.cells?_some hc
      match cs', hcl with
      | [u], _ =>
        have := hat 0 (by omega)
        have h3 := World.block_lt_of_cell? w _ this
        simpa [block_of_add] using h3
    · intro i hil
      have him : i < m := by rw [hmm]; split <;> omega
      obtain ⟨cs', hc, ht'⟩ := hi i him
      rw [hC] at hc
      obtain ⟨_, hcl, hat⟩ := World.cells?_some hc
      rw [Nat.mul_one] at hat
      match cs', hcl with
      | [u], _ =>
        obtain ⟨x, k0, _, hw⟩ := DataW.trod_int he ht'
        simp at k0
        subst k0
        obtain ⟨b0, b1⟩ := u8_of_wf hw
        have := hat 0 (by omega)
        exact ⟨x, b0, b1, by simpa [Addr.add] using this⟩
end
end Go.Proofs.Ytbeojfhakmbacaa
namespace Go.Proofs.Ytbeojfhakmbacaa
open Go.RowKit Go.WideShapes Go.ChangeShapes Go.ChangeAt Go.Joins Go.Deep
set_option maxRecDepth 100000 in
theorem fnReceiver_holds : Rows.FnReceiverSaid :=
  OpenClaim.holds_of_wide 3 Try.f3 rfl rfl rfl rfl rfl rfl rfl ⟨rfl, rfl, rfl, rfl, rfl⟩ rfl rfl rfl rfl rfl (by kernel_rfl) Try.func3 (by kernel_rfl)
    (of_decide_eq_true (by kernel_rfl)) (by unfold Func.isWrapper; rw [if_neg (by decide +kernel)]; exact ⟨rfl, rfl⟩)
    (fun os started H enc _ => law_lift (C := Try.checked) (s := Rows.fnReceiverSpec) (tb := 4) Try.laidOut Try.own started (by kernel_rfl) Try.func3
      (ChangeSpec.witness6 (enc := enc) (C := Try.checked) false ⟨#[], #[.slice none 0 0], []⟩ 8 (by kernel_rfl) (by kernel_rfl) (by kernel_rfl) (by kernel_rfl))
      rfl rfl Try.underlying4 (by intro t ht; simp [Try.params3] at ht; subst ht; exact ⟨by kernel_rfl, of_decide_eq_true (by kernel_rfl)⟩)
      (by intro ds hl; match ds, hl with | [d0], _ => rfl)
      (by
        intro W base args ds ps hval hA hlt hsz
        rw [Try.params3] at hA hval hsz
        obtain ⟨v0, d0, rfl, rfl, h0⟩ := trodAll_one hA
        obtain ⟨A0, n0, c0, rfl, r0⟩ := open_code Try.underlying22 Try.underlying5 (by kernel_rfl) (hval 0 22 v0 rfl rfl) h0
        exact fnReceiver A0 n0 c0 W (hide r0)))
#print axioms fnReceiver_holds
end Go.Proofs.Ytbeojfhakmbacaa
