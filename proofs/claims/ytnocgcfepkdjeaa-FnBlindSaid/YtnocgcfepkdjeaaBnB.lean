/- Law: blind points. -/
import Derived.Deep.DeepCutAuto
import Derived.Test.YtnocgcfepkdjeaaBnA
import Derived.Test.YtnocgcfepkdjeaaBlnMath
import Derived.Test.YtnocgcfepkdjeaaBlA
import Derived.Test.YtnocgcfepkdjeaaBlB
import Derived.Test.YtnocgcfepkdjeaaSbI
import Derived.Test.YtnocgcfepkdjeaaSiM
import Derived.Test.YtnocgcfepkdjeaaSiI
import Derived.Test.YtnocgcfepkdjeaaLwA
namespace Go.Proofs.Ytnocgcfepkdjeaa
open Go.RowKit

set_option maxRecDepth 100000 in
set_option maxHeartbeats 8000000 in
theorem fnBlind (A : Option Addr) (n c : Nat) (w : World) (h1 : Hid (CodeOk w A n))  : Calls Try.prog 12 #[.slice A n c] w (Gives w (.bool true)) := by
  rcases kb : bigB n with _ | _
  rotate_left
  · have HKB := hide kb
    clear kb
    go_enter Try.func12, Try.ntmps12
    go_wp2_with (first | (go_at_call 27; refine (vBig_c _ _ _ _).mono ?_; rintro e w1 ⟨rfl, rfl⟩; rw [HKB.out]))
    go_returns
    exact ⟨ret_eq rfl, by go_grown⟩
  have HKB := hide kb
  have HN := hide (bigB_no kb)
  clear kb
  go_enter Try.func12, Try.ntmps12
  go_wp2_with fail
  refine (vBig_c _ _ _ _).mono ?_
  rintro e wz ⟨rfl, rfl⟩
  rw [HKB.out]
  go_wp2_with fail
  refine (drawBlind_c A n c _ (hide (h1.out.below (by go_grown))) HN.out).mono ?_
  rintro e w1 ⟨l, A1, c1, rfl, ho1, hl6, hp6, hb⟩
  obtain ⟨b1, ho1, hbk1⟩ := own_based ho1 (m := w.heap.size) (by first | omega | (simp; done) | (simp; omega))
  have hT : w1.ownsRow (b1) 32 2 (.slice A1 l.length c1) (l.length) (flat l) ∧ Below w.heap.size w w1 := ⟨ho1, (fun W h hb => below_via h (hb) : ∀ W : World, (Below w.heap.size w W) → Below W.heap.size W w1 → (Below w.heap.size w w1)) _ (by first | (with_reducible assumption) | go_grown) hb⟩
  (try clear hS)
  have hS := hT
  clear hT
  have hB := hS.2
  have hzw : w.heap.size ≤ w1.heap.size := hB.size
  clear hb
  have HNE := hide (bl_ne_one l)
  have HON := hide (fun (h : okS l = true) (h1 : l.length = 1) => bl_one_site h h1)
  obtain ⟨NV, HV10⟩ : ∃ q, (blV l) = q := ⟨_, rfl⟩
  have HV1 := hide HV10
  clear HV10
  obtain ⟨K, HK10⟩ : ∃ q, (okS l) = q := ⟨_, rfl⟩
  have HK1 := hide HK10
  clear HK10
  go_wp2_with fail
  refine (Blind_c _ _ l _ (hide (own_reads (hS.1))) (by omega) (own_cap (hS.1))).mono ?_
  rw [HV1.out, HK1.out]
  rintro e w2 ⟨rfl, hb⟩
  have hT : w2.ownsRow (b1) 32 2 (.slice A1 l.length c1) (l.length) (flat l) ∧ Below w.heap.size w w2 := (fun W h hb => ⟨own_below h.1 (hb), below_via h.2 (hb)⟩ : ∀ W : World, (W.ownsRow (b1) 32 2 (.slice A1 l.length c1) (l.length) (flat l) ∧ Below w.heap.size w W) → Below W.heap.size W w2 → (w2.ownsRow (b1) 32 2 (.slice A1 l.length c1) (l.length) (flat l) ∧ Below w.heap.size w w2)) _ (by first | (with_reducible assumption) | (exact hS) | (exact ⟨hS.1, (by go_grown)⟩) | (exact ⟨(by first | (with_reducible assumption) | (exact World.ownsRow.alloc (by with_reducible assumption) _) | ((refine own_below (by with_reducible assumption) ?_); go_grown)), (by go_grown)⟩)) hb
  (try clear hS)
  have hS := hT
  clear hT
  have hB := hS.2
  have hzw : w.heap.size ≤ w2.heap.size := hB.size
  clear hb
  go_wp2_with fail
  refine (sBlind_c _ _ l _ (hide (own_reads (hS.1))) (by omega)).mono ?_
  rw [HV1.out, HK1.out]
  rintro e w3 ⟨rfl, hb⟩
  have hT : w3.ownsRow (b1) 32 2 (.slice A1 l.length c1) (l.length) (flat l) ∧ Below w.heap.size w w3 := (fun W h hb => ⟨own_below h.1 (hb), below_via h.2 (hb)⟩ : ∀ W : World, (W.ownsRow (b1) 32 2 (.slice A1 l.length c1) (l.length) (flat l) ∧ Below w.heap.size w W) → Below W.heap.size W w3 → (w3.ownsRow (b1) 32 2 (.slice A1 l.length c1) (l.length) (flat l) ∧ Below w.heap.size w w3)) _ (by first | (with_reducible assumption) | (exact hS) | (exact ⟨hS.1, (by go_grown)⟩) | (exact ⟨(by first | (with_reducible assumption) | (exact World.ownsRow.alloc (by with_reducible assumption) _) | ((refine own_below (by with_reducible assumption) ?_); go_grown)), (by go_grown)⟩)) hb
  (try clear hS)
  have hS := hT
  clear hT
  have hB := hS.2
  have hzw : w.heap.size ≤ w3.heap.size := hB.size
  clear hb
  go_upto_region 6 with fail
  go_cut [68] (fun s wx => s = .bool false ∧ Below w.heap.size w wx)
  case first =>
    have hn1 : (NV == 1) = false := by have h := HNE.out; rw [HV1.out] at h; simp [h]
    cases K
    · go_wp2_with fail
      go_meet
      case rel => exact ⟨rfl, by go_grown⟩
    by_cases h1 : l.length = 1
    · have hn9 : NV = 961 := by have h := HON.out HK1.out h1; rw [HV1.out] at h; exact h
      have hlb : ((l.length : Int) == 1) = true := by simp [h1]
      have hnb : (NV != 961) = false := by simp [hn9]
      clear h1 hn9
      go_wp2_with fail
      go_meet
      case rel => exact ⟨rfl, by go_grown⟩
    have hlb : ((l.length : Int) == 1) = false := by simp; omega
    clear h1
    go_wp2_with fail
    go_meet
    case rel => exact ⟨rfl, by go_grown⟩
  obtain ⟨rfl, hB⟩ := hcut
  (try clear hS)
  have hzw : w.heap.size ≤ wc.heap.size := hB.size
  go_wp2_with fail
  refine (drawHelp_c A n c _ (hide (h1.out.below (by go_grown))) HN.out).mono ?_
  rintro e w4 ⟨l2, A2, c2, a2, A3, c3, tol, rfl, ho2, ho3, hl62, ha72, hp62, ⟨htl0, htl1⟩, hb⟩
  obtain ⟨b2, ho2, hbk2⟩ := own_based ho2 (m := wc.heap.size) (by first | omega | (simp; done) | (simp; omega))
  obtain ⟨b3, ho3, hbk3⟩ := own_based ho3 (m := wc.heap.size) (by first | omega | (simp; done) | (simp; omega))
  have hT : w4.ownsRow (b2) 32 2 (.slice A2 l2.length c2) (l2.length) (flat l2) ∧ w4.ownsRow (b3) 3 1 (.slice A3 a2.length c3) (a2.length) (ints a2) ∧ Below w.heap.size w w4 := ⟨ho2, ho3, (fun W h hb => below_via h (hb) : ∀ W : World, (Below w.heap.size w W) → Below W.heap.size W w4 → (Below w.heap.size w w4)) _ (by first | (with_reducible assumption) | go_grown) hb⟩
  (try clear hS)
  have hS := hT
  clear hT
  have hB := hS.2.2
  have hzw : w.heap.size ≤ w4.heap.size := hB.size
  clear hb
  have HHB := hide (fun (h : hlpK l2 a2 tol = true) => hlpV_bd h)
  obtain ⟨V2, HV20⟩ : ∃ q, (hlpV l2 a2 tol) = q := ⟨_, rfl⟩
  have HV2 := hide HV20
  clear HV20
  obtain ⟨K2, HK20⟩ : ∃ q, (hlpK l2 a2 tol) = q := ⟨_, rfl⟩
  have HK2 := hide HK20
  clear HK20
  go_wp2_with fail
  refine (Helpful_c _ _ l2 _ _ a2 tol _ (hide (own_reads (hS.1))) (hide (own_reads (hS.2.1))) (by omega) (by omega) (own_cap (hS.1)) (own_cap (hS.2.1))).mono ?_
  rw [HV2.out, HK2.out]
  rintro e w5 ⟨rfl, hb⟩
  have hT : w5.ownsRow (b2) 32 2 (.slice A2 l2.length c2) (l2.length) (flat l2) ∧ w5.ownsRow (b3) 3 1 (.slice A3 a2.length c3) (a2.length) (ints a2) ∧ Below w.heap.size w w5 := (fun W h hb => ⟨own_below h.1 (hb), own_below h.2.1 (hb), below_via h.2.2 (hb)⟩ : ∀ W : World, (W.ownsRow (b2) 32 2 (.slice A2 l2.length c2) (l2.length) (flat l2) ∧ W.ownsRow (b3) 3 1 (.slice A3 a2.length c3) (a2.length) (ints a2) ∧ Below w.heap.size w W) → Below W.heap.size W w5 → (w5.ownsRow (b2) 32 2 (.slice A2 l2.length c2) (l2.length) (flat l2) ∧ w5.ownsRow (b3) 3 1 (.slice A3 a2.length c3) (a2.length) (ints a2) ∧ Below w.heap.size w w5)) _ (by first | (with_reducible assumption) | (exact hS) | (exact ⟨hS.1, hS.2.1, (by go_grown)⟩) | (exact ⟨(by first | (with_reducible assumption) | (exact World.ownsRow.alloc (by with_reducible assumption) _) | ((refine own_below (by with_reducible assumption) ?_); go_grown)), (by first | (with_reducible assumption) | (exact World.ownsRow.alloc (by with_reducible assumption) _) | ((refine own_below (by with_reducible assumption) ?_); go_grown)), (by go_grown)⟩)) hb
  (try clear hS)
  have hS := hT
  clear hT
  have hB := hS.2.2
  have hzw : w.heap.size ≤ w5.heap.size := hB.size
  clear hb
  go_wp2_with fail
  refine (sHelpful_c _ _ l2 _ _ a2 tol _ (hide (own_reads (hS.1))) (hide (own_reads (hS.2.1))) (by omega) (by omega) (own_cap (hS.1)) (own_cap (hS.2.1))).mono ?_
  rw [HV2.out, HK2.out]
  rintro e w6 ⟨rfl, hb⟩
  have hT : w6.ownsRow (b2) 32 2 (.slice A2 l2.length c2) (l2.length) (flat l2) ∧ w6.ownsRow (b3) 3 1 (.slice A3 a2.length c3) (a2.length) (ints a2) ∧ Below w.heap.size w w6 := (fun W h hb => ⟨own_below h.1 (hb), own_below h.2.1 (hb), below_via h.2.2 (hb)⟩ : ∀ W : World, (W.ownsRow (b2) 32 2 (.slice A2 l2.length c2) (l2.length) (flat l2) ∧ W.ownsRow (b3) 3 1 (.slice A3 a2.length c3) (a2.length) (ints a2) ∧ Below w.heap.size w W) → Below W.heap.size W w6 → (w6.ownsRow (b2) 32 2 (.slice A2 l2.length c2) (l2.length) (flat l2) ∧ w6.ownsRow (b3) 3 1 (.slice A3 a2.length c3) (a2.length) (ints a2) ∧ Below w.heap.size w w6)) _ (by first | (with_reducible assumption) | (exact hS) | (exact ⟨hS.1, hS.2.1, (by go_grown)⟩) | (exact ⟨(by first | (with_reducible assumption) | (exact World.ownsRow.alloc (by with_reducible assumption) _) | ((refine own_below (by with_reducible assumption) ?_); go_grown)), (by first | (with_reducible assumption) | (exact World.ownsRow.alloc (by with_reducible assumption) _) | ((refine own_below (by with_reducible assumption) ?_); go_grown)), (by go_grown)⟩)) hb
  (try clear hS)
  have hS := hT
  clear hT
  have hB := hS.2.2
  have hzw : w.heap.size ≤ w6.heap.size := hB.size
  clear hb
  go_upto_region 11 with fail
  go_cut [109] (fun s wx => s = .bool false ∧ Below w.heap.size w wx)
  case first =>
    cases K2
    · go_wp2_with fail
      go_meet
      case rel => exact ⟨rfl, by go_grown⟩
    obtain ⟨hv0, hv1⟩ := HHB.out HK2.out
    rw [HV2.out] at hv0 hv1
    have e1 : decide (V2 < 0) = false := decide_eq_false (by omega)
    have e2 : decide (V2 ≥ (l2.length : Int)) = false := decide_eq_false (by omega)
    clear hv0 hv1
    go_wp2_with fail
    go_meet
    case rel => exact ⟨rfl, by go_grown⟩
  obtain ⟨rfl, hB⟩ := hcut
  (try clear hS)
  have hzw : w.heap.size ≤ wc.heap.size := hB.size
  go_wp2_with fail
  refine (drawSendT_c A n c _ (hide (h1.out.below (by go_grown))) HN.out).mono ?_
  rintro e w7 ⟨l4, A4, c4, a4, A5, c5, x, y, rfl, ho4, ho5, hl64, ha74, hp64, ⟨hx0, hx1⟩, ⟨hy0, hy1⟩, hb⟩
  obtain ⟨b4, ho4, hbk4⟩ := own_based ho4 (m := wc.heap.size) (by first | omega | (simp; done) | (simp; omega))
  obtain ⟨b5, ho5, hbk5⟩ := own_based ho5 (m := wc.heap.size) (by first | omega | (simp; done) | (simp; omega))
  have hT : w7.ownsRow (b4) 32 2 (.slice A4 l4.length c4) (l4.length) (flat l4) ∧ w7.ownsRow (b5) 3 1 (.slice A5 a4.length c5) (a4.length) (ints a4) ∧ Below w.heap.size w w7 := ⟨ho4, ho5, (fun W h hb => below_via h (hb) : ∀ W : World, (Below w.heap.size w W) → Below W.heap.size W w7 → (Below w.heap.size w w7)) _ (by first | (with_reducible assumption) | go_grown) hb⟩
  (try clear hS)
  have hS := hT
  clear hT
  have hB := hS.2.2
  have hzw : w.heap.size ≤ w7.heap.size := hB.size
  clear hb
  go_wp2_with fail
  obtain ⟨w8, hww8⟩ : ∃ W, W = w7.alloc (.cells #[.int .i64 (x), .int .i64 (y)] 32) := ⟨_, rfl⟩
  have hT : w8.cell? ⟨w7.heap.size, 0, none⟩ = some (.int .i64 (x)) ∧ w8.cell? ⟨w7.heap.size, 1, none⟩ = some (.int .i64 (y)) ∧ w8.ownsRow (b4) 32 2 (.slice A4 l4.length c4) (l4.length) (flat l4) ∧ w8.ownsRow (b5) 3 1 (.slice A5 a4.length c5) (a4.length) (ints a4) ∧ Below w.heap.size w w8 := by
    rw [hww8]
    exact ⟨by simp [go_sem], by simp [go_sem], own_below hS.1 (by go_grown), own_below hS.2.1 (by go_grown), below_via hS.2.2 (by go_grown)⟩
  rw [← hww8]
  clear hS hww8
  have hS := hT
  clear hT
  (try clear hB hzw)
  have hB := hS.2.2.2.2
  have hzw : w.heap.size ≤ w8.heap.size := hB.size
  have hz1 : w7.heap.size < w8.heap.size := World.block_lt_of_cell? w8 _ (hS.1)
  have HSA := hide (fun (h : stK l4 a4 (x, y) = true) => send_arr h)
  obtain ⟨T, HT0⟩ : ∃ q, (stV l4 a4 (x, y)) = q := ⟨_, rfl⟩
  have HT := hide HT0
  clear HT0
  obtain ⟨K3, HK30⟩ : ∃ q, (stK l4 a4 (x, y)) = q := ⟨_, rfl⟩
  have HK3 := hide HK30
  clear HK30
  go_wp2_with fail
  refine (SendTime_c _ _ l4 _ _ a4 x y _ (hide (own_reads (hS.2.2.1))) (hide (own_reads (hS.2.2.2.1))) (by omega) (by omega) (own_cap (hS.2.2.1))).mono ?_
  rw [HT.out, HK3.out]
  rintro e w9 ⟨rfl, hb⟩
  have hT : w9.cell? ⟨w7.heap.size, 0, none⟩ = some (.int .i64 (x)) ∧ w9.cell? ⟨w7.heap.size, 1, none⟩ = some (.int .i64 (y)) ∧ w9.ownsRow (b4) 32 2 (.slice A4 l4.length c4) (l4.length) (flat l4) ∧ w9.ownsRow (b5) 3 1 (.slice A5 a4.length c5) (a4.length) (ints a4) ∧ Below w.heap.size w w9 := (fun W h hb => ⟨keep_cell (hb) h.1, keep_cell (hb) h.2.1, own_below h.2.2.1 (hb), own_below h.2.2.2.1 (hb), below_via h.2.2.2.2 (hb)⟩ : ∀ W : World, (W.cell? ⟨w7.heap.size, 0, none⟩ = some (.int .i64 (x)) ∧ W.cell? ⟨w7.heap.size, 1, none⟩ = some (.int .i64 (y)) ∧ W.ownsRow (b4) 32 2 (.slice A4 l4.length c4) (l4.length) (flat l4) ∧ W.ownsRow (b5) 3 1 (.slice A5 a4.length c5) (a4.length) (ints a4) ∧ Below w.heap.size w W) → Below W.heap.size W w9 → (w9.cell? ⟨w7.heap.size, 0, none⟩ = some (.int .i64 (x)) ∧ w9.cell? ⟨w7.heap.size, 1, none⟩ = some (.int .i64 (y)) ∧ w9.ownsRow (b4) 32 2 (.slice A4 l4.length c4) (l4.length) (flat l4) ∧ w9.ownsRow (b5) 3 1 (.slice A5 a4.length c5) (a4.length) (ints a4) ∧ Below w.heap.size w w9)) _ (by first | (with_reducible assumption) | (exact hS) | (exact ⟨hS.1, hS.2.1, hS.2.2.1, hS.2.2.2.1, (by go_grown)⟩) | (exact ⟨(by first | (with_reducible assumption) | (simp [go_sem]; done) | ((simp only [go_sem]); (with_reducible assumption)) | ((refine keep_cell ?_ (by with_reducible assumption)); go_grown; done) | (simp [go_sem, *]; done)), (by first | (with_reducible assumption) | (simp [go_sem]; done) | ((simp only [go_sem]); (with_reducible assumption)) | ((refine keep_cell ?_ (by with_reducible assumption)); go_grown; done) | (simp [go_sem, *]; done)), (by first | (with_reducible assumption) | (exact World.ownsRow.alloc (by with_reducible assumption) _) | ((refine own_below (by with_reducible assumption) ?_); go_grown)), (by first | (with_reducible assumption) | (exact World.ownsRow.alloc (by with_reducible assumption) _) | ((refine own_below (by with_reducible assumption) ?_); go_grown)), (by go_grown)⟩)) hb
  (try clear hS)
  have hS := hT
  clear hT
  have hB := hS.2.2.2.2
  have hzw : w.heap.size ≤ w9.heap.size := hB.size
  have hz1 : w7.heap.size < w9.heap.size := World.block_lt_of_cell? w9 _ (hS.1)
  clear hb
  go_wp2_with fail
  refine (sSendTime_c _ _ l4 _ _ a4 x y _ (hide (own_reads (hS.2.2.1))) (hide (own_reads (hS.2.2.2.1))) (by omega) (by omega)).mono ?_
  rw [HT.out, HK3.out]
  rintro e w10 ⟨rfl, hb⟩
  have hT : w10.cell? ⟨w7.heap.size, 0, none⟩ = some (.int .i64 (x)) ∧ w10.cell? ⟨w7.heap.size, 1, none⟩ = some (.int .i64 (y)) ∧ w10.ownsRow (b4) 32 2 (.slice A4 l4.length c4) (l4.length) (flat l4) ∧ w10.ownsRow (b5) 3 1 (.slice A5 a4.length c5) (a4.length) (ints a4) ∧ Below w.heap.size w w10 := (fun W h hb => ⟨keep_cell (hb) h.1, keep_cell (hb) h.2.1, own_below h.2.2.1 (hb), own_below h.2.2.2.1 (hb), below_via h.2.2.2.2 (hb)⟩ : ∀ W : World, (W.cell? ⟨w7.heap.size, 0, none⟩ = some (.int .i64 (x)) ∧ W.cell? ⟨w7.heap.size, 1, none⟩ = some (.int .i64 (y)) ∧ W.ownsRow (b4) 32 2 (.slice A4 l4.length c4) (l4.length) (flat l4) ∧ W.ownsRow (b5) 3 1 (.slice A5 a4.length c5) (a4.length) (ints a4) ∧ Below w.heap.size w W) → Below W.heap.size W w10 → (w10.cell? ⟨w7.heap.size, 0, none⟩ = some (.int .i64 (x)) ∧ w10.cell? ⟨w7.heap.size, 1, none⟩ = some (.int .i64 (y)) ∧ w10.ownsRow (b4) 32 2 (.slice A4 l4.length c4) (l4.length) (flat l4) ∧ w10.ownsRow (b5) 3 1 (.slice A5 a4.length c5) (a4.length) (ints a4) ∧ Below w.heap.size w w10)) _ (by first | (with_reducible assumption) | (exact hS) | (exact ⟨hS.1, hS.2.1, hS.2.2.1, hS.2.2.2.1, (by go_grown)⟩) | (exact ⟨(by first | (with_reducible assumption) | (simp [go_sem]; done) | ((simp only [go_sem]); (with_reducible assumption)) | ((refine keep_cell ?_ (by with_reducible assumption)); go_grown; done) | (simp [go_sem, *]; done)), (by first | (with_reducible assumption) | (simp [go_sem]; done) | ((simp only [go_sem]); (with_reducible assumption)) | ((refine keep_cell ?_ (by with_reducible assumption)); go_grown; done) | (simp [go_sem, *]; done)), (by first | (with_reducible assumption) | (exact World.ownsRow.alloc (by with_reducible assumption) _) | ((refine own_below (by with_reducible assumption) ?_); go_grown)), (by first | (with_reducible assumption) | (exact World.ownsRow.alloc (by with_reducible assumption) _) | ((refine own_below (by with_reducible assumption) ?_); go_grown)), (by go_grown)⟩)) hb
  (try clear hS)
  have hS := hT
  clear hT
  have hB := hS.2.2.2.2
  have hzw : w.heap.size ≤ w10.heap.size := hB.size
  have hz1 : w7.heap.size < w10.heap.size := World.block_lt_of_cell? w10 _ (hS.1)
  clear hb
  cases K3
  · have hB9 := hB
    clear hS
    have hB := hB9
    clear hB9
    go_wp2_with fail
    refine (drawSpr_c A n c _ (hide (h1.out.below (by go_grown))) HN.out).mono ?_
    rintro e w11 ⟨l6, A6, c6, a6, A7, c7, u, v, rfl, ho6, ho7, hl66, ha76, hp66, ⟨hu0, hu1⟩, ⟨hv0, hv1⟩, hb⟩
    obtain ⟨b6, ho6, hbk6⟩ := own_based ho6 (m := w10.heap.size) (by first | omega | (simp; done) | (simp; omega))
    obtain ⟨b7, ho7, hbk7⟩ := own_based ho7 (m := w10.heap.size) (by first | omega | (simp; done) | (simp; omega))
    have hT : w11.ownsRow (b6) 32 2 (.slice A6 l6.length c6) (l6.length) (flat l6) ∧ w11.ownsRow (b7) 3 1 (.slice A7 a6.length c7) (a6.length) (ints a6) ∧ Below w.heap.size w w11 := ⟨ho6, ho7, (fun W h hb => below_via h (hb) : ∀ W : World, (Below w.heap.size w W) → Below W.heap.size W w11 → (Below w.heap.size w w11)) _ (by first | (with_reducible assumption) | go_grown) hb⟩
    (try clear hS)
    have hS := hT
    clear hT
    have hB := hS.2.2
    have hzw : w.heap.size ≤ w11.heap.size := hB.size
    clear hb
    go_wp2_with fail
    obtain ⟨w12, hww12⟩ : ∃ W, W = w11.alloc (.cells #[.int .i64 (u), .int .i64 (v)] 32) := ⟨_, rfl⟩
    have hT : w12.cell? ⟨w11.heap.size, 0, none⟩ = some (.int .i64 (u)) ∧ w12.cell? ⟨w11.heap.size, 1, none⟩ = some (.int .i64 (v)) ∧ w12.ownsRow (b6) 32 2 (.slice A6 l6.length c6) (l6.length) (flat l6) ∧ w12.ownsRow (b7) 3 1 (.slice A7 a6.length c7) (a6.length) (ints a6) ∧ Below w.heap.size w w12 := by
      rw [hww12]
      exact ⟨by simp [go_sem], by simp [go_sem], own_below hS.1 (by go_grown), own_below hS.2.1 (by go_grown), below_via hS.2.2 (by go_grown)⟩
    rw [← hww12]
    clear hS hww12
    have hS := hT
    clear hT
    (try clear hB hzw)
    have hB := hS.2.2.2.2
    have hzw : w.heap.size ≤ w12.heap.size := hB.size
    have hz1 : w11.heap.size < w12.heap.size := World.block_lt_of_cell? w12 _ (hS.1)
    obtain ⟨S9, HS90⟩ : ∃ q, (spV l6 a6 (u, v)) = q := ⟨_, rfl⟩
    have HS9 := hide HS90
    clear HS90
    obtain ⟨K6, HK60⟩ : ∃ q, (spK l6 a6 (u, v)) = q := ⟨_, rfl⟩
    have HK6 := hide HK60
    clear HK60
    go_wp2_with fail
    refine (SpreadAt_c _ _ l6 _ _ a6 u v _ (hide (own_reads (hS.2.2.1))) (hide (own_reads (hS.2.2.2.1))) (by omega) (by omega) (own_cap (hS.2.2.1))).mono ?_
    rw [HS9.out, HK6.out]
    rintro e w13 ⟨rfl, hb⟩
    have hT : w13.cell? ⟨w11.heap.size, 0, none⟩ = some (.int .i64 (u)) ∧ w13.cell? ⟨w11.heap.size, 1, none⟩ = some (.int .i64 (v)) ∧ w13.ownsRow (b6) 32 2 (.slice A6 l6.length c6) (l6.length) (flat l6) ∧ w13.ownsRow (b7) 3 1 (.slice A7 a6.length c7) (a6.length) (ints a6) ∧ Below w.heap.size w w13 := (fun W h hb => ⟨keep_cell (hb) h.1, keep_cell (hb) h.2.1, own_below h.2.2.1 (hb), own_below h.2.2.2.1 (hb), below_via h.2.2.2.2 (hb)⟩ : ∀ W : World, (W.cell? ⟨w11.heap.size, 0, none⟩ = some (.int .i64 (u)) ∧ W.cell? ⟨w11.heap.size, 1, none⟩ = some (.int .i64 (v)) ∧ W.ownsRow (b6) 32 2 (.slice A6 l6.length c6) (l6.length) (flat l6) ∧ W.ownsRow (b7) 3 1 (.slice A7 a6.length c7) (a6.length) (ints a6) ∧ Below w.heap.size w W) → Below W.heap.size W w13 → (w13.cell? ⟨w11.heap.size, 0, none⟩ = some (.int .i64 (u)) ∧ w13.cell? ⟨w11.heap.size, 1, none⟩ = some (.int .i64 (v)) ∧ w13.ownsRow (b6) 32 2 (.slice A6 l6.length c6) (l6.length) (flat l6) ∧ w13.ownsRow (b7) 3 1 (.slice A7 a6.length c7) (a6.length) (ints a6) ∧ Below w.heap.size w w13)) _ (by first | (with_reducible assumption) | (exact hS) | (exact ⟨hS.1, hS.2.1, hS.2.2.1, hS.2.2.2.1, (by go_grown)⟩) | (exact ⟨(by first | (with_reducible assumption) | (simp [go_sem]; done) | ((simp only [go_sem]); (with_reducible assumption)) | ((refine keep_cell ?_ (by with_reducible assumption)); go_grown; done) | (simp [go_sem, *]; done)), (by first | (with_reducible assumption) | (simp [go_sem]; done) | ((simp only [go_sem]); (with_reducible assumption)) | ((refine keep_cell ?_ (by with_reducible assumption)); go_grown; done) | (simp [go_sem, *]; done)), (by first | (with_reducible assumption) | (exact World.ownsRow.alloc (by with_reducible assumption) _) | ((refine own_below (by with_reducible assumption) ?_); go_grown)), (by first | (with_reducible assumption) | (exact World.ownsRow.alloc (by with_reducible assumption) _) | ((refine own_below (by with_reducible assumption) ?_); go_grown)), (by go_grown)⟩)) hb
    (try clear hS)
    have hS := hT
    clear hT
    have hB := hS.2.2.2.2
    have hzw : w.heap.size ≤ w13.heap.size := hB.size
    have hz1 : w11.heap.size < w13.heap.size := World.block_lt_of_cell? w13 _ (hS.1)
    clear hb
    go_wp2_with fail
    refine (sSpreadAt_c _ _ l6 _ _ a6 u v _ (hide (own_reads (hS.2.2.1))) (hide (own_reads (hS.2.2.2.1))) (by omega) (by omega)).mono ?_
    rw [HS9.out, HK6.out]
    rintro e w14 ⟨rfl, hb⟩
    have hT : w14.cell? ⟨w11.heap.size, 0, none⟩ = some (.int .i64 (u)) ∧ w14.cell? ⟨w11.heap.size, 1, none⟩ = some (.int .i64 (v)) ∧ w14.ownsRow (b6) 32 2 (.slice A6 l6.length c6) (l6.length) (flat l6) ∧ w14.ownsRow (b7) 3 1 (.slice A7 a6.length c7) (a6.length) (ints a6) ∧ Below w.heap.size w w14 := (fun W h hb => ⟨keep_cell (hb) h.1, keep_cell (hb) h.2.1, own_below h.2.2.1 (hb), own_below h.2.2.2.1 (hb), below_via h.2.2.2.2 (hb)⟩ : ∀ W : World, (W.cell? ⟨w11.heap.size, 0, none⟩ = some (.int .i64 (u)) ∧ W.cell? ⟨w11.heap.size, 1, none⟩ = some (.int .i64 (v)) ∧ W.ownsRow (b6) 32 2 (.slice A6 l6.length c6) (l6.length) (flat l6) ∧ W.ownsRow (b7) 3 1 (.slice A7 a6.length c7) (a6.length) (ints a6) ∧ Below w.heap.size w W) → Below W.heap.size W w14 → (w14.cell? ⟨w11.heap.size, 0, none⟩ = some (.int .i64 (u)) ∧ w14.cell? ⟨w11.heap.size, 1, none⟩ = some (.int .i64 (v)) ∧ w14.ownsRow (b6) 32 2 (.slice A6 l6.length c6) (l6.length) (flat l6) ∧ w14.ownsRow (b7) 3 1 (.slice A7 a6.length c7) (a6.length) (ints a6) ∧ Below w.heap.size w w14)) _ (by first | (with_reducible assumption) | (exact hS) | (exact ⟨hS.1, hS.2.1, hS.2.2.1, hS.2.2.2.1, (by go_grown)⟩) | (exact ⟨(by first | (with_reducible assumption) | (simp [go_sem]; done) | ((simp only [go_sem]); (with_reducible assumption)) | ((refine keep_cell ?_ (by with_reducible assumption)); go_grown; done) | (simp [go_sem, *]; done)), (by first | (with_reducible assumption) | (simp [go_sem]; done) | ((simp only [go_sem]); (with_reducible assumption)) | ((refine keep_cell ?_ (by with_reducible assumption)); go_grown; done) | (simp [go_sem, *]; done)), (by first | (with_reducible assumption) | (exact World.ownsRow.alloc (by with_reducible assumption) _) | ((refine own_below (by with_reducible assumption) ?_); go_grown)), (by first | (with_reducible assumption) | (exact World.ownsRow.alloc (by with_reducible assumption) _) | ((refine own_below (by with_reducible assumption) ?_); go_grown)), (by go_grown)⟩)) hb
    (try clear hS)
    have hS := hT
    clear hT
    have hB := hS.2.2.2.2
    have hzw : w.heap.size ≤ w14.heap.size := hB.size
    have hz1 : w11.heap.size < w14.heap.size := World.block_lt_of_cell? w14 _ (hS.1)
    clear hb
    go_wp2
    go_returns
    exact ⟨ret_eq (by simp), by go_grown⟩
  obtain ⟨ak, av⟩ := HSA.out HK3.out
  rw [HT.out] at ak av
  have HAK := hide ak
  have HAV := hide av
  clear ak av
  have hP := hS
  go_wp2_with fail
  refine (ArrivalsOf_c _ _ _ l4 x y T (hide (own_reads (hS.2.2.1))) (by omega) (own_cap (hS.2.2.1))).mono ?_
  rw [HAV.out, HAK.out]
  rintro e w11 ⟨A8, c8, rfl, ho8, hb⟩
  obtain ⟨b8, ho8, hbk8⟩ := own_based ho8 (m := w10.heap.size) (by first | omega | (simp; done) | (simp; omega))
  have ne4_8 := own_ne (hP.2.2.1) ho8 hbk8
  have ne5_8 := own_ne (hP.2.2.2.1) ho8 hbk8
  clear hP
  have hT : w11.ownsRow (b8) 3 1 (.slice A8 a4.length c8) (a4.length) (ints a4) ∧ w11.cell? ⟨w7.heap.size, 0, none⟩ = some (.int .i64 (x)) ∧ w11.cell? ⟨w7.heap.size, 1, none⟩ = some (.int .i64 (y)) ∧ w11.ownsRow (b4) 32 2 (.slice A4 l4.length c4) (l4.length) (flat l4) ∧ w11.ownsRow (b5) 3 1 (.slice A5 a4.length c5) (a4.length) (ints a4) ∧ Below w.heap.size w w11 := ⟨ho8, (fun W h hb => ⟨keep_cell (hb) h.1, keep_cell (hb) h.2.1, own_below h.2.2.1 (hb), own_below h.2.2.2.1 (hb), below_via h.2.2.2.2 (hb)⟩ : ∀ W : World, (W.cell? ⟨w7.heap.size, 0, none⟩ = some (.int .i64 (x)) ∧ W.cell? ⟨w7.heap.size, 1, none⟩ = some (.int .i64 (y)) ∧ W.ownsRow (b4) 32 2 (.slice A4 l4.length c4) (l4.length) (flat l4) ∧ W.ownsRow (b5) 3 1 (.slice A5 a4.length c5) (a4.length) (ints a4) ∧ Below w.heap.size w W) → Below W.heap.size W w11 → (w11.cell? ⟨w7.heap.size, 0, none⟩ = some (.int .i64 (x)) ∧ w11.cell? ⟨w7.heap.size, 1, none⟩ = some (.int .i64 (y)) ∧ w11.ownsRow (b4) 32 2 (.slice A4 l4.length c4) (l4.length) (flat l4) ∧ w11.ownsRow (b5) 3 1 (.slice A5 a4.length c5) (a4.length) (ints a4) ∧ Below w.heap.size w w11)) _ (by first | (with_reducible assumption) | (exact hS) | (exact ⟨hS.1, hS.2.1, hS.2.2.1, hS.2.2.2.1, (by go_grown)⟩) | (exact ⟨(by first | (with_reducible assumption) | (simp [go_sem]; done) | ((simp only [go_sem]); (with_reducible assumption)) | ((refine keep_cell ?_ (by with_reducible assumption)); go_grown; done) | (simp [go_sem, *]; done)), (by first | (with_reducible assumption) | (simp [go_sem]; done) | ((simp only [go_sem]); (with_reducible assumption)) | ((refine keep_cell ?_ (by with_reducible assumption)); go_grown; done) | (simp [go_sem, *]; done)), (by first | (with_reducible assumption) | (exact World.ownsRow.alloc (by with_reducible assumption) _) | ((refine own_below (by with_reducible assumption) ?_); go_grown)), (by first | (with_reducible assumption) | (exact World.ownsRow.alloc (by with_reducible assumption) _) | ((refine own_below (by with_reducible assumption) ?_); go_grown)), (by go_grown)⟩)) hb⟩
  (try clear hS)
  have hS := hT
  clear hT
  have hB := hS.2.2.2.2.2
  have hzw : w.heap.size ≤ w11.heap.size := hB.size
  have hz1 : w7.heap.size < w11.heap.size := World.block_lt_of_cell? w11 _ (hS.2.1)
  clear hb
  go_wp2_with fail
  refine (vInts_c _ _ _ _ a4 a4 _ (hide (own_reads (hS.1))) (hide (own_reads (hS.2.2.2.2.1))) (by omega) (by omega)).mono ?_
  rw [decide_eq_true (show a4 = a4 from rfl)]
  rintro e w12 ⟨rfl, hb⟩
  have hT : w12.ownsRow (b8) 3 1 (.slice A8 a4.length c8) (a4.length) (ints a4) ∧ w12.cell? ⟨w7.heap.size, 0, none⟩ = some (.int .i64 (x)) ∧ w12.cell? ⟨w7.heap.size, 1, none⟩ = some (.int .i64 (y)) ∧ w12.ownsRow (b4) 32 2 (.slice A4 l4.length c4) (l4.length) (flat l4) ∧ w12.ownsRow (b5) 3 1 (.slice A5 a4.length c5) (a4.length) (ints a4) ∧ Below w.heap.size w w12 := (fun W h hb => ⟨own_below h.1 (hb), keep_cell (hb) h.2.1, keep_cell (hb) h.2.2.1, own_below h.2.2.2.1 (hb), own_below h.2.2.2.2.1 (hb), below_via h.2.2.2.2.2 (hb)⟩ : ∀ W : World, (W.ownsRow (b8) 3 1 (.slice A8 a4.length c8) (a4.length) (ints a4) ∧ W.cell? ⟨w7.heap.size, 0, none⟩ = some (.int .i64 (x)) ∧ W.cell? ⟨w7.heap.size, 1, none⟩ = some (.int .i64 (y)) ∧ W.ownsRow (b4) 32 2 (.slice A4 l4.length c4) (l4.length) (flat l4) ∧ W.ownsRow (b5) 3 1 (.slice A5 a4.length c5) (a4.length) (ints a4) ∧ Below w.heap.size w W) → Below W.heap.size W w12 → (w12.ownsRow (b8) 3 1 (.slice A8 a4.length c8) (a4.length) (ints a4) ∧ w12.cell? ⟨w7.heap.size, 0, none⟩ = some (.int .i64 (x)) ∧ w12.cell? ⟨w7.heap.size, 1, none⟩ = some (.int .i64 (y)) ∧ w12.ownsRow (b4) 32 2 (.slice A4 l4.length c4) (l4.length) (flat l4) ∧ w12.ownsRow (b5) 3 1 (.slice A5 a4.length c5) (a4.length) (ints a4) ∧ Below w.heap.size w w12)) _ (by first | (with_reducible assumption) | (exact hS) | (exact ⟨hS.1, hS.2.1, hS.2.2.1, hS.2.2.2.1, hS.2.2.2.2.1, (by go_grown)⟩) | (exact ⟨(by first | (with_reducible assumption) | (exact World.ownsRow.alloc (by with_reducible assumption) _) | ((refine own_below (by with_reducible assumption) ?_); go_grown)), (by first | (with_reducible assumption) | (simp [go_sem]; done) | ((simp only [go_sem]); (with_reducible assumption)) | ((refine keep_cell ?_ (by with_reducible assumption)); go_grown; done) | (simp [go_sem, *]; done)), (by first | (with_reducible assumption) | (simp [go_sem]; done) | ((simp only [go_sem]); (with_reducible assumption)) | ((refine keep_cell ?_ (by with_reducible assumption)); go_grown; done) | (simp [go_sem, *]; done)), (by first | (with_reducible assumption) | (exact World.ownsRow.alloc (by with_reducible assumption) _) | ((refine own_below (by with_reducible assumption) ?_); go_grown)), (by first | (with_reducible assumption) | (exact World.ownsRow.alloc (by with_reducible assumption) _) | ((refine own_below (by with_reducible assumption) ?_); go_grown)), (by go_grown)⟩)) hb
  (try clear hS)
  have hS := hT
  clear hT
  have hB := hS.2.2.2.2.2
  have hzw : w.heap.size ≤ w12.heap.size := hB.size
  have hz1 : w7.heap.size < w12.heap.size := World.block_lt_of_cell? w12 _ (hS.2.1)
  clear hb
  go_wp2
  go_returns
  exact ⟨ret_eq (by simp), by go_grown⟩
end Go.Proofs.Ytnocgcfepkdjeaa
