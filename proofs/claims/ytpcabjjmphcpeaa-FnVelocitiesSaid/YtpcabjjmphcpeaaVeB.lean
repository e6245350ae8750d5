/- Law: velocities. -/
import Derived.Deep.DeepCutAuto
import Derived.Test.YtpcabjjmphcpeaaVeA
import Derived.Test.YtpcabjjmphcpeaaSpH
import Derived.Test.YtpcabjjmphcpeaaSpF
import Derived.Test.YtpcabjjmphcpeaaSpG
import Derived.Test.YtpcabjjmphcpeaaSpJ
import Derived.Test.YtpcabjjmphcpeaaSpK
import Derived.Test.YtpcabjjmphcpeaaPvA
import Derived.Test.YtpcabjjmphcpeaaPvB
import Derived.Test.YtpcabjjmphcpeaaCode
namespace Go.Proofs.Ytpcabjjmphcpeaa
open Go.RowKit

theorem eqVl_run (a b : Int) (W : World) : (Op.equalIn 10000 25 (.agg #[.int .i64 a, .int .i64 b]) (.agg #[.int .i64 a, .int .i64 b])).run Try.prog W = .ok true W := by
  rw [show (10000 : Nat) = 9999 + 1 from rfl, run_equalIn_agg W 9999 25 _ _ (by kernel_rfl) (by kernel_rfl)]
  simp only [Program.fieldsOf, Try.underlying25]
  go_simp
theorem eqVl_bin (a b : Int) (W : World) : (binOp .eql 25 (.agg #[.int .i64 a, .int .i64 b]) (.agg #[.int .i64 a, .int .i64 b])).run Try.prog W = .ok (.bool true) W := by
  rw [run_eql_struct, eqVl_run]; rfl
theorem neVl_bin (a b : Int) (W : World) : (binOp .neq 25 (.agg #[.int .i64 a, .int .i64 b]) (.agg #[.int .i64 a, .int .i64 b])).run Try.prog W = .ok (.bool false) W := by
  rw [run_neq_struct, eqVl_run]; rfl

theorem vel_facts {x y : Int} (h : vV x y = true) : (decK (enc x y) = true ∧ decX (enc x y) = x ∧ decY (enc x y) = y) ∧ (pvK (vtS x y) = true ∧ (pvV (vtS x y)).1 = x ∧ (pvV (vtS x y)).2 = y) ∧ (dirK (-x) (-y) = dirK x y ∧ (dirK x y = true → dir (-x) (-y) = (dir x y + 4) % 8 ∧ 0 ≤ dir x y ∧ dir x y ≤ 7)) ∧ ((0 ≤ ws x y ∧ ws x y ≤ 282) ∧ ws x y * ws x y ≤ x * x + y * y ∧ ¬ (ws x y + 1) * (ws x y + 1) ≤ x * x + y * y) := by
  obtain ⟨e, _⟩ := vtS_at h
  obtain ⟨k1, k2⟩ := pv_text h
  rw [e, k1, k2]
  exact ⟨dec_enc h, ⟨rfl, rfl, rfl⟩, dir_neg h, ws_spec h⟩
theorem sq_small {s : Int} (h0 : 0 ≤ s) (h1 : s ≤ 282) : 0 ≤ s * s ∧ s * s ≤ 79524 ∧ 0 ≤ (s + 1) * (s + 1) ∧ (s + 1) * (s + 1) ≤ 80089 := by
  have a := Int.mul_nonneg h0 h0
  have b := sqs_le h0 h1
  have c := sqs_le (a := s + 1) (b := 283) (by omega) (by omega)
  have d := Int.mul_nonneg (show 0 ≤ s + 1 by omega) (show 0 ≤ s + 1 by omega)
  omega

def bigB (n : Nat) : Bool := decide (65536 < n)
theorem bigB_no {n : Nat} (h : bigB n = false) : n ≤ 65536 := by have := of_decide_eq_false h; omega

theorem rBig_c (A : Option Addr) (n c : Nat)  (w : World) : Calls Try.prog 35 #[.slice A n c] w fun e w' => e = .returned (.bool (bigB n)) ∧ w = w' := by
  by_cases h : 65536 < n
  all_goals
    go_enter Try.func35, Try.ntmps35
    go_wp2
    all_goals (go_returns; exact ⟨ret_eq (by unfold bigB; simp [h]; (try omega)), rfl⟩)

attribute [local go_sem ↓] eqVl_bin neVl_bin

set_option maxRecDepth 100000 in
set_option maxHeartbeats 4000000 in
theorem fnVelocities (A : Option Addr) (n c : Nat) (w : World) (h1 : Hid (CodeOk w A n))  : Calls Try.prog 14 #[.slice A n c] w (Gives w (.bool true)) := by
  rcases kb : bigB n with _ | _
  rotate_left
  · have HKB := hide kb
    clear kb
    go_enter Try.func14, Try.ntmps14
    go_wp2_with (first | (go_at_call 35; refine (rBig_c _ _ _ _).mono ?_; rintro e w1 ⟨rfl, rfl⟩; rw [HKB.out]))
    go_returns
    exact ⟨ret_eq rfl, by go_grown⟩
  have HKB := hide kb
  have HN := hide (bigB_no kb)
  clear kb
  go_enter Try.func14, Try.ntmps14
  go_wp2_with fail
  refine (rBig_c _ _ _ _).mono ?_
  rintro e wz ⟨rfl, rfl⟩
  rw [HKB.out]
  go_wp2_with fail
  refine (drawEncV_c A n c _ (hide (h1.out.below (by go_grown))) HN.out).mono ?_
  rintro e w1 ⟨x, y, rfl, ⟨⟨x0, x1⟩, y0, y1⟩, hb⟩
  have hT : Below w.heap.size w w1 := (fun W h hb => below_via h (hb) : ∀ W : World, (Below w.heap.size w W) → Below W.heap.size W w1 → (Below w.heap.size w w1)) _ (by first | (with_reducible assumption) | go_grown) hb
  (try clear hS)
  have hS := hT
  clear hT
  have hB := hS
  have hzw : w.heap.size ≤ w1.heap.size := hB.size
  clear hb
  go_wp2_with fail
  obtain ⟨w2, hww2⟩ : ∃ W, W = w1.alloc (.cells #[.int .i64 (x), .int .i64 (y)] 25) := ⟨_, rfl⟩
  have hT : w2.cell? ⟨w1.heap.size, 0, none⟩ = some (.int .i64 (x)) ∧ w2.cell? ⟨w1.heap.size, 1, none⟩ = some (.int .i64 (y)) ∧ Below w.heap.size w w2 := by
    rw [hww2]
    exact ⟨by simp [go_sem], by simp [go_sem], below_via hS (by go_grown)⟩
  rw [← hww2]
  clear hS hww2
  have hS := hT
  clear hT
  (try clear hB hzw)
  have hB := hS.2.2
  have hzw : w.heap.size ≤ w2.heap.size := hB.size
  have hz1 : w1.heap.size < w2.heap.size := World.block_lt_of_cell? w2 _ (hS.1)
  have HPS := hide (fun (h : vV x y = true) => vel_facts h)
  have HSZ := hide (vtS_size x y)
  obtain ⟨K, HK0⟩ : ∃ q, (vV x y) = q := ⟨_, rfl⟩
  have HK := hide HK0
  clear HK0
  obtain ⟨N, HE0⟩ : ∃ q, (enc x y) = q := ⟨_, rfl⟩
  have HE := hide HE0
  clear HE0
  obtain ⟨S, HS0⟩ : ∃ q, (vtS x y) = q := ⟨_, rfl⟩
  have HS := hide HS0
  clear HS0
  obtain ⟨D, HD0⟩ : ∃ q, (dir x y) = q := ⟨_, rfl⟩
  have HD := hide HD0
  clear HD0
  obtain ⟨DK, HDK0⟩ : ∃ q, (dirK x y) = q := ⟨_, rfl⟩
  have HDK := hide HDK0
  clear HDK0
  obtain ⟨SP, HW0⟩ : ∃ q, (ws x y) = q := ⟨_, rfl⟩
  have HW := hide HW0
  clear HW0
  go_wp2_with fail
  refine (enc_c x y _).mono ?_
  rw [HE.out, HK.out]
  rintro e w3 ⟨rfl, hb⟩
  have hT : w3.cell? ⟨w1.heap.size, 0, none⟩ = some (.int .i64 (x)) ∧ w3.cell? ⟨w1.heap.size, 1, none⟩ = some (.int .i64 (y)) ∧ Below w.heap.size w w3 := (fun W h hb => ⟨keep_cell (hb) h.1, keep_cell (hb) h.2.1, below_via h.2.2 (hb)⟩ : ∀ W : World, (W.cell? ⟨w1.heap.size, 0, none⟩ = some (.int .i64 (x)) ∧ W.cell? ⟨w1.heap.size, 1, none⟩ = some (.int .i64 (y)) ∧ Below w.heap.size w W) → Below W.heap.size W w3 → (w3.cell? ⟨w1.heap.size, 0, none⟩ = some (.int .i64 (x)) ∧ w3.cell? ⟨w1.heap.size, 1, none⟩ = some (.int .i64 (y)) ∧ Below w.heap.size w w3)) _ (by first | (with_reducible assumption) | (exact hS) | (exact ⟨hS.1, hS.2.1, (by go_grown)⟩) | (exact ⟨(by first | (with_reducible assumption) | (simp [go_sem]; done) | ((simp only [go_sem]); (with_reducible assumption)) | ((refine keep_cell ?_ (by with_reducible assumption)); go_grown; done) | (simp [go_sem, *]; done)), (by first | (with_reducible assumption) | (simp [go_sem]; done) | ((simp only [go_sem]); (with_reducible assumption)) | ((refine keep_cell ?_ (by with_reducible assumption)); go_grown; done) | (simp [go_sem, *]; done)), (by go_grown)⟩)) hb
  (try clear hS)
  have hS := hT
  clear hT
  have hB := hS.2.2
  have hzw : w.heap.size ≤ w3.heap.size := hB.size
  have hz1 : w1.heap.size < w3.heap.size := World.block_lt_of_cell? w3 _ (hS.1)
  clear hb
  go_wp2_with fail
  refine (velocityText_c x y _).mono ?_
  rw [HS.out, HK.out]
  rintro e w4 ⟨rfl, hb⟩
  have hT : w4.cell? ⟨w1.heap.size, 0, none⟩ = some (.int .i64 (x)) ∧ w4.cell? ⟨w1.heap.size, 1, none⟩ = some (.int .i64 (y)) ∧ Below w.heap.size w w4 := (fun W h hb => ⟨keep_cell (hb) h.1, keep_cell (hb) h.2.1, below_via h.2.2 (hb)⟩ : ∀ W : World, (W.cell? ⟨w1.heap.size, 0, none⟩ = some (.int .i64 (x)) ∧ W.cell? ⟨w1.heap.size, 1, none⟩ = some (.int .i64 (y)) ∧ Below w.heap.size w W) → Below W.heap.size W w4 → (w4.cell? ⟨w1.heap.size, 0, none⟩ = some (.int .i64 (x)) ∧ w4.cell? ⟨w1.heap.size, 1, none⟩ = some (.int .i64 (y)) ∧ Below w.heap.size w w4)) _ (by first | (with_reducible assumption) | (exact hS) | (exact ⟨hS.1, hS.2.1, (by go_grown)⟩) | (exact ⟨(by first | (with_reducible assumption) | (simp [go_sem]; done) | ((simp only [go_sem]); (with_reducible assumption)) | ((refine keep_cell ?_ (by with_reducible assumption)); go_grown; done) | (simp [go_sem, *]; done)), (by first | (with_reducible assumption) | (simp [go_sem]; done) | ((simp only [go_sem]); (with_reducible assumption)) | ((refine keep_cell ?_ (by with_reducible assumption)); go_grown; done) | (simp [go_sem, *]; done)), (by go_grown)⟩)) hb
  (try clear hS)
  have hS := hT
  clear hT
  have hB := hS.2.2
  have hzw : w.heap.size ≤ w4.heap.size := hB.size
  have hz1 : w1.heap.size < w4.heap.size := World.block_lt_of_cell? w4 _ (hS.1)
  clear hb
  go_wp2_with fail
  refine (sEnc_c x y _).mono ?_
  rw [HE.out, HK.out]
  rintro e w5 ⟨rfl, hb⟩
  have hT : w5.cell? ⟨w1.heap.size, 0, none⟩ = some (.int .i64 (x)) ∧ w5.cell? ⟨w1.heap.size, 1, none⟩ = some (.int .i64 (y)) ∧ Below w.heap.size w w5 := (fun W h hb => ⟨keep_cell (hb) h.1, keep_cell (hb) h.2.1, below_via h.2.2 (hb)⟩ : ∀ W : World, (W.cell? ⟨w1.heap.size, 0, none⟩ = some (.int .i64 (x)) ∧ W.cell? ⟨w1.heap.size, 1, none⟩ = some (.int .i64 (y)) ∧ Below w.heap.size w W) → Below W.heap.size W w5 → (w5.cell? ⟨w1.heap.size, 0, none⟩ = some (.int .i64 (x)) ∧ w5.cell? ⟨w1.heap.size, 1, none⟩ = some (.int .i64 (y)) ∧ Below w.heap.size w w5)) _ (by first | (with_reducible assumption) | (exact hS) | (exact ⟨hS.1, hS.2.1, (by go_grown)⟩) | (exact ⟨(by first | (with_reducible assumption) | (simp [go_sem]; done) | ((simp only [go_sem]); (with_reducible assumption)) | ((refine keep_cell ?_ (by with_reducible assumption)); go_grown; done) | (simp [go_sem, *]; done)), (by first | (with_reducible assumption) | (simp [go_sem]; done) | ((simp only [go_sem]); (with_reducible assumption)) | ((refine keep_cell ?_ (by with_reducible assumption)); go_grown; done) | (simp [go_sem, *]; done)), (by go_grown)⟩)) hb
  (try clear hS)
  have hS := hT
  clear hT
  have hB := hS.2.2
  have hzw : w.heap.size ≤ w5.heap.size := hB.size
  have hz1 : w1.heap.size < w5.heap.size := World.block_lt_of_cell? w5 _ (hS.1)
  clear hb
  go_wp2_with fail
  refine (validVel_c x y _).mono ?_
  rw [HK.out]
  rintro e w6 ⟨rfl, hb⟩
  have hT : w6.cell? ⟨w1.heap.size, 0, none⟩ = some (.int .i64 (x)) ∧ w6.cell? ⟨w1.heap.size, 1, none⟩ = some (.int .i64 (y)) ∧ Below w.heap.size w w6 := (fun W h hb => ⟨keep_cell (hb) h.1, keep_cell (hb) h.2.1, below_via h.2.2 (hb)⟩ : ∀ W : World, (W.cell? ⟨w1.heap.size, 0, none⟩ = some (.int .i64 (x)) ∧ W.cell? ⟨w1.heap.size, 1, none⟩ = some (.int .i64 (y)) ∧ Below w.heap.size w W) → Below W.heap.size W w6 → (w6.cell? ⟨w1.heap.size, 0, none⟩ = some (.int .i64 (x)) ∧ w6.cell? ⟨w1.heap.size, 1, none⟩ = some (.int .i64 (y)) ∧ Below w.heap.size w w6)) _ (by first | (with_reducible assumption) | (exact hS) | (exact ⟨hS.1, hS.2.1, (by go_grown)⟩) | (exact ⟨(by first | (with_reducible assumption) | (simp [go_sem]; done) | ((simp only [go_sem]); (with_reducible assumption)) | ((refine keep_cell ?_ (by with_reducible assumption)); go_grown; done) | (simp [go_sem, *]; done)), (by first | (with_reducible assumption) | (simp [go_sem]; done) | ((simp only [go_sem]); (with_reducible assumption)) | ((refine keep_cell ?_ (by with_reducible assumption)); go_grown; done) | (simp [go_sem, *]; done)), (by go_grown)⟩)) hb
  (try clear hS)
  have hS := hT
  clear hT
  have hB := hS.2.2
  have hzw : w.heap.size ≤ w6.heap.size := hB.size
  have hz1 : w1.heap.size < w6.heap.size := World.block_lt_of_cell? w6 _ (hS.1)
  clear hb
  go_wp2_with fail
  refine (sVelocityText_c x y _).mono ?_
  rw [HS.out, HK.out]
  rintro e w7 ⟨rfl, hb⟩
  have hT : w7.cell? ⟨w1.heap.size, 0, none⟩ = some (.int .i64 (x)) ∧ w7.cell? ⟨w1.heap.size, 1, none⟩ = some (.int .i64 (y)) ∧ Below w.heap.size w w7 := (fun W h hb => ⟨keep_cell (hb) h.1, keep_cell (hb) h.2.1, below_via h.2.2 (hb)⟩ : ∀ W : World, (W.cell? ⟨w1.heap.size, 0, none⟩ = some (.int .i64 (x)) ∧ W.cell? ⟨w1.heap.size, 1, none⟩ = some (.int .i64 (y)) ∧ Below w.heap.size w W) → Below W.heap.size W w7 → (w7.cell? ⟨w1.heap.size, 0, none⟩ = some (.int .i64 (x)) ∧ w7.cell? ⟨w1.heap.size, 1, none⟩ = some (.int .i64 (y)) ∧ Below w.heap.size w w7)) _ (by first | (with_reducible assumption) | (exact hS) | (exact ⟨hS.1, hS.2.1, (by go_grown)⟩) | (exact ⟨(by first | (with_reducible assumption) | (simp [go_sem]; done) | ((simp only [go_sem]); (with_reducible assumption)) | ((refine keep_cell ?_ (by with_reducible assumption)); go_grown; done) | (simp [go_sem, *]; done)), (by first | (with_reducible assumption) | (simp [go_sem]; done) | ((simp only [go_sem]); (with_reducible assumption)) | ((refine keep_cell ?_ (by with_reducible assumption)); go_grown; done) | (simp [go_sem, *]; done)), (by go_grown)⟩)) hb
  (try clear hS)
  have hS := hT
  clear hT
  have hB := hS.2.2
  have hzw : w.heap.size ≤ w7.heap.size := hB.size
  have hz1 : w1.heap.size < w7.heap.size := World.block_lt_of_cell? w7 _ (hS.1)
  clear hb
  go_wp2_with fail
  refine (dir_c x y _).mono ?_
  rw [HD.out, HDK.out]
  rintro e w8 ⟨rfl, hb⟩
  have hT : w8.cell? ⟨w1.heap.size, 0, none⟩ = some (.int .i64 (x)) ∧ w8.cell? ⟨w1.heap.size, 1, none⟩ = some (.int .i64 (y)) ∧ Below w.heap.size w w8 := (fun W h hb => ⟨keep_cell (hb) h.1, keep_cell (hb) h.2.1, below_via h.2.2 (hb)⟩ : ∀ W : World, (W.cell? ⟨w1.heap.size, 0, none⟩ = some (.int .i64 (x)) ∧ W.cell? ⟨w1.heap.size, 1, none⟩ = some (.int .i64 (y)) ∧ Below w.heap.size w W) → Below W.heap.size W w8 → (w8.cell? ⟨w1.heap.size, 0, none⟩ = some (.int .i64 (x)) ∧ w8.cell? ⟨w1.heap.size, 1, none⟩ = some (.int .i64 (y)) ∧ Below w.heap.size w w8)) _ (by first | (with_reducible assumption) | (exact hS) | (exact ⟨hS.1, hS.2.1, (by go_grown)⟩) | (exact ⟨(by first | (with_reducible assumption) | (simp [go_sem]; done) | ((simp only [go_sem]); (with_reducible assumption)) | ((refine keep_cell ?_ (by with_reducible assumption)); go_grown; done) | (simp [go_sem, *]; done)), (by first | (with_reducible assumption) | (simp [go_sem]; done) | ((simp only [go_sem]); (with_reducible assumption)) | ((refine keep_cell ?_ (by with_reducible assumption)); go_grown; done) | (simp [go_sem, *]; done)), (by go_grown)⟩)) hb
  (try clear hS)
  have hS := hT
  clear hT
  have hB := hS.2.2
  have hzw : w.heap.size ≤ w8.heap.size := hB.size
  have hz1 : w1.heap.size < w8.heap.size := World.block_lt_of_cell? w8 _ (hS.1)
  clear hb
  go_wp2_with fail
  refine (sDir_c x y _).mono ?_
  rw [HD.out, HDK.out]
  rintro e w9 ⟨rfl, hb⟩
  have hT : w9.cell? ⟨w1.heap.size, 0, none⟩ = some (.int .i64 (x)) ∧ w9.cell? ⟨w1.heap.size, 1, none⟩ = some (.int .i64 (y)) ∧ Below w.heap.size w w9 := (fun W h hb => ⟨keep_cell (hb) h.1, keep_cell (hb) h.2.1, below_via h.2.2 (hb)⟩ : ∀ W : World, (W.cell? ⟨w1.heap.size, 0, none⟩ = some (.int .i64 (x)) ∧ W.cell? ⟨w1.heap.size, 1, none⟩ = some (.int .i64 (y)) ∧ Below w.heap.size w W) → Below W.heap.size W w9 → (w9.cell? ⟨w1.heap.size, 0, none⟩ = some (.int .i64 (x)) ∧ w9.cell? ⟨w1.heap.size, 1, none⟩ = some (.int .i64 (y)) ∧ Below w.heap.size w w9)) _ (by first | (with_reducible assumption) | (exact hS) | (exact ⟨hS.1, hS.2.1, (by go_grown)⟩) | (exact ⟨(by first | (with_reducible assumption) | (simp [go_sem]; done) | ((simp only [go_sem]); (with_reducible assumption)) | ((refine keep_cell ?_ (by with_reducible assumption)); go_grown; done) | (simp [go_sem, *]; done)), (by first | (with_reducible assumption) | (simp [go_sem]; done) | ((simp only [go_sem]); (with_reducible assumption)) | ((refine keep_cell ?_ (by with_reducible assumption)); go_grown; done) | (simp [go_sem, *]; done)), (by go_grown)⟩)) hb
  (try clear hS)
  have hS := hT
  clear hT
  have hB := hS.2.2
  have hzw : w.heap.size ≤ w9.heap.size := hB.size
  have hz1 : w1.heap.size < w9.heap.size := World.block_lt_of_cell? w9 _ (hS.1)
  clear hb
  go_wp2_with fail
  refine (whole_c x y _).mono ?_
  rw [HW.out, HK.out]
  rintro e w10 ⟨rfl, hb⟩
  have hT : w10.cell? ⟨w1.heap.size, 0, none⟩ = some (.int .i64 (x)) ∧ w10.cell? ⟨w1.heap.size, 1, none⟩ = some (.int .i64 (y)) ∧ Below w.heap.size w w10 := (fun W h hb => ⟨keep_cell (hb) h.1, keep_cell (hb) h.2.1, below_via h.2.2 (hb)⟩ : ∀ W : World, (W.cell? ⟨w1.heap.size, 0, none⟩ = some (.int .i64 (x)) ∧ W.cell? ⟨w1.heap.size, 1, none⟩ = some (.int .i64 (y)) ∧ Below w.heap.size w W) → Below W.heap.size W w10 → (w10.cell? ⟨w1.heap.size, 0, none⟩ = some (.int .i64 (x)) ∧ w10.cell? ⟨w1.heap.size, 1, none⟩ = some (.int .i64 (y)) ∧ Below w.heap.size w w10)) _ (by first | (with_reducible assumption) | (exact hS) | (exact ⟨hS.1, hS.2.1, (by go_grown)⟩) | (exact ⟨(by first | (with_reducible assumption) | (simp [go_sem]; done) | ((simp only [go_sem]); (with_reducible assumption)) | ((refine keep_cell ?_ (by with_reducible assumption)); go_grown; done) | (simp [go_sem, *]; done)), (by first | (with_reducible assumption) | (simp [go_sem]; done) | ((simp only [go_sem]); (with_reducible assumption)) | ((refine keep_cell ?_ (by with_reducible assumption)); go_grown; done) | (simp [go_sem, *]; done)), (by go_grown)⟩)) hb
  (try clear hS)
  have hS := hT
  clear hT
  have hB := hS.2.2
  have hzw : w.heap.size ≤ w10.heap.size := hB.size
  have hz1 : w1.heap.size < w10.heap.size := World.block_lt_of_cell? w10 _ (hS.1)
  clear hb
  go_wp2_with fail
  refine (sWhole_c x y _).mono ?_
  rw [HW.out, HK.out]
  rintro e w11 ⟨rfl, hb⟩
  have hT : w11.cell? ⟨w1.heap.size, 0, none⟩ = some (.int .i64 (x)) ∧ w11.cell? ⟨w1.heap.size, 1, none⟩ = some (.int .i64 (y)) ∧ Below w.heap.size w w11 := (fun W h hb => ⟨keep_cell (hb) h.1, keep_cell (hb) h.2.1, below_via h.2.2 (hb)⟩ : ∀ W : World, (W.cell? ⟨w1.heap.size, 0, none⟩ = some (.int .i64 (x)) ∧ W.cell? ⟨w1.heap.size, 1, none⟩ = some (.int .i64 (y)) ∧ Below w.heap.size w W) → Below W.heap.size W w11 → (w11.cell? ⟨w1.heap.size, 0, none⟩ = some (.int .i64 (x)) ∧ w11.cell? ⟨w1.heap.size, 1, none⟩ = some (.int .i64 (y)) ∧ Below w.heap.size w w11)) _ (by first | (with_reducible assumption) | (exact hS) | (exact ⟨hS.1, hS.2.1, (by go_grown)⟩) | (exact ⟨(by first | (with_reducible assumption) | (simp [go_sem]; done) | ((simp only [go_sem]); (with_reducible assumption)) | ((refine keep_cell ?_ (by with_reducible assumption)); go_grown; done) | (simp [go_sem, *]; done)), (by first | (with_reducible assumption) | (simp [go_sem]; done) | ((simp only [go_sem]); (with_reducible assumption)) | ((refine keep_cell ?_ (by with_reducible assumption)); go_grown; done) | (simp [go_sem, *]; done)), (by go_grown)⟩)) hb
  (try clear hS)
  have hS := hT
  clear hT
  have hB := hS.2.2
  have hzw : w.heap.size ≤ w11.heap.size := hB.size
  have hz1 : w1.heap.size < w11.heap.size := World.block_lt_of_cell? w11 _ (hS.1)
  clear hb
  go_upto_if 124 with fail
  go_cut [] (fun wx => Below w.heap.size w wx)
  case first =>
    cases K
    · go_wp2_with fail
      go_meet
      case rel => go_grown
    obtain ⟨⟨d1, d2, d3⟩, ⟨p1, p2, p3⟩, ⟨e1, e2⟩, ⟨w0, w1_⟩, w2_, w3_⟩ := HPS.out HK.out
    have hsz := HSZ.out
    rw [HE.out] at d1 d2 d3
    rw [HS.out] at p1 p2 p3 hsz
    rw [HDK.out] at e1 e2
    rw [HD.out] at e2
    rw [HW.out] at w0 w1_ w2_ w3_
    have HC := hide (fun W : World => dec_c N W)
    rw [d1, d2, d3] at HC
    have HP := hide (fun W : World => pv_i_c S (by omega) W)
    rw [p1, p2, p3] at HP
    have HO := hide (fun W : World => dir_c (-x) (-y) W)
    rw [e1] at HO
    obtain ⟨O, hO⟩ : ∃ q, dir (-x) (-y) = q := ⟨_, rfl⟩
    rw [hO] at HO e2
    clear d1 d2 d3 p1 p2 p3 e1 hO hsz
    obtain ⟨s1, s2, s3, s4⟩ := sq_small w0 w1_
    obtain ⟨⟨t1, t2⟩, t3, t4⟩ := sq_bd HK.out
    have ex1 : IntKind.i64.wrap (-x) = -x := IntWalk.i64_in _ (by omega)
    have ey1 : IntKind.i64.wrap (-y) = -y := IntWalk.i64_in _ (by omega)
    have eq1 : IntKind.i64.wrap (x * x) = x * x := IntWalk.i64_in _ (by omega)
    have eq2 : IntKind.i64.wrap (y * y) = y * y := IntWalk.i64_in _ (by omega)
    have eq3 : IntKind.i64.wrap (x * x + y * y) = x * x + y * y := IntWalk.i64_in _ (by omega)
    have es0 : IntKind.i64.wrap (SP + 1) = SP + 1 := IntWalk.i64_in _ (by omega)
    have es1 : IntKind.i64.wrap (SP * SP) = SP * SP := IntWalk.i64_in _ (by omega)
    have es2 : IntKind.i64.wrap ((SP + 1) * (SP + 1)) = (SP + 1) * (SP + 1) := IntWalk.i64_in _ (by omega)
    obtain ⟨Q, hQ⟩ : ∃ q, x * x + y * y = q := ⟨_, rfl⟩
    obtain ⟨S1, hS1⟩ : ∃ q, SP * SP = q := ⟨_, rfl⟩
    obtain ⟨S2, hS2⟩ : ∃ q, (SP + 1) * (SP + 1) = q := ⟨_, rfl⟩
    rw [hQ] at w2_ w3_ eq3
    rw [hS1] at w2_ es1
    rw [hS2] at w3_ es2
    have c1 : decide (S1 > Q) = false := decide_eq_false (by omega)
    have c2 : decide (S2 ≤ Q) = false := decide_eq_false (by omega)
    have eq4 : IntKind.i64.wrap (x * x + y * y) = Q := by rw [hQ]; exact eq3
    have es3 : IntKind.i64.wrap (SP * SP) = S1 := by rw [hS1]; exact es1
    have es4 : IntKind.i64.wrap ((SP + 1) * (SP + 1)) = S2 := by rw [hS2]; exact es2
    clear hQ hS1 hS2 eq3 es1 es2 w2_ w3_ s1 s2 s3 s4 t1 t2 t3 t4
    go_wp2_with fail
    refine (HC.out _).mono ?_
    rintro e w12 ⟨rfl, hb⟩
    have hT : w12.cell? ⟨w1.heap.size, 0, none⟩ = some (.int .i64 (x)) ∧ w12.cell? ⟨w1.heap.size, 1, none⟩ = some (.int .i64 (y)) ∧ Below w.heap.size w w12 := (fun W h hb => ⟨keep_cell (hb) h.1, keep_cell (hb) h.2.1, below_via h.2.2 (hb)⟩ : ∀ W : World, (W.cell? ⟨w1.heap.size, 0, none⟩ = some (.int .i64 (x)) ∧ W.cell? ⟨w1.heap.size, 1, none⟩ = some (.int .i64 (y)) ∧ Below w.heap.size w W) → Below W.heap.size W w12 → (w12.cell? ⟨w1.heap.size, 0, none⟩ = some (.int .i64 (x)) ∧ w12.cell? ⟨w1.heap.size, 1, none⟩ = some (.int .i64 (y)) ∧ Below w.heap.size w w12)) _ (by first | (with_reducible assumption) | (exact hS) | (exact ⟨hS.1, hS.2.1, (by go_grown)⟩) | (exact ⟨(by first | (with_reducible assumption) | (simp [go_sem]; done) | ((simp only [go_sem]); (with_reducible assumption)) | ((refine keep_cell ?_ (by with_reducible assumption)); go_grown; done) | (simp [go_sem, *]; done)), (by first | (with_reducible assumption) | (simp [go_sem]; done) | ((simp only [go_sem]); (with_reducible assumption)) | ((refine keep_cell ?_ (by with_reducible assumption)); go_grown; done) | (simp [go_sem, *]; done)), (by go_grown)⟩)) hb
    (try clear hS)
    have hS := hT
    clear hT
    have hB := hS.2.2
    have hzw : w.heap.size ≤ w12.heap.size := hB.size
    have hz1 : w1.heap.size < w12.heap.size := World.block_lt_of_cell? w12 _ (hS.1)
    clear hb
    go_wp2_with fail
    obtain ⟨w13, hww13⟩ : ∃ W, W = w12.alloc (.cells #[.int .i64 (x), .int .i64 (y)] 25) := ⟨_, rfl⟩
    have hT : w13.cell? ⟨w12.heap.size, 0, none⟩ = some (.int .i64 (x)) ∧ w13.cell? ⟨w12.heap.size, 1, none⟩ = some (.int .i64 (y)) ∧ w13.cell? ⟨w1.heap.size, 0, none⟩ = some (.int .i64 (x)) ∧ w13.cell? ⟨w1.heap.size, 1, none⟩ = some (.int .i64 (y)) ∧ Below w.heap.size w w13 := by
      rw [hww13]
      exact ⟨by simp [go_sem], by simp [go_sem], keep_cell (by go_grown) hS.1, keep_cell (by go_grown) hS.2.1, below_via hS.2.2 (by go_grown)⟩
    rw [← hww13]
    clear hS hww13
    have hS := hT
    clear hT
    (try clear hB hzw)
    have hB := hS.2.2.2.2
    have hzw : w.heap.size ≤ w13.heap.size := hB.size
    have hz1 : w12.heap.size < w13.heap.size := World.block_lt_of_cell? w13 _ (hS.1)
    have hz2 : w1.heap.size < w13.heap.size := World.block_lt_of_cell? w13 _ (hS.2.2.1)
    go_wp2_with fail
    refine (HP.out _).mono ?_
    rintro e w14 ⟨rfl, hb⟩
    have hT : w14.cell? ⟨w12.heap.size, 0, none⟩ = some (.int .i64 (x)) ∧ w14.cell? ⟨w12.heap.size, 1, none⟩ = some (.int .i64 (y)) ∧ w14.cell? ⟨w1.heap.size, 0, none⟩ = some (.int .i64 (x)) ∧ w14.cell? ⟨w1.heap.size, 1, none⟩ = some (.int .i64 (y)) ∧ Below w.heap.size w w14 := (fun W h hb => ⟨keep_cell (hb) h.1, keep_cell (hb) h.2.1, keep_cell (hb) h.2.2.1, keep_cell (hb) h.2.2.2.1, below_via h.2.2.2.2 (hb)⟩ : ∀ W : World, (W.cell? ⟨w12.heap.size, 0, none⟩ = some (.int .i64 (x)) ∧ W.cell? ⟨w12.heap.size, 1, none⟩ = some (.int .i64 (y)) ∧ W.cell? ⟨w1.heap.size, 0, none⟩ = some (.int .i64 (x)) ∧ W.cell? ⟨w1.heap.size, 1, none⟩ = some (.int .i64 (y)) ∧ Below w.heap.size w W) → Below W.heap.size W w14 → (w14.cell? ⟨w12.heap.size, 0, none⟩ = some (.int .i64 (x)) ∧ w14.cell? ⟨w12.heap.size, 1, none⟩ = some (.int .i64 (y)) ∧ w14.cell? ⟨w1.heap.size, 0, none⟩ = some (.int .i64 (x)) ∧ w14.cell? ⟨w1.heap.size, 1, none⟩ = some (.int .i64 (y)) ∧ Below w.heap.size w w14)) _ (by first | (with_reducible assumption) | (exact hS) | (exact ⟨hS.1, hS.2.1, hS.2.2.1, hS.2.2.2.1, (by go_grown)⟩) | (exact ⟨(by first | (with_reducible assumption) | (simp [go_sem]; done) | ((simp only [go_sem]); (with_reducible assumption)) | ((refine keep_cell ?_ (by with_reducible assumption)); go_grown; done) | (simp [go_sem, *]; done)), (by first | (with_reducible assumption) | (simp [go_sem]; done) | ((simp only [go_sem]); (with_reducible assumption)) | ((refine keep_cell ?_ (by with_reducible assumption)); go_grown; done) | (simp [go_sem, *]; done)), (by first | (with_reducible assumption) | (simp [go_sem]; done) | ((simp only [go_sem]); (with_reducible assumption)) | ((refine keep_cell ?_ (by with_reducible assumption)); go_grown; done) | (simp [go_sem, *]; done)), (by first | (with_reducible assumption) | (simp [go_sem]; done) | ((simp only [go_sem]); (with_reducible assumption)) | ((refine keep_cell ?_ (by with_reducible assumption)); go_grown; done) | (simp [go_sem, *]; done)), (by go_grown)⟩)) hb
    (try clear hS)
    have hS := hT
    clear hT
    have hB := hS.2.2.2.2
    have hzw : w.heap.size ≤ w14.heap.size := hB.size
    have hz1 : w12.heap.size < w14.heap.size := World.block_lt_of_cell? w14 _ (hS.1)
    have hz2 : w1.heap.size < w14.heap.size := World.block_lt_of_cell? w14 _ (hS.2.2.1)
    clear hb
    go_wp2_with fail
    obtain ⟨w15, hww15⟩ : ∃ W, W = w14.alloc (.cells #[.int .i64 (x), .int .i64 (y)] 25) := ⟨_, rfl⟩
    have hT : w15.cell? ⟨w14.heap.size, 0, none⟩ = some (.int .i64 (x)) ∧ w15.cell? ⟨w14.heap.size, 1, none⟩ = some (.int .i64 (y)) ∧ w15.cell? ⟨w12.heap.size, 0, none⟩ = some (.int .i64 (x)) ∧ w15.cell? ⟨w12.heap.size, 1, none⟩ = some (.int .i64 (y)) ∧ w15.cell? ⟨w1.heap.size, 0, none⟩ = some (.int .i64 (x)) ∧ w15.cell? ⟨w1.heap.size, 1, none⟩ = some (.int .i64 (y)) ∧ Below w.heap.size w w15 := by
      rw [hww15]
      exact ⟨by simp [go_sem], by simp [go_sem], keep_cell (by go_grown) hS.1, keep_cell (by go_grown) hS.2.1, keep_cell (by go_grown) hS.2.2.1, keep_cell (by go_grown) hS.2.2.2.1, below_via hS.2.2.2.2 (by go_grown)⟩
    rw [← hww15]
    clear hS hww15
    have hS := hT
    clear hT
    (try clear hB hzw)
    have hB := hS.2.2.2.2.2.2
    have hzw : w.heap.size ≤ w15.heap.size := hB.size
    have hz1 : w14.heap.size < w15.heap.size := World.block_lt_of_cell? w15 _ (hS.1)
    have hz2 : w12.heap.size < w15.heap.size := World.block_lt_of_cell? w15 _ (hS.2.2.1)
    have hz3 : w1.heap.size < w15.heap.size := World.block_lt_of_cell? w15 _ (hS.2.2.2.2.1)
    go_wp2_with fail
    refine (HO.out _).mono ?_
    rintro e w16 ⟨rfl, hb⟩
    have hT : w16.cell? ⟨w14.heap.size, 0, none⟩ = some (.int .i64 (x)) ∧ w16.cell? ⟨w14.heap.size, 1, none⟩ = some (.int .i64 (y)) ∧ w16.cell? ⟨w12.heap.size, 0, none⟩ = some (.int .i64 (x)) ∧ w16.cell? ⟨w12.heap.size, 1, none⟩ = some (.int .i64 (y)) ∧ w16.cell? ⟨w1.heap.size, 0, none⟩ = some (.int .i64 (x)) ∧ w16.cell? ⟨w1.heap.size, 1, none⟩ = some (.int .i64 (y)) ∧ Below w.heap.size w w16 := (fun W h hb => ⟨keep_cell (hb) h.1, keep_cell (hb) h.2.1, keep_cell (hb) h.2.2.1, keep_cell (hb) h.2.2.2.1, keep_cell (hb) h.2.2.2.2.1, keep_cell (hb) h.2.2.2.2.2.1, below_via h.2.2.2.2.2.2 (hb)⟩ : ∀ W : World, (W.cell? ⟨w14.heap.size, 0, none⟩ = some (.int .i64 (x)) ∧ W.cell? ⟨w14.heap.size, 1, none⟩ = some (.int .i64 (y)) ∧ W.cell? ⟨w12.heap.size, 0, none⟩ = some (.int .i64 (x)) ∧ W.cell? ⟨w12.heap.size, 1, none⟩ = some (.int .i64 (y)) ∧ W.cell? ⟨w1.heap.size, 0, none⟩ = some (.int .i64 (x)) ∧ W.cell? ⟨w1.heap.size, 1, none⟩ = some (.int .i64 (y)) ∧ Below w.heap.size w W) → Below W.heap.size W w16 → (w16.cell? ⟨w14.heap.size, 0, none⟩ = some (.int .i64 (x)) ∧ w16.cell? ⟨w14.heap.size, 1, none⟩ = some (.int .i64 (y)) ∧ w16.cell? ⟨w12.heap.size, 0, none⟩ = some (.int .i64 (x)) ∧ w16.cell? ⟨w12.heap.size, 1, none⟩ = some (.int .i64 (y)) ∧ w16.cell? ⟨w1.heap.size, 0, none⟩ = some (.int .i64 (x)) ∧ w16.cell? ⟨w1.heap.size, 1, none⟩ = some (.int .i64 (y)) ∧ Below w.heap.size w w16)) _ (by first | (with_reducible assumption) | (exact hS) | (exact ⟨hS.1, hS.2.1, hS.2.2.1, hS.2.2.2.1, hS.2.2.2.2.1, hS.2.2.2.2.2.1, (by go_grown)⟩) | (exact ⟨(by first | (with_reducible assumption) | (simp [go_sem]; done) | ((simp only [go_sem]); (with_reducible assumption)) | ((refine keep_cell ?_ (by with_reducible assumption)); go_grown; done) | (simp [go_sem, *]; done)), (by first | (with_reducible assumption) | (simp [go_sem]; done) | ((simp only [go_sem]); (with_reducible assumption)) | ((refine keep_cell ?_ (by with_reducible assumption)); go_grown; done) | (simp [go_sem, *]; done)), (by first | (with_reducible assumption) | (simp [go_sem]; done) | ((simp only [go_sem]); (with_reducible assumption)) | ((refine keep_cell ?_ (by with_reducible assumption)); go_grown; done) | (simp [go_sem, *]; done)), (by first | (with_reducible assumption) | (simp [go_sem]; done) | ((simp only [go_sem]); (with_reducible assumption)) | ((refine keep_cell ?_ (by with_reducible assumption)); go_grown; done) | (simp [go_sem, *]; done)), (by first | (with_reducible assumption) | (simp [go_sem]; done) | ((simp only [go_sem]); (with_reducible assumption)) | ((refine keep_cell ?_ (by with_reducible assumption)); go_grown; done) | (simp [go_sem, *]; done)), (by first | (with_reducible assumption) | (simp [go_sem]; done) | ((simp only [go_sem]); (with_reducible assumption)) | ((refine keep_cell ?_ (by with_reducible assumption)); go_grown; done) | (simp [go_sem, *]; done)), (by go_grown)⟩)) hb
    (try clear hS)
    have hS := hT
    clear hT
    have hB := hS.2.2.2.2.2.2
    have hzw : w.heap.size ≤ w16.heap.size := hB.size
    have hz1 : w14.heap.size < w16.heap.size := World.block_lt_of_cell? w16 _ (hS.1)
    have hz2 : w12.heap.size < w16.heap.size := World.block_lt_of_cell? w16 _ (hS.2.2.1)
    have hz3 : w1.heap.size < w16.heap.size := World.block_lt_of_cell? w16 _ (hS.2.2.2.2.1)
    clear hb
    cases DK
    · go_wp2_with fail
      go_meet
      case rel => go_grown
    obtain ⟨e3, e4, e5⟩ := e2 rfl
    have ed1 : IntKind.i64.wrap (D + 4) = D + 4 := IntWalk.i64_in _ (by omega)
    have ed2 : (D + 4).tmod 8 = O := by rw [Int.tmod_eq_emod_of_nonneg (by omega), e3]
    clear e2
    go_wp2_with fail
    go_meet
    case rel => go_grown
  have hB : Below w.heap.size w wc := hcut
  clear hcut
  (try clear hS)
  have hzw : w.heap.size ≤ wc.heap.size := hB.size
  go_wp2_with fail
  refine (drawDecV_c A n c _ (hide (h1.out.below (by go_grown))) HN.out).mono ?_
  rintro e w12 ⟨m, rfl, m0, m1, hb⟩
  have hT : Below w.heap.size w w12 := (fun W h hb => below_via h (hb) : ∀ W : World, (Below w.heap.size w W) → Below W.heap.size W w12 → (Below w.heap.size w w12)) _ (by first | (with_reducible assumption) | go_grown) hb
  (try clear hS)
  have hS := hT
  clear hT
  have hB := hS
  have hzw : w.heap.size ≤ w12.heap.size := hB.size
  clear hb
  obtain ⟨X1, HX10⟩ : ∃ q, (decX m) = q := ⟨_, rfl⟩
  have HX1 := hide HX10
  clear HX10
  obtain ⟨Y1, HY10⟩ : ∃ q, (decY m) = q := ⟨_, rfl⟩
  have HY1 := hide HY10
  clear HY10
  obtain ⟨K1, HK10⟩ : ∃ q, (decK m) = q := ⟨_, rfl⟩
  have HK1 := hide HK10
  clear HK10
  go_wp2_with fail
  refine (dec_c m _).mono ?_
  rw [HX1.out, HY1.out, HK1.out]
  rintro e w13 ⟨rfl, hb⟩
  have hT : Below w.heap.size w w13 := (fun W h hb => below_via h (hb) : ∀ W : World, (Below w.heap.size w W) → Below W.heap.size W w13 → (Below w.heap.size w w13)) _ (by first | (with_reducible assumption) | go_grown) hb
  (try clear hS)
  have hS := hT
  clear hT
  have hB := hS
  have hzw : w.heap.size ≤ w13.heap.size := hB.size
  clear hb
  go_wp2_with fail
  obtain ⟨w14, hww14⟩ : ∃ W, W = w13.alloc (.cells #[.int .i64 (X1), .int .i64 (Y1)] 25) := ⟨_, rfl⟩
  have hT : w14.cell? ⟨w13.heap.size, 0, none⟩ = some (.int .i64 (X1)) ∧ w14.cell? ⟨w13.heap.size, 1, none⟩ = some (.int .i64 (Y1)) ∧ Below w.heap.size w w14 := by
    rw [hww14]
    exact ⟨by simp [go_sem], by simp [go_sem], below_via hS (by go_grown)⟩
  rw [← hww14]
  clear hS hww14
  have hS := hT
  clear hT
  (try clear hB hzw)
  have hB := hS.2.2
  have hzw : w.heap.size ≤ w14.heap.size := hB.size
  have hz1 : w13.heap.size < w14.heap.size := World.block_lt_of_cell? w14 _ (hS.1)
  go_wp2_with fail
  refine (sDec_c m _).mono ?_
  rw [HX1.out, HY1.out, HK1.out]
  rintro e w15 ⟨rfl, hb⟩
  have hT : w15.cell? ⟨w13.heap.size, 0, none⟩ = some (.int .i64 (X1)) ∧ w15.cell? ⟨w13.heap.size, 1, none⟩ = some (.int .i64 (Y1)) ∧ Below w.heap.size w w15 := (fun W h hb => ⟨keep_cell (hb) h.1, keep_cell (hb) h.2.1, below_via h.2.2 (hb)⟩ : ∀ W : World, (W.cell? ⟨w13.heap.size, 0, none⟩ = some (.int .i64 (X1)) ∧ W.cell? ⟨w13.heap.size, 1, none⟩ = some (.int .i64 (Y1)) ∧ Below w.heap.size w W) → Below W.heap.size W w15 → (w15.cell? ⟨w13.heap.size, 0, none⟩ = some (.int .i64 (X1)) ∧ w15.cell? ⟨w13.heap.size, 1, none⟩ = some (.int .i64 (Y1)) ∧ Below w.heap.size w w15)) _ (by first | (with_reducible assumption) | (exact hS) | (exact ⟨hS.1, hS.2.1, (by go_grown)⟩) | (exact ⟨(by first | (with_reducible assumption) | (simp [go_sem]; done) | ((simp only [go_sem]); (with_reducible assumption)) | ((refine keep_cell ?_ (by with_reducible assumption)); go_grown; done) | (simp [go_sem, *]; done)), (by first | (with_reducible assumption) | (simp [go_sem]; done) | ((simp only [go_sem]); (with_reducible assumption)) | ((refine keep_cell ?_ (by with_reducible assumption)); go_grown; done) | (simp [go_sem, *]; done)), (by go_grown)⟩)) hb
  (try clear hS)
  have hS := hT
  clear hT
  have hB := hS.2.2
  have hzw : w.heap.size ≤ w15.heap.size := hB.size
  have hz1 : w13.heap.size < w15.heap.size := World.block_lt_of_cell? w15 _ (hS.1)
  clear hb
  go_wp2_with fail
  obtain ⟨w16, hww16⟩ : ∃ W, W = w15.alloc (.cells #[.int .i64 (X1), .int .i64 (Y1)] 25) := ⟨_, rfl⟩
  have hT : w16.cell? ⟨w15.heap.size, 0, none⟩ = some (.int .i64 (X1)) ∧ w16.cell? ⟨w15.heap.size, 1, none⟩ = some (.int .i64 (Y1)) ∧ w16.cell? ⟨w13.heap.size, 0, none⟩ = some (.int .i64 (X1)) ∧ w16.cell? ⟨w13.heap.size, 1, none⟩ = some (.int .i64 (Y1)) ∧ Below w.heap.size w w16 := by
    rw [hww16]
    exact ⟨by simp [go_sem], by simp [go_sem], keep_cell (by go_grown) hS.1, keep_cell (by go_grown) hS.2.1, below_via hS.2.2 (by go_grown)⟩
  rw [← hww16]
  clear hS hww16
  have hS := hT
  clear hT
  (try clear hB hzw)
  have hB := hS.2.2.2.2
  have hzw : w.heap.size ≤ w16.heap.size := hB.size
  have hz1 : w15.heap.size < w16.heap.size := World.block_lt_of_cell? w16 _ (hS.1)
  have hz2 : w13.heap.size < w16.heap.size := World.block_lt_of_cell? w16 _ (hS.2.2.1)
  go_wp2_with fail
  refine (drawParV_c A n c _ (hide (h1.out.below (by go_grown))) HN.out).mono ?_
  rintro e w17 ⟨t, rfl, hts, hb⟩
  have hT : w17.cell? ⟨w15.heap.size, 0, none⟩ = some (.int .i64 (X1)) ∧ w17.cell? ⟨w15.heap.size, 1, none⟩ = some (.int .i64 (Y1)) ∧ w17.cell? ⟨w13.heap.size, 0, none⟩ = some (.int .i64 (X1)) ∧ w17.cell? ⟨w13.heap.size, 1, none⟩ = some (.int .i64 (Y1)) ∧ Below w.heap.size w w17 := (fun W h hb => ⟨keep_cell (hb) h.1, keep_cell (hb) h.2.1, keep_cell (hb) h.2.2.1, keep_cell (hb) h.2.2.2.1, below_via h.2.2.2.2 (hb)⟩ : ∀ W : World, (W.cell? ⟨w15.heap.size, 0, none⟩ = some (.int .i64 (X1)) ∧ W.cell? ⟨w15.heap.size, 1, none⟩ = some (.int .i64 (Y1)) ∧ W.cell? ⟨w13.heap.size, 0, none⟩ = some (.int .i64 (X1)) ∧ W.cell? ⟨w13.heap.size, 1, none⟩ = some (.int .i64 (Y1)) ∧ Below w.heap.size w W) → Below W.heap.size W w17 → (w17.cell? ⟨w15.heap.size, 0, none⟩ = some (.int .i64 (X1)) ∧ w17.cell? ⟨w15.heap.size, 1, none⟩ = some (.int .i64 (Y1)) ∧ w17.cell? ⟨w13.heap.size, 0, none⟩ = some (.int .i64 (X1)) ∧ w17.cell? ⟨w13.heap.size, 1, none⟩ = some (.int .i64 (Y1)) ∧ Below w.heap.size w w17)) _ (by first | (with_reducible assumption) | (exact hS) | (exact ⟨hS.1, hS.2.1, hS.2.2.1, hS.2.2.2.1, (by go_grown)⟩) | (exact ⟨(by first | (with_reducible assumption) | (simp [go_sem]; done) | ((simp only [go_sem]); (with_reducible assumption)) | ((refine keep_cell ?_ (by with_reducible assumption)); go_grown; done) | (simp [go_sem, *]; done)), (by first | (with_reducible assumption) | (simp [go_sem]; done) | ((simp only [go_sem]); (with_reducible assumption)) | ((refine keep_cell ?_ (by with_reducible assumption)); go_grown; done) | (simp [go_sem, *]; done)), (by first | (with_reducible assumption) | (simp [go_sem]; done) | ((simp only [go_sem]); (with_reducible assumption)) | ((refine keep_cell ?_ (by with_reducible assumption)); go_grown; done) | (simp [go_sem, *]; done)), (by first | (with_reducible assumption) | (simp [go_sem]; done) | ((simp only [go_sem]); (with_reducible assumption)) | ((refine keep_cell ?_ (by with_reducible assumption)); go_grown; done) | (simp [go_sem, *]; done)), (by go_grown)⟩)) hb
  (try clear hS)
  have hS := hT
  clear hT
  have hB := hS.2.2.2.2
  have hzw : w.heap.size ≤ w17.heap.size := hB.size
  have hz1 : w15.heap.size < w17.heap.size := World.block_lt_of_cell? w17 _ (hS.1)
  have hz2 : w13.heap.size < w17.heap.size := World.block_lt_of_cell? w17 _ (hS.2.2.1)
  clear hb
  obtain ⟨X2, HX20⟩ : ∃ q, ((pvV t).1) = q := ⟨_, rfl⟩
  have HX2 := hide HX20
  clear HX20
  obtain ⟨Y2, HY20⟩ : ∃ q, ((pvV t).2) = q := ⟨_, rfl⟩
  have HY2 := hide HY20
  clear HY20
  obtain ⟨K2, HK20⟩ : ∃ q, (pvK t) = q := ⟨_, rfl⟩
  have HK2 := hide HK20
  clear HK20
  go_wp2_with fail
  refine (pv_i_c t (by omega) _).mono ?_
  rw [HX2.out, HY2.out, HK2.out]
  rintro e w18 ⟨rfl, hb⟩
  have hT : w18.cell? ⟨w15.heap.size, 0, none⟩ = some (.int .i64 (X1)) ∧ w18.cell? ⟨w15.heap.size, 1, none⟩ = some (.int .i64 (Y1)) ∧ w18.cell? ⟨w13.heap.size, 0, none⟩ = some (.int .i64 (X1)) ∧ w18.cell? ⟨w13.heap.size, 1, none⟩ = some (.int .i64 (Y1)) ∧ Below w.heap.size w w18 := (fun W h hb => ⟨keep_cell (hb) h.1, keep_cell (hb) h.2.1, keep_cell (hb) h.2.2.1, keep_cell (hb) h.2.2.2.1, below_via h.2.2.2.2 (hb)⟩ : ∀ W : World, (W.cell? ⟨w15.heap.size, 0, none⟩ = some (.int .i64 (X1)) ∧ W.cell? ⟨w15.heap.size, 1, none⟩ = some (.int .i64 (Y1)) ∧ W.cell? ⟨w13.heap.size, 0, none⟩ = some (.int .i64 (X1)) ∧ W.cell? ⟨w13.heap.size, 1, none⟩ = some (.int .i64 (Y1)) ∧ Below w.heap.size w W) → Below W.heap.size W w18 → (w18.cell? ⟨w15.heap.size, 0, none⟩ = some (.int .i64 (X1)) ∧ w18.cell? ⟨w15.heap.size, 1, none⟩ = some (.int .i64 (Y1)) ∧ w18.cell? ⟨w13.heap.size, 0, none⟩ = some (.int .i64 (X1)) ∧ w18.cell? ⟨w13.heap.size, 1, none⟩ = some (.int .i64 (Y1)) ∧ Below w.heap.size w w18)) _ (by first | (with_reducible assumption) | (exact hS) | (exact ⟨hS.1, hS.2.1, hS.2.2.1, hS.2.2.2.1, (by go_grown)⟩) | (exact ⟨(by first | (with_reducible assumption) | (simp [go_sem]; done) | ((simp only [go_sem]); (with_reducible assumption)) | ((refine keep_cell ?_ (by with_reducible assumption)); go_grown; done) | (simp [go_sem, *]; done)), (by first | (with_reducible assumption) | (simp [go_sem]; done) | ((simp only [go_sem]); (with_reducible assumption)) | ((refine keep_cell ?_ (by with_reducible assumption)); go_grown; done) | (simp [go_sem, *]; done)), (by first | (with_reducible assumption) | (simp [go_sem]; done) | ((simp only [go_sem]); (with_reducible assumption)) | ((refine keep_cell ?_ (by with_reducible assumption)); go_grown; done) | (simp [go_sem, *]; done)), (by first | (with_reducible assumption) | (simp [go_sem]; done) | ((simp only [go_sem]); (with_reducible assumption)) | ((refine keep_cell ?_ (by with_reducible assumption)); go_grown; done) | (simp [go_sem, *]; done)), (by go_grown)⟩)) hb
  (try clear hS)
  have hS := hT
  clear hT
  have hB := hS.2.2.2.2
  have hzw : w.heap.size ≤ w18.heap.size := hB.size
  have hz1 : w15.heap.size < w18.heap.size := World.block_lt_of_cell? w18 _ (hS.1)
  have hz2 : w13.heap.size < w18.heap.size := World.block_lt_of_cell? w18 _ (hS.2.2.1)
  clear hb
  go_wp2_with fail
  obtain ⟨w19, hww19⟩ : ∃ W, W = w18.alloc (.cells #[.int .i64 (X2), .int .i64 (Y2)] 25) := ⟨_, rfl⟩
  have hT : w19.cell? ⟨w18.heap.size, 0, none⟩ = some (.int .i64 (X2)) ∧ w19.cell? ⟨w18.heap.size, 1, none⟩ = some (.int .i64 (Y2)) ∧ w19.cell? ⟨w15.heap.size, 0, none⟩ = some (.int .i64 (X1)) ∧ w19.cell? ⟨w15.heap.size, 1, none⟩ = some (.int .i64 (Y1)) ∧ w19.cell? ⟨w13.heap.size, 0, none⟩ = some (.int .i64 (X1)) ∧ w19.cell? ⟨w13.heap.size, 1, none⟩ = some (.int .i64 (Y1)) ∧ Below w.heap.size w w19 := by
    rw [hww19]
    exact ⟨by simp [go_sem], by simp [go_sem], keep_cell (by go_grown) hS.1, keep_cell (by go_grown) hS.2.1, keep_cell (by go_grown) hS.2.2.1, keep_cell (by go_grown) hS.2.2.2.1, below_via hS.2.2.2.2 (by go_grown)⟩
  rw [← hww19]
  clear hS hww19
  have hS := hT
  clear hT
  (try clear hB hzw)
  have hB := hS.2.2.2.2.2.2
  have hzw : w.heap.size ≤ w19.heap.size := hB.size
  have hz1 : w18.heap.size < w19.heap.size := World.block_lt_of_cell? w19 _ (hS.1)
  have hz2 : w15.heap.size < w19.heap.size := World.block_lt_of_cell? w19 _ (hS.2.2.1)
  have hz3 : w13.heap.size < w19.heap.size := World.block_lt_of_cell? w19 _ (hS.2.2.2.2.1)
  go_wp2_with fail
  refine (pv_s_c t (by omega) _).mono ?_
  rw [HX2.out, HY2.out, HK2.out]
  rintro e w20 ⟨rfl, hb⟩
  have hT : w20.cell? ⟨w18.heap.size, 0, none⟩ = some (.int .i64 (X2)) ∧ w20.cell? ⟨w18.heap.size, 1, none⟩ = some (.int .i64 (Y2)) ∧ w20.cell? ⟨w15.heap.size, 0, none⟩ = some (.int .i64 (X1)) ∧ w20.cell? ⟨w15.heap.size, 1, none⟩ = some (.int .i64 (Y1)) ∧ w20.cell? ⟨w13.heap.size, 0, none⟩ = some (.int .i64 (X1)) ∧ w20.cell? ⟨w13.heap.size, 1, none⟩ = some (.int .i64 (Y1)) ∧ Below w.heap.size w w20 := (fun W h hb => ⟨keep_cell (hb) h.1, keep_cell (hb) h.2.1, keep_cell (hb) h.2.2.1, keep_cell (hb) h.2.2.2.1, keep_cell (hb) h.2.2.2.2.1, keep_cell (hb) h.2.2.2.2.2.1, below_via h.2.2.2.2.2.2 (hb)⟩ : ∀ W : World, (W.cell? ⟨w18.heap.size, 0, none⟩ = some (.int .i64 (X2)) ∧ W.cell? ⟨w18.heap.size, 1, none⟩ = some (.int .i64 (Y2)) ∧ W.cell? ⟨w15.heap.size, 0, none⟩ = some (.int .i64 (X1)) ∧ W.cell? ⟨w15.heap.size, 1, none⟩ = some (.int .i64 (Y1)) ∧ W.cell? ⟨w13.heap.size, 0, none⟩ = some (.int .i64 (X1)) ∧ W.cell? ⟨w13.heap.size, 1, none⟩ = some (.int .i64 (Y1)) ∧ Below w.heap.size w W) → Below W.heap.size W w20 → (w20.cell? ⟨w18.heap.size, 0, none⟩ = some (.int .i64 (X2)) ∧ w20.cell? ⟨w18.heap.size, 1, none⟩ = some (.int .i64 (Y2)) ∧ w20.cell? ⟨w15.heap.size, 0, none⟩ = some (.int .i64 (X1)) ∧ w20.cell? ⟨w15.heap.size, 1, none⟩ = some (.int .i64 (Y1)) ∧ w20.cell? ⟨w13.heap.size, 0, none⟩ = some (.int .i64 (X1)) ∧ w20.cell? ⟨w13.heap.size, 1, none⟩ = some (.int .i64 (Y1)) ∧ Below w.heap.size w w20)) _ (by first | (with_reducible assumption) | (exact hS) | (exact ⟨hS.1, hS.2.1, hS.2.2.1, hS.2.2.2.1, hS.2.2.2.2.1, hS.2.2.2.2.2.1, (by go_grown)⟩) | (exact ⟨(by first | (with_reducible assumption) | (simp [go_sem]; done) | ((simp only [go_sem]); (with_reducible assumption)) | ((refine keep_cell ?_ (by with_reducible assumption)); go_grown; done) | (simp [go_sem, *]; done)), (by first | (with_reducible assumption) | (simp [go_sem]; done) | ((simp only [go_sem]); (with_reducible assumption)) | ((refine keep_cell ?_ (by with_reducible assumption)); go_grown; done) | (simp [go_sem, *]; done)), (by first | (with_reducible assumption) | (simp [go_sem]; done) | ((simp only [go_sem]); (with_reducible assumption)) | ((refine keep_cell ?_ (by with_reducible assumption)); go_grown; done) | (simp [go_sem, *]; done)), (by first | (with_reducible assumption) | (simp [go_sem]; done) | ((simp only [go_sem]); (with_reducible assumption)) | ((refine keep_cell ?_ (by with_reducible assumption)); go_grown; done) | (simp [go_sem, *]; done)), (by first | (with_reducible assumption) | (simp [go_sem]; done) | ((simp only [go_sem]); (with_reducible assumption)) | ((refine keep_cell ?_ (by with_reducible assumption)); go_grown; done) | (simp [go_sem, *]; done)), (by first | (with_reducible assumption) | (simp [go_sem]; done) | ((simp only [go_sem]); (with_reducible assumption)) | ((refine keep_cell ?_ (by with_reducible assumption)); go_grown; done) | (simp [go_sem, *]; done)), (by go_grown)⟩)) hb
  (try clear hS)
  have hS := hT
  clear hT
  have hB := hS.2.2.2.2.2.2
  have hzw : w.heap.size ≤ w20.heap.size := hB.size
  have hz1 : w18.heap.size < w20.heap.size := World.block_lt_of_cell? w20 _ (hS.1)
  have hz2 : w15.heap.size < w20.heap.size := World.block_lt_of_cell? w20 _ (hS.2.2.1)
  have hz3 : w13.heap.size < w20.heap.size := World.block_lt_of_cell? w20 _ (hS.2.2.2.2.1)
  clear hb
  go_wp2_with fail
  obtain ⟨w21, hww21⟩ : ∃ W, W = w20.alloc (.cells #[.int .i64 (X2), .int .i64 (Y2)] 25) := ⟨_, rfl⟩
  have hT : w21.cell? ⟨w20.heap.size, 0, none⟩ = some (.int .i64 (X2)) ∧ w21.cell? ⟨w20.heap.size, 1, none⟩ = some (.int .i64 (Y2)) ∧ w21.cell? ⟨w18.heap.size, 0, none⟩ = some (.int .i64 (X2)) ∧ w21.cell? ⟨w18.heap.size, 1, none⟩ = some (.int .i64 (Y2)) ∧ w21.cell? ⟨w15.heap.size, 0, none⟩ = some (.int .i64 (X1)) ∧ w21.cell? ⟨w15.heap.size, 1, none⟩ = some (.int .i64 (Y1)) ∧ w21.cell? ⟨w13.heap.size, 0, none⟩ = some (.int .i64 (X1)) ∧ w21.cell? ⟨w13.heap.size, 1, none⟩ = some (.int .i64 (Y1)) ∧ Below w.heap.size w w21 := by
    rw [hww21]
    exact ⟨by simp [go_sem], by simp [go_sem], keep_cell (by go_grown) hS.1, keep_cell (by go_grown) hS.2.1, keep_cell (by go_grown) hS.2.2.1, keep_cell (by go_grown) hS.2.2.2.1, keep_cell (by go_grown) hS.2.2.2.2.1, keep_cell (by go_grown) hS.2.2.2.2.2.1, below_via hS.2.2.2.2.2.2 (by go_grown)⟩
  rw [← hww21]
  clear hS hww21
  have hS := hT
  clear hT
  (try clear hB hzw)
  have hB := hS.2.2.2.2.2.2.2.2
  have hzw : w.heap.size ≤ w21.heap.size := hB.size
  have hz1 : w20.heap.size < w21.heap.size := World.block_lt_of_cell? w21 _ (hS.1)
  have hz2 : w18.heap.size < w21.heap.size := World.block_lt_of_cell? w21 _ (hS.2.2.1)
  have hz3 : w15.heap.size < w21.heap.size := World.block_lt_of_cell? w21 _ (hS.2.2.2.2.1)
  have hz4 : w13.heap.size < w21.heap.size := World.block_lt_of_cell? w21 _ (hS.2.2.2.2.2.2.1)
  go_wp2
  go_returns
  exact ⟨ret_eq (by simp), by go_grown⟩
end Go.Proofs.Ytpcabjjmphcpeaa
