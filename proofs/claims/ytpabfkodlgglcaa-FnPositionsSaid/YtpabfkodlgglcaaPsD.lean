/- Law: places and their reports. -/
import Derived.Deep.DeepCutAuto
import Derived.Test.YtpabfkodlgglcaaRpV
import Derived.Test.YtpabfkodlgglcaaPsMath
import Derived.Test.YtpabfkodlgglcaaPsB
import Derived.Test.YtpabfkodlgglcaaPsC
import Derived.Test.YtpabfkodlgglcaaPoE
import Derived.Test.YtpabfkodlgglcaaPoG
import Derived.Test.YtpabfkodlgglcaaMvC
import Derived.Test.YtpabfkodlgglcaaMvD
import Derived.Test.YtpabfkodlgglcaaCode
namespace Go.Proofs.Ytpabfkodlgglcaa
open Go.RowKit

theorem eqPla_self (a b : Int) (W : World) : (binOp .eql 25 (.agg #[.int .i64 a, .int .i64 b]) (.agg #[.int .i64 a, .int .i64 b])).run Try.prog W = .ok (.bool true) W := by
  rw [eqPt_bin]; simp [peq]

def bigB (n : Nat) : Bool := decide (65536 < n)
theorem bigB_no {n : Nat} (h : bigB n = false) : n ≤ 65536 := by have := of_decide_eq_false h; omega

theorem vBig_c (A : Option Addr) (n c : Nat)  (w : World) : Calls Try.prog 20 #[.slice A n c] w fun e w' => e = .returned (.bool (bigB n)) ∧ w = w' := by
  by_cases h : 65536 < n
  all_goals
    go_enter Try.func20, Try.ntmps20
    go_wp2
    all_goals (go_returns; exact ⟨ret_eq (by unfold bigB; simp [h]; (try omega)), rfl⟩)

theorem vAbs_c (n : Int) (h0 : -1000000 ≤ n) (h1 : n ≤ 1000000) (w : World) : Calls Try.prog 30 #[.int .i64 n] w fun e w' => e = .returned (.int .i64 (ab n)) ∧ w = w' := by
  have ew : IntKind.i64.wrap (-n) = -n := IntWalk.i64_in _ (by omega)
  by_cases h : n < 0
  all_goals
    go_enter Try.func30, Try.ntmps30
    go_wp2
    all_goals (go_returns; exact ⟨ret_eq (by first | (unfold ab; simp [h]; done) | (unfold ab; simp [h]; omega)), rfl⟩)

attribute [local go_sem ↓] neRep_self nePla_self eqPla_self

set_option maxRecDepth 100000 in
set_option maxHeartbeats 20000000 in
theorem fnPositions (A : Option Addr) (n c : Nat) (w : World) (h1 : Hid (CodeOk w A n))  : Calls Try.prog 5 #[.slice A n c] w (Gives w (.bool true)) := by
  rcases kb : bigB n with _ | _
  rotate_left
  · have HKB := hide kb
    clear kb
    go_enter Try.func5, Try.ntmps5
    go_wp2_with (first | (go_at_call 20; refine (vBig_c _ _ _ _).mono ?_; rintro e w1 ⟨rfl, rfl⟩; rw [HKB.out]))
    go_returns
    exact ⟨ret_eq rfl, by go_grown⟩
  have HKB := hide kb
  have HN := hide (bigB_no kb)
  clear kb
  go_enter Try.func5, Try.ntmps5
  go_wp2_with fail
  refine (vBig_c _ _ _ _).mono ?_
  rintro e wz ⟨rfl, rfl⟩
  rw [HKB.out]
  go_wp2_with fail
  refine (drawOf_c A n c _ (hide (h1.out.below (by go_grown))) HN.out).mono ?_
  rintro e w1 ⟨x, y, o, rfl, ⟨x0, x1⟩, ⟨y0, y1⟩, hb⟩
  have hT : Below w.heap.size w w1 := (fun W h hb => below_via h (hb) : ∀ W : World, (Below w.heap.size w W) → Below W.heap.size W w1 → (Below w.heap.size w w1)) _ (by first | (with_reducible assumption) | go_grown) hb
  (try clear hS)
  have hS := hT
  clear hT
  have hB := hS
  have hzw : w.heap.size ≤ w1.heap.size := hB.size
  clear hb
  go_wp2_with fail
  obtain ⟨w2, hww2⟩ : ∃ W, W = w1.alloc (.cells #[.int .i64 x, .int .i64 y] 25) := ⟨_, rfl⟩
  have hT : w2.cell? ⟨w1.heap.size, 0, none⟩ = some (.int .i64 x) ∧ w2.cell? ⟨w1.heap.size, 1, none⟩ = some (.int .i64 y) ∧ Below w.heap.size w w2 := by
    rw [hww2]
    exact ⟨by simp [go_sem], by simp [go_sem], below_via hS (by go_grown)⟩
  rw [← hww2]
  clear hS hww2
  have hS := hT
  clear hT
  (try clear hB hzw)
  have hB := hS.2.2
  have hzw : w.heap.size ≤ w2.heap.size := hB.size
  have hz1 : w1.heap.size < w2.heap.size := World.block_lt_of_cell? w2 _ (hS.1)
  have HPS := hide (fun (h : vP x y = true) => (⟨rof_of (o := o) h rfl rfl, dn_self o h, mv_self o h, dp_rep h, h⟩ : (rofO x y o = o ∧ rofA x y o = x % szOf o ∧ rofB x y o = y % szOf o) ∧ _ ∧ _ ∧ _ ∧ vP x y = true))
  obtain ⟨K, HK0⟩ : ∃ q, (vP x y) = q := ⟨_, rfl⟩
  have HK := hide HK0
  clear HK0
  obtain ⟨RO, HO0⟩ : ∃ q, (rofO x y o) = q := ⟨_, rfl⟩
  have HO := hide HO0
  clear HO0
  obtain ⟨RA, HA0⟩ : ∃ q, (rofA x y o) = q := ⟨_, rfl⟩
  have HA := hide HA0
  clear HA0
  obtain ⟨RB, HBB0⟩ : ∃ q, (rofB x y o) = q := ⟨_, rfl⟩
  have HBB := hide HBB0
  clear HBB0
  go_wp2_with fail
  refine (reportOf_c x y o _).mono ?_
  rw [HO.out, HA.out, HBB.out, HK.out]
  rintro e w3 ⟨rfl, hb⟩
  have hT : w3.cell? ⟨w1.heap.size, 0, none⟩ = some (.int .i64 x) ∧ w3.cell? ⟨w1.heap.size, 1, none⟩ = some (.int .i64 y) ∧ Below w.heap.size w w3 := (fun W h hb => ⟨keep_cell (hb) h.1, keep_cell (hb) h.2.1, below_via h.2.2 (hb)⟩ : ∀ W : World, (W.cell? ⟨w1.heap.size, 0, none⟩ = some (.int .i64 x) ∧ W.cell? ⟨w1.heap.size, 1, none⟩ = some (.int .i64 y) ∧ Below w.heap.size w W) → Below W.heap.size W w3 → (w3.cell? ⟨w1.heap.size, 0, none⟩ = some (.int .i64 x) ∧ w3.cell? ⟨w1.heap.size, 1, none⟩ = some (.int .i64 y) ∧ Below w.heap.size w w3)) _ (by first | (with_reducible assumption) | (exact hS) | (exact ⟨hS.1, hS.2.1, (by go_grown)⟩) | (exact ⟨(by first | (with_reducible assumption) | (simp [go_sem]; done) | ((simp only [go_sem]); (with_reducible assumption)) | ((refine keep_cell ?_ (by with_reducible assumption)); go_grown; done) | (simp [go_sem, *]; done)), (by first | (with_reducible assumption) | (simp [go_sem]; done) | ((simp only [go_sem]); (with_reducible assumption)) | ((refine keep_cell ?_ (by with_reducible assumption)); go_grown; done) | (simp [go_sem, *]; done)), (by go_grown)⟩)) hb
  (try clear hS)
  have hS := hT
  clear hT
  have hB := hS.2.2
  have hzw : w.heap.size ≤ w3.heap.size := hB.size
  have hz1 : w1.heap.size < w3.heap.size := World.block_lt_of_cell? w3 _ (hS.1)
  clear hb
  go_wp2_with fail
  obtain ⟨w4, hww4⟩ : ∃ W, W = w3.alloc (.cells #[.bool RO, .int .i64 RA, .int .i64 RB] 31) := ⟨_, rfl⟩
  have hT : w4.cell? ⟨w3.heap.size, 0, none⟩ = some (.bool RO) ∧ w4.cell? ⟨w3.heap.size, 1, none⟩ = some (.int .i64 RA) ∧ w4.cell? ⟨w3.heap.size, 2, none⟩ = some (.int .i64 RB) ∧ w4.cell? ⟨w1.heap.size, 0, none⟩ = some (.int .i64 x) ∧ w4.cell? ⟨w1.heap.size, 1, none⟩ = some (.int .i64 y) ∧ Below w.heap.size w w4 := by
    rw [hww4]
    exact ⟨by simp [go_sem], by simp [go_sem], by simp [go_sem], keep_cell (by go_grown) hS.1, keep_cell (by go_grown) hS.2.1, below_via hS.2.2 (by go_grown)⟩
  rw [← hww4]
  clear hS hww4
  have hS := hT
  clear hT
  (try clear hB hzw)
  have hB := hS.2.2.2.2.2
  have hzw : w.heap.size ≤ w4.heap.size := hB.size
  have hz1 : w3.heap.size < w4.heap.size := World.block_lt_of_cell? w4 _ (hS.1)
  have hz2 : w1.heap.size < w4.heap.size := World.block_lt_of_cell? w4 _ (hS.2.2.2.1)
  go_wp2_with fail
  refine (sReportOf_c x y o _).mono ?_
  rw [HO.out, HA.out, HBB.out, HK.out]
  rintro e w5 ⟨rfl, hb⟩
  have hT : w5.cell? ⟨w3.heap.size, 0, none⟩ = some (.bool RO) ∧ w5.cell? ⟨w3.heap.size, 1, none⟩ = some (.int .i64 RA) ∧ w5.cell? ⟨w3.heap.size, 2, none⟩ = some (.int .i64 RB) ∧ w5.cell? ⟨w1.heap.size, 0, none⟩ = some (.int .i64 x) ∧ w5.cell? ⟨w1.heap.size, 1, none⟩ = some (.int .i64 y) ∧ Below w.heap.size w w5 := (fun W h hb => ⟨keep_cell (hb) h.1, keep_cell (hb) h.2.1, keep_cell (hb) h.2.2.1, keep_cell (hb) h.2.2.2.1, keep_cell (hb) h.2.2.2.2.1, below_via h.2.2.2.2.2 (hb)⟩ : ∀ W : World, (W.cell? ⟨w3.heap.size, 0, none⟩ = some (.bool RO) ∧ W.cell? ⟨w3.heap.size, 1, none⟩ = some (.int .i64 RA) ∧ W.cell? ⟨w3.heap.size, 2, none⟩ = some (.int .i64 RB) ∧ W.cell? ⟨w1.heap.size, 0, none⟩ = some (.int .i64 x) ∧ W.cell? ⟨w1.heap.size, 1, none⟩ = some (.int .i64 y) ∧ Below w.heap.size w W) → Below W.heap.size W w5 → (w5.cell? ⟨w3.heap.size, 0, none⟩ = some (.bool RO) ∧ w5.cell? ⟨w3.heap.size, 1, none⟩ = some (.int .i64 RA) ∧ w5.cell? ⟨w3.heap.size, 2, none⟩ = some (.int .i64 RB) ∧ w5.cell? ⟨w1.heap.size, 0, none⟩ = some (.int .i64 x) ∧ w5.cell? ⟨w1.heap.size, 1, none⟩ = some (.int .i64 y) ∧ Below w.heap.size w w5)) _ (by first | (with_reducible assumption) | (exact hS) | (exact ⟨hS.1, hS.2.1, hS.2.2.1, hS.2.2.2.1, hS.2.2.2.2.1, (by go_grown)⟩) | (exact ⟨(by first | (with_reducible assumption) | (simp [go_sem]; done) | ((simp only [go_sem]); (with_reducible assumption)) | ((refine keep_cell ?_ (by with_reducible assumption)); go_grown; done) | (simp [go_sem, *]; done)), (by first | (with_reducible assumption) | (simp [go_sem]; done) | ((simp only [go_sem]); (with_reducible assumption)) | ((refine keep_cell ?_ (by with_reducible assumption)); go_grown; done) | (simp [go_sem, *]; done)), (by first | (with_reducible assumption) | (simp [go_sem]; done) | ((simp only [go_sem]); (with_reducible assumption)) | ((refine keep_cell ?_ (by with_reducible assumption)); go_grown; done) | (simp [go_sem, *]; done)), (by first | (with_reducible assumption) | (simp [go_sem]; done) | ((simp only [go_sem]); (with_reducible assumption)) | ((refine keep_cell ?_ (by with_reducible assumption)); go_grown; done) | (simp [go_sem, *]; done)), (by first | (with_reducible assumption) | (simp [go_sem]; done) | ((simp only [go_sem]); (with_reducible assumption)) | ((refine keep_cell ?_ (by with_reducible assumption)); go_grown; done) | (simp [go_sem, *]; done)), (by go_grown)⟩)) hb
  (try clear hS)
  have hS := hT
  clear hT
  have hB := hS.2.2.2.2.2
  have hzw : w.heap.size ≤ w5.heap.size := hB.size
  have hz1 : w3.heap.size < w5.heap.size := World.block_lt_of_cell? w5 _ (hS.1)
  have hz2 : w1.heap.size < w5.heap.size := World.block_lt_of_cell? w5 _ (hS.2.2.2.1)
  clear hb
  go_upto_region 6 with fail
  obtain ⟨w6, hww6⟩ : ∃ W, W = w5.alloc (.cells #[.bool RO, .int .i64 RA, .int .i64 RB] 31) := ⟨_, rfl⟩
  have hT : w6.cell? ⟨w5.heap.size, 0, none⟩ = some (.bool RO) ∧ w6.cell? ⟨w5.heap.size, 1, none⟩ = some (.int .i64 RA) ∧ w6.cell? ⟨w5.heap.size, 2, none⟩ = some (.int .i64 RB) ∧ w6.cell? ⟨w3.heap.size, 0, none⟩ = some (.bool RO) ∧ w6.cell? ⟨w3.heap.size, 1, none⟩ = some (.int .i64 RA) ∧ w6.cell? ⟨w3.heap.size, 2, none⟩ = some (.int .i64 RB) ∧ w6.cell? ⟨w1.heap.size, 0, none⟩ = some (.int .i64 x) ∧ w6.cell? ⟨w1.heap.size, 1, none⟩ = some (.int .i64 y) ∧ Below w.heap.size w w6 := by
    rw [hww6]
    exact ⟨by simp [go_sem], by simp [go_sem], by simp [go_sem], keep_cell (by go_grown) hS.1, keep_cell (by go_grown) hS.2.1, keep_cell (by go_grown) hS.2.2.1, keep_cell (by go_grown) hS.2.2.2.1, keep_cell (by go_grown) hS.2.2.2.2.1, below_via hS.2.2.2.2.2 (by go_grown)⟩
  rw [← hww6]
  clear hS hww6
  have hS := hT
  clear hT
  (try clear hB hzw)
  have hB := hS.2.2.2.2.2.2.2.2
  have hzw : w.heap.size ≤ w6.heap.size := hB.size
  have hz1 : w5.heap.size < w6.heap.size := World.block_lt_of_cell? w6 _ (hS.1)
  have hz2 : w3.heap.size < w6.heap.size := World.block_lt_of_cell? w6 _ (hS.2.2.2.1)
  have hz3 : w1.heap.size < w6.heap.size := World.block_lt_of_cell? w6 _ (hS.2.2.2.2.2.2.1)
  go_upto_region 6 with fail
  go_cut [69] (fun s wx => s = .bool false ∧ (wx.cell? ⟨w5.heap.size, 0, none⟩ = some (.bool RO) ∧ wx.cell? ⟨w5.heap.size, 1, none⟩ = some (.int .i64 RA) ∧ wx.cell? ⟨w5.heap.size, 2, none⟩ = some (.int .i64 RB) ∧ wx.cell? ⟨w3.heap.size, 0, none⟩ = some (.bool RO) ∧ wx.cell? ⟨w3.heap.size, 1, none⟩ = some (.int .i64 RA) ∧ wx.cell? ⟨w3.heap.size, 2, none⟩ = some (.int .i64 RB) ∧ wx.cell? ⟨w1.heap.size, 0, none⟩ = some (.int .i64 x) ∧ wx.cell? ⟨w1.heap.size, 1, none⟩ = some (.int .i64 y) ∧ Below w.heap.size w wx))
  case first => as_aux_lemma =>
    cases K
    · go_wp2_with fail
      refine (validPlace_c x y _).mono ?_
      rw [HK.out]
      rintro e w7 ⟨rfl, hb⟩
      have hT : w7.cell? ⟨w5.heap.size, 0, none⟩ = some (.bool RO) ∧ w7.cell? ⟨w5.heap.size, 1, none⟩ = some (.int .i64 RA) ∧ w7.cell? ⟨w5.heap.size, 2, none⟩ = some (.int .i64 RB) ∧ w7.cell? ⟨w3.heap.size, 0, none⟩ = some (.bool RO) ∧ w7.cell? ⟨w3.heap.size, 1, none⟩ = some (.int .i64 RA) ∧ w7.cell? ⟨w3.heap.size, 2, none⟩ = some (.int .i64 RB) ∧ w7.cell? ⟨w1.heap.size, 0, none⟩ = some (.int .i64 x) ∧ w7.cell? ⟨w1.heap.size, 1, none⟩ = some (.int .i64 y) ∧ Below w.heap.size w w7 := (fun W h hb => ⟨keep_cell (hb) h.1, keep_cell (hb) h.2.1, keep_cell (hb) h.2.2.1, keep_cell (hb) h.2.2.2.1, keep_cell (hb) h.2.2.2.2.1, keep_cell (hb) h.2.2.2.2.2.1, keep_cell (hb) h.2.2.2.2.2.2.1, keep_cell (hb) h.2.2.2.2.2.2.2.1, below_via h.2.2.2.2.2.2.2.2 (hb)⟩ : ∀ W : World, (W.cell? ⟨w5.heap.size, 0, none⟩ = some (.bool RO) ∧ W.cell? ⟨w5.heap.size, 1, none⟩ = some (.int .i64 RA) ∧ W.cell? ⟨w5.heap.size, 2, none⟩ = some (.int .i64 RB) ∧ W.cell? ⟨w3.heap.size, 0, none⟩ = some (.bool RO) ∧ W.cell? ⟨w3.heap.size, 1, none⟩ = some (.int .i64 RA) ∧ W.cell? ⟨w3.heap.size, 2, none⟩ = some (.int .i64 RB) ∧ W.cell? ⟨w1.heap.size, 0, none⟩ = some (.int .i64 x) ∧ W.cell? ⟨w1.heap.size, 1, none⟩ = some (.int .i64 y) ∧ Below w.heap.size w W) → Below W.heap.size W w7 → (w7.cell? ⟨w5.heap.size, 0, none⟩ = some (.bool RO) ∧ w7.cell? ⟨w5.heap.size, 1, none⟩ = some (.int .i64 RA) ∧ w7.cell? ⟨w5.heap.size, 2, none⟩ = some (.int .i64 RB) ∧ w7.cell? ⟨w3.heap.size, 0, none⟩ = some (.bool RO) ∧ w7.cell? ⟨w3.heap.size, 1, none⟩ = some (.int .i64 RA) ∧ w7.cell? ⟨w3.heap.size, 2, none⟩ = some (.int .i64 RB) ∧ w7.cell? ⟨w1.heap.size, 0, none⟩ = some (.int .i64 x) ∧ w7.cell? ⟨w1.heap.size, 1, none⟩ = some (.int .i64 y) ∧ Below w.heap.size w w7)) _ (by first | (with_reducible assumption) | (exact hS) | (exact ⟨hS.1, hS.2.1, hS.2.2.1, hS.2.2.2.1, hS.2.2.2.2.1, hS.2.2.2.2.2.1, hS.2.2.2.2.2.2.1, hS.2.2.2.2.2.2.2.1, (by go_grown)⟩) | (exact ⟨(by first | (with_reducible assumption) | (simp [go_sem]; done) | ((simp only [go_sem]); (with_reducible assumption)) | ((refine keep_cell ?_ (by with_reducible assumption)); go_grown; done) | (simp [go_sem, *]; done)), (by first | (with_reducible assumption) | (simp [go_sem]; done) | ((simp only [go_sem]); (with_reducible assumption)) | ((refine keep_cell ?_ (by with_reducible assumption)); go_grown; done) | (simp [go_sem, *]; done)), (by first | (with_reducible assumption) | (simp [go_sem]; done) | ((simp only [go_sem]); (with_reducible assumption)) | ((refine keep_cell ?_ (by with_reducible assumption)); go_grown; done) | (simp [go_sem, *]; done)), (by first | (with_reducible assumption) | (simp [go_sem]; done) | ((simp only [go_sem]); (with_reducible assumption)) | ((refine keep_cell ?_ (by with_reducible assumption)); go_grown; done) | (simp [go_sem, *]; done)), (by first | (with_reducible assumption) | (simp [go_sem]; done) | ((simp only [go_sem]); (with_reducible assumption)) | ((refine keep_cell ?_ (by with_reducible assumption)); go_grown; done) | (simp [go_sem, *]; done)), (by first | (with_reducible assumption) | (simp [go_sem]; done) | ((simp only [go_sem]); (with_reducible assumption)) | ((refine keep_cell ?_ (by with_reducible assumption)); go_grown; done) | (simp [go_sem, *]; done)), (by first | (with_reducible assumption) | (simp [go_sem]; done) | ((simp only [go_sem]); (with_reducible assumption)) | ((refine keep_cell ?_ (by with_reducible assumption)); go_grown; done) | (simp [go_sem, *]; done)), (by first | (with_reducible assumption) | (simp [go_sem]; done) | ((simp only [go_sem]); (with_reducible assumption)) | ((refine keep_cell ?_ (by with_reducible assumption)); go_grown; done) | (simp [go_sem, *]; done)), (by go_grown)⟩)) hb
      (try clear hS)
      have hS := hT
      clear hT
      have hB := hS.2.2.2.2.2.2.2.2
      have hzw : w.heap.size ≤ w7.heap.size := hB.size
      have hz1 : w5.heap.size < w7.heap.size := World.block_lt_of_cell? w7 _ (hS.1)
      have hz2 : w3.heap.size < w7.heap.size := World.block_lt_of_cell? w7 _ (hS.2.2.2.1)
      have hz3 : w1.heap.size < w7.heap.size := World.block_lt_of_cell? w7 _ (hS.2.2.2.2.2.2.1)
      clear hb
      go_wp2_with fail
      go_meet
      case rel => first | exact ⟨rfl, hS⟩ | exact ⟨rfl, ⟨keep_cell (by go_grown) (hS.1), keep_cell (by go_grown) (hS.2.1), keep_cell (by go_grown) (hS.2.2.1), keep_cell (by go_grown) (hS.2.2.2.1), keep_cell (by go_grown) (hS.2.2.2.2.1), keep_cell (by go_grown) (hS.2.2.2.2.2.1), keep_cell (by go_grown) (hS.2.2.2.2.2.2.1), keep_cell (by go_grown) (hS.2.2.2.2.2.2.2.1), by go_grown⟩⟩
    · go_wp2_with fail
      refine (validPlace_c x y _).mono ?_
      rw [HK.out]
      rintro e w7 ⟨rfl, hb⟩
      have hT : w7.cell? ⟨w5.heap.size, 0, none⟩ = some (.bool RO) ∧ w7.cell? ⟨w5.heap.size, 1, none⟩ = some (.int .i64 RA) ∧ w7.cell? ⟨w5.heap.size, 2, none⟩ = some (.int .i64 RB) ∧ w7.cell? ⟨w3.heap.size, 0, none⟩ = some (.bool RO) ∧ w7.cell? ⟨w3.heap.size, 1, none⟩ = some (.int .i64 RA) ∧ w7.cell? ⟨w3.heap.size, 2, none⟩ = some (.int .i64 RB) ∧ w7.cell? ⟨w1.heap.size, 0, none⟩ = some (.int .i64 x) ∧ w7.cell? ⟨w1.heap.size, 1, none⟩ = some (.int .i64 y) ∧ Below w.heap.size w w7 := (fun W h hb => ⟨keep_cell (hb) h.1, keep_cell (hb) h.2.1, keep_cell (hb) h.2.2.1, keep_cell (hb) h.2.2.2.1, keep_cell (hb) h.2.2.2.2.1, keep_cell (hb) h.2.2.2.2.2.1, keep_cell (hb) h.2.2.2.2.2.2.1, keep_cell (hb) h.2.2.2.2.2.2.2.1, below_via h.2.2.2.2.2.2.2.2 (hb)⟩ : ∀ W : World, (W.cell? ⟨w5.heap.size, 0, none⟩ = some (.bool RO) ∧ W.cell? ⟨w5.heap.size, 1, none⟩ = some (.int .i64 RA) ∧ W.cell? ⟨w5.heap.size, 2, none⟩ = some (.int .i64 RB) ∧ W.cell? ⟨w3.heap.size, 0, none⟩ = some (.bool RO) ∧ W.cell? ⟨w3.heap.size, 1, none⟩ = some (.int .i64 RA) ∧ W.cell? ⟨w3.heap.size, 2, none⟩ = some (.int .i64 RB) ∧ W.cell? ⟨w1.heap.size, 0, none⟩ = some (.int .i64 x) ∧ W.cell? ⟨w1.heap.size, 1, none⟩ = some (.int .i64 y) ∧ Below w.heap.size w W) → Below W.heap.size W w7 → (w7.cell? ⟨w5.heap.size, 0, none⟩ = some (.bool RO) ∧ w7.cell? ⟨w5.heap.size, 1, none⟩ = some (.int .i64 RA) ∧ w7.cell? ⟨w5.heap.size, 2, none⟩ = some (.int .i64 RB) ∧ w7.cell? ⟨w3.heap.size, 0, none⟩ = some (.bool RO) ∧ w7.cell? ⟨w3.heap.size, 1, none⟩ = some (.int .i64 RA) ∧ w7.cell? ⟨w3.heap.size, 2, none⟩ = some (.int .i64 RB) ∧ w7.cell? ⟨w1.heap.size, 0, none⟩ = some (.int .i64 x) ∧ w7.cell? ⟨w1.heap.size, 1, none⟩ = some (.int .i64 y) ∧ Below w.heap.size w w7)) _ (by first | (with_reducible assumption) | (exact hS) | (exact ⟨hS.1, hS.2.1, hS.2.2.1, hS.2.2.2.1, hS.2.2.2.2.1, hS.2.2.2.2.2.1, hS.2.2.2.2.2.2.1, hS.2.2.2.2.2.2.2.1, (by go_grown)⟩) | (exact ⟨(by first | (with_reducible assumption) | (simp [go_sem]; done) | ((simp only [go_sem]); (with_reducible assumption)) | ((refine keep_cell ?_ (by with_reducible assumption)); go_grown; done) | (simp [go_sem, *]; done)), (by first | (with_reducible assumption) | (simp [go_sem]; done) | ((simp only [go_sem]); (with_reducible assumption)) | ((refine keep_cell ?_ (by with_reducible assumption)); go_grown; done) | (simp [go_sem, *]; done)), (by first | (with_reducible assumption) | (simp [go_sem]; done) | ((simp only [go_sem]); (with_reducible assumption)) | ((refine keep_cell ?_ (by with_reducible assumption)); go_grown; done) | (simp [go_sem, *]; done)), (by first | (with_reducible assumption) | (simp [go_sem]; done) | ((simp only [go_sem]); (with_reducible assumption)) | ((refine keep_cell ?_ (by with_reducible assumption)); go_grown; done) | (simp [go_sem, *]; done)), (by first | (with_reducible assumption) | (simp [go_sem]; done) | ((simp only [go_sem]); (with_reducible assumption)) | ((refine keep_cell ?_ (by with_reducible assumption)); go_grown; done) | (simp [go_sem, *]; done)), (by first | (with_reducible assumption) | (simp [go_sem]; done) | ((simp only [go_sem]); (with_reducible assumption)) | ((refine keep_cell ?_ (by with_reducible assumption)); go_grown; done) | (simp [go_sem, *]; done)), (by first | (with_reducible assumption) | (simp [go_sem]; done) | ((simp only [go_sem]); (with_reducible assumption)) | ((refine keep_cell ?_ (by with_reducible assumption)); go_grown; done) | (simp [go_sem, *]; done)), (by first | (with_reducible assumption) | (simp [go_sem]; done) | ((simp only [go_sem]); (with_reducible assumption)) | ((refine keep_cell ?_ (by with_reducible assumption)); go_grown; done) | (simp [go_sem, *]; done)), (by go_grown)⟩)) hb
      (try clear hS)
      have hS := hT
      clear hT
      have hB := hS.2.2.2.2.2.2.2.2
      have hzw : w.heap.size ≤ w7.heap.size := hB.size
      have hz1 : w5.heap.size < w7.heap.size := World.block_lt_of_cell? w7 _ (hS.1)
      have hz2 : w3.heap.size < w7.heap.size := World.block_lt_of_cell? w7 _ (hS.2.2.2.1)
      have hz3 : w1.heap.size < w7.heap.size := World.block_lt_of_cell? w7 _ (hS.2.2.2.2.2.2.1)
      clear hb
      go_wp2_with fail
      go_meet
      case rel => first | exact ⟨rfl, hS⟩ | exact ⟨rfl, ⟨keep_cell (by go_grown) (hS.1), keep_cell (by go_grown) (hS.2.1), keep_cell (by go_grown) (hS.2.2.1), keep_cell (by go_grown) (hS.2.2.2.1), keep_cell (by go_grown) (hS.2.2.2.2.1), keep_cell (by go_grown) (hS.2.2.2.2.2.1), keep_cell (by go_grown) (hS.2.2.2.2.2.2.1), keep_cell (by go_grown) (hS.2.2.2.2.2.2.2.1), by go_grown⟩⟩
  obtain ⟨rfl, hS3⟩ := hcut
  (try clear hS)
  have hS := hS3
  clear hS3
  have hB := hS.2.2.2.2.2.2.2.2
  have hzw : w.heap.size ≤ wc.heap.size := hB.size
  have hz1 : w5.heap.size < wc.heap.size := World.block_lt_of_cell? wc _ (hS.1)
  have hz2 : w3.heap.size < wc.heap.size := World.block_lt_of_cell? wc _ (hS.2.2.2.1)
  have hz3 : w1.heap.size < wc.heap.size := World.block_lt_of_cell? wc _ (hS.2.2.2.2.2.2.1)
  go_upto_if 70 with fail
  go_cut [] (fun wx => Below w.heap.size w wx)
  case first => as_aux_lemma =>
    cases K
    · go_wp2_with fail
      go_meet
      case rel => go_grown
    obtain ⟨⟨e1, e2, e3⟩, f1, f2, f3, hv⟩ := HPS.out HK.out
    have e1 := HO.out.symm.trans e1
    have e2 := HA.out.symm.trans e2
    have e3 := HBB.out.symm.trans e3
    obtain ⟨A9, hA9⟩ : ∃ q, x % 100 = q := ⟨_, rfl⟩
    obtain ⟨B9, hB9⟩ : ∃ q, y % 100 = q := ⟨_, rfl⟩
    obtain ⟨A8, hA8⟩ : ∃ q, x % 99 = q := ⟨_, rfl⟩
    obtain ⟨B8, hB8⟩ : ∃ q, y % 99 = q := ⟨_, rfl⟩
    have s0 : szOf false = 100 := rfl
    have s1 : szOf true = 99 := rfl
    cases o
    · simp only [Bool.not_false, Bool.not_true, s0, s1, hA9, hB9, hA8, hB8] at e1 e2 e3 f1 f2 f3
      subst e1 e2 e3
      obtain ⟨f10, f11, f12⟩ := f1
      obtain ⟨f20, f21⟩ := f2
      obtain ⟨f30, f31, f32⟩ := f3
      have g1 := rof_of (o := true) hv (show x % szOf true = A8 from hA8) (show y % szOf true = B8 from hB8)
      have HC := hide (fun W : World => reportOf_c x y true W)
      rw [g1.1, g1.2.1, g1.2.2, hv] at HC
      have HD := hide (fun W : World => decodePair_c false RA RB true A8 B8 W)
      rw [f30, f31, f32] at HD
      have HE := hide (fun W : World => decodeNear_c false RA RB x y W)
      rw [f10, f11, f12] at HE
      have HM := hide (fun W : World => DecodeMoved_c false RA RB true A8 B8 0 W)
      rw [f20, f21] at HM
      clear g1 f10 f11 f12 f20 f21 f30 f31 f32 hv hA9 hB9 hA8 hB8 s0 s1
      go_wp2_with fail
      refine (HC.out _).mono ?_
      rintro e w7 ⟨rfl, hb⟩
      have hT : w7.cell? ⟨w5.heap.size, 0, none⟩ = some (.bool false) ∧ w7.cell? ⟨w5.heap.size, 1, none⟩ = some (.int .i64 RA) ∧ w7.cell? ⟨w5.heap.size, 2, none⟩ = some (.int .i64 RB) ∧ w7.cell? ⟨w3.heap.size, 0, none⟩ = some (.bool false) ∧ w7.cell? ⟨w3.heap.size, 1, none⟩ = some (.int .i64 RA) ∧ w7.cell? ⟨w3.heap.size, 2, none⟩ = some (.int .i64 RB) ∧ w7.cell? ⟨w1.heap.size, 0, none⟩ = some (.int .i64 x) ∧ w7.cell? ⟨w1.heap.size, 1, none⟩ = some (.int .i64 y) ∧ Below w.heap.size w w7 := (fun W h hb => ⟨keep_cell (hb) h.1, keep_cell (hb) h.2.1, keep_cell (hb) h.2.2.1, keep_cell (hb) h.2.2.2.1, keep_cell (hb) h.2.2.2.2.1, keep_cell (hb) h.2.2.2.2.2.1, keep_cell (hb) h.2.2.2.2.2.2.1, keep_cell (hb) h.2.2.2.2.2.2.2.1, below_via h.2.2.2.2.2.2.2.2 (hb)⟩ : ∀ W : World, (W.cell? ⟨w5.heap.size, 0, none⟩ = some (.bool false) ∧ W.cell? ⟨w5.heap.size, 1, none⟩ = some (.int .i64 RA) ∧ W.cell? ⟨w5.heap.size, 2, none⟩ = some (.int .i64 RB) ∧ W.cell? ⟨w3.heap.size, 0, none⟩ = some (.bool false) ∧ W.cell? ⟨w3.heap.size, 1, none⟩ = some (.int .i64 RA) ∧ W.cell? ⟨w3.heap.size, 2, none⟩ = some (.int .i64 RB) ∧ W.cell? ⟨w1.heap.size, 0, none⟩ = some (.int .i64 x) ∧ W.cell? ⟨w1.heap.size, 1, none⟩ = some (.int .i64 y) ∧ Below w.heap.size w W) → Below W.heap.size W w7 → (w7.cell? ⟨w5.heap.size, 0, none⟩ = some (.bool false) ∧ w7.cell? ⟨w5.heap.size, 1, none⟩ = some (.int .i64 RA) ∧ w7.cell? ⟨w5.heap.size, 2, none⟩ = some (.int .i64 RB) ∧ w7.cell? ⟨w3.heap.size, 0, none⟩ = some (.bool false) ∧ w7.cell? ⟨w3.heap.size, 1, none⟩ = some (.int .i64 RA) ∧ w7.cell? ⟨w3.heap.size, 2, none⟩ = some (.int .i64 RB) ∧ w7.cell? ⟨w1.heap.size, 0, none⟩ = some (.int .i64 x) ∧ w7.cell? ⟨w1.heap.size, 1, none⟩ = some (.int .i64 y) ∧ Below w.heap.size w w7)) _ (by first | (with_reducible assumption) | (exact hS) | (exact ⟨hS.1, hS.2.1, hS.2.2.1, hS.2.2.2.1, hS.2.2.2.2.1, hS.2.2.2.2.2.1, hS.2.2.2.2.2.2.1, hS.2.2.2.2.2.2.2.1, (by go_grown)⟩) | (exact ⟨(by first | (with_reducible assumption) | (simp [go_sem]; done) | ((simp only [go_sem]); (with_reducible assumption)) | ((refine keep_cell ?_ (by with_reducible assumption)); go_grown; done) | (simp [go_sem, *]; done)), (by first | (with_reducible assumption) | (simp [go_sem]; done) | ((simp only [go_sem]); (with_reducible assumption)) | ((refine keep_cell ?_ (by with_reducible assumption)); go_grown; done) | (simp [go_sem, *]; done)), (by first | (with_reducible assumption) | (simp [go_sem]; done) | ((simp only [go_sem]); (with_reducible assumption)) | ((refine keep_cell ?_ (by with_reducible assumption)); go_grown; done) | (simp [go_sem, *]; done)), (by first | (with_reducible assumption) | (simp [go_sem]; done) | ((simp only [go_sem]); (with_reducible assumption)) | ((refine keep_cell ?_ (by with_reducible assumption)); go_grown; done) | (simp [go_sem, *]; done)), (by first | (with_reducible assumption) | (simp [go_sem]; done) | ((simp only [go_sem]); (with_reducible assumption)) | ((refine keep_cell ?_ (by with_reducible assumption)); go_grown; done) | (simp [go_sem, *]; done)), (by first | (with_reducible assumption) | (simp [go_sem]; done) | ((simp only [go_sem]); (with_reducible assumption)) | ((refine keep_cell ?_ (by with_reducible assumption)); go_grown; done) | (simp [go_sem, *]; done)), (by first | (with_reducible assumption) | (simp [go_sem]; done) | ((simp only [go_sem]); (with_reducible assumption)) | ((refine keep_cell ?_ (by with_reducible assumption)); go_grown; done) | (simp [go_sem, *]; done)), (by first | (with_reducible assumption) | (simp [go_sem]; done) | ((simp only [go_sem]); (with_reducible assumption)) | ((refine keep_cell ?_ (by with_reducible assumption)); go_grown; done) | (simp [go_sem, *]; done)), (by go_grown)⟩)) hb
      (try clear hS)
      have hS := hT
      clear hT
      have hB := hS.2.2.2.2.2.2.2.2
      have hzw : w.heap.size ≤ w7.heap.size := hB.size
      have hz1 : w5.heap.size < w7.heap.size := World.block_lt_of_cell? w7 _ (hS.1)
      have hz2 : w3.heap.size < w7.heap.size := World.block_lt_of_cell? w7 _ (hS.2.2.2.1)
      have hz3 : w1.heap.size < w7.heap.size := World.block_lt_of_cell? w7 _ (hS.2.2.2.2.2.2.1)
      clear hb
      have hzTS : w.heap.size ≤ w7.heap.size := hzw
      go_upto_region 10 with fail
      obtain ⟨w8, hww8⟩ : ∃ W, W = w7.alloc (.cells #[.bool true, .int .i64 A8, .int .i64 B8] 31) := ⟨_, rfl⟩
      have hT : w8.cell? ⟨w7.heap.size, 0, none⟩ = some (.bool true) ∧ w8.cell? ⟨w7.heap.size, 1, none⟩ = some (.int .i64 A8) ∧ w8.cell? ⟨w7.heap.size, 2, none⟩ = some (.int .i64 B8) ∧ w8.cell? ⟨w5.heap.size, 0, none⟩ = some (.bool false) ∧ w8.cell? ⟨w5.heap.size, 1, none⟩ = some (.int .i64 RA) ∧ w8.cell? ⟨w5.heap.size, 2, none⟩ = some (.int .i64 RB) ∧ w8.cell? ⟨w3.heap.size, 0, none⟩ = some (.bool false) ∧ w8.cell? ⟨w3.heap.size, 1, none⟩ = some (.int .i64 RA) ∧ w8.cell? ⟨w3.heap.size, 2, none⟩ = some (.int .i64 RB) ∧ w8.cell? ⟨w1.heap.size, 0, none⟩ = some (.int .i64 x) ∧ w8.cell? ⟨w1.heap.size, 1, none⟩ = some (.int .i64 y) ∧ Below w.heap.size w w8 := by
        rw [hww8]
        exact ⟨by simp [go_sem], by simp [go_sem], by simp [go_sem], keep_cell (by go_grown) hS.1, keep_cell (by go_grown) hS.2.1, keep_cell (by go_grown) hS.2.2.1, keep_cell (by go_grown) hS.2.2.2.1, keep_cell (by go_grown) hS.2.2.2.2.1, keep_cell (by go_grown) hS.2.2.2.2.2.1, keep_cell (by go_grown) hS.2.2.2.2.2.2.1, keep_cell (by go_grown) hS.2.2.2.2.2.2.2.1, below_via hS.2.2.2.2.2.2.2.2 (by go_grown)⟩
      rw [← hww8]
      clear hS hww8
      have hS := hT
      clear hT
      (try clear hB hzw)
      have hB := hS.2.2.2.2.2.2.2.2.2.2.2
      have hzw : w.heap.size ≤ w8.heap.size := hB.size
      have hz1 : w7.heap.size < w8.heap.size := World.block_lt_of_cell? w8 _ (hS.1)
      have hz2 : w5.heap.size < w8.heap.size := World.block_lt_of_cell? w8 _ (hS.2.2.2.1)
      have hz3 : w3.heap.size < w8.heap.size := World.block_lt_of_cell? w8 _ (hS.2.2.2.2.2.2.1)
      have hz4 : w1.heap.size < w8.heap.size := World.block_lt_of_cell? w8 _ (hS.2.2.2.2.2.2.2.2.2.1)
      have hS2 := hS
      obtain ⟨q0, q1, q2, q3, q4, q5, q6, q7, q8, q9, q10, hF⟩ := hS2
      have hzw : w.heap.size ≤ w8.heap.size := hF.size
      have hB := hF
      have hz1 : w7.heap.size < w8.heap.size := World.block_lt_of_cell? w8 _ q0
      have hz2 : w5.heap.size < w8.heap.size := World.block_lt_of_cell? w8 _ q3
      have hz3 : w3.heap.size < w8.heap.size := World.block_lt_of_cell? w8 _ q6
      have hz4 : w1.heap.size < w8.heap.size := World.block_lt_of_cell? w8 _ q9
      go_cut [11, 12] (fun s t wx => ∃ U V : Nat, s = .pointer (some ⟨U, 0, none⟩) ∧ t = .pointer (some ⟨V, 0, none⟩) ∧ (w7.heap.size < U ∧ w7.heap.size < V ∧ (U < V ∨ V < U) ∧ w.heap.size < U ∧ w.heap.size < V) ∧ (wx.cell? ⟨w7.heap.size, 0, none⟩ = some (.bool true) ∧ wx.cell? ⟨w7.heap.size, 1, none⟩ = some (.int .i64 A8) ∧ wx.cell? ⟨w7.heap.size, 2, none⟩ = some (.int .i64 B8) ∧ wx.cell? ⟨w3.heap.size, 0, none⟩ = some (.bool false) ∧ wx.cell? ⟨w3.heap.size, 1, none⟩ = some (.int .i64 RA) ∧ wx.cell? ⟨w3.heap.size, 2, none⟩ = some (.int .i64 RB) ∧ wx.cell? ⟨w1.heap.size, 0, none⟩ = some (.int .i64 x) ∧ wx.cell? ⟨w1.heap.size, 1, none⟩ = some (.int .i64 y) ∧ (U < wx.heap.size ∧ ∀ i, wx.frozen? ⟨U, i, none⟩ = false) ∧ wx.cell? ⟨U, 0, none⟩ = some (.bool false) ∧ wx.cell? ⟨U, 1, none⟩ = some (.int .i64 RA) ∧ wx.cell? ⟨U, 2, none⟩ = some (.int .i64 RB) ∧ (V < wx.heap.size ∧ ∀ i, wx.frozen? ⟨V, i, none⟩ = false) ∧ wx.cell? ⟨V, 0, none⟩ = some (.bool true) ∧ wx.cell? ⟨V, 1, none⟩ = some (.int .i64 A8) ∧ wx.cell? ⟨V, 2, none⟩ = some (.int .i64 B8) ∧ Below w.heap.size w wx))
      case first => as_aux_lemma =>
        refine wp_region_all (by kernel_rfl) ?_
        obtain ⟨w109, hwq⟩ : ∃ W, World.drew w8 = W := ⟨_, rfl⟩
        have hb : Below w8.heap.size w8 w109 := by rw [← hwq]; go_grown
        rw [hwq]
        have hT := ai (kc hb q0) <| ai (kc hb q1) <| ai (kc hb q2) <| ai (kc hb q3) <| ai (kc hb q4) <| ai (kc hb q5) <| ai (kc hb q6) <| ai (kc hb q7) <| ai (kc hb q8) <| ai (kc hb q9) <| ai (kc hb q10) <| below_via hF hb
        clear hS hb hwq
        have hS := hT
        clear hT
        have hS2 := hS
        obtain ⟨q0, q1, q2, q3, q4, q5, q6, q7, q8, q9, q10, hF⟩ := hS2
        have hzw : w.heap.size ≤ w109.heap.size := hF.size
        have hB := hF
        have hz1 : w7.heap.size < w109.heap.size := World.block_lt_of_cell? w109 _ q0
        have hz2 : w5.heap.size < w109.heap.size := World.block_lt_of_cell? w109 _ q3
        have hz3 : w3.heap.size < w109.heap.size := World.block_lt_of_cell? w109 _ q6
        have hz4 : w1.heap.size < w109.heap.size := World.block_lt_of_cell? w109 _ q9
        have HK9 := hide hS
        have hT : w109.cell? ⟨w3.heap.size, 0, none⟩ = some (.bool false) ∧ w109.cell? ⟨w3.heap.size, 1, none⟩ = some (.int .i64 RA) ∧ w109.cell? ⟨w3.heap.size, 2, none⟩ = some (.int .i64 RB) ∧ w109.cell? ⟨w7.heap.size, 0, none⟩ = some (.bool true) ∧ w109.cell? ⟨w7.heap.size, 1, none⟩ = some (.int .i64 A8) ∧ w109.cell? ⟨w7.heap.size, 2, none⟩ = some (.int .i64 B8) ∧ Below w109.heap.size w109 w109 ∧ Below w.heap.size w w109 := ⟨hS.2.2.2.2.2.2.1, hS.2.2.2.2.2.2.2.1, hS.2.2.2.2.2.2.2.2.1, hS.1, hS.2.1, hS.2.2.1, Below.refl _ _, hS.2.2.2.2.2.2.2.2.2.2.2⟩
        clear hS
        have hS := hT
        clear hT
        have hS2 := hS
        obtain ⟨q0, q1, q2, q3, q4, q5, q6, hF⟩ := hS2
        have hzw : w.heap.size ≤ w109.heap.size := hF.size
        have hB := hF
        have hz1 : w3.heap.size < w109.heap.size := World.block_lt_of_cell? w109 _ q0
        have hz2 : w7.heap.size < w109.heap.size := World.block_lt_of_cell? w109 _ q3
        have hzk109 : w109.heap.size ≤ w109.heap.size := q6.size
        refine all_split 3 2 (by decide) ?_ ?_
        · refine all_seq_core [0, 1, 3, 2, 4, 5] (fun W => W.cell? ⟨w3.heap.size, 0, none⟩ = some (.bool false) ∧ W.cell? ⟨w3.heap.size, 1, none⟩ = some (.int .i64 RA) ∧ W.cell? ⟨w3.heap.size, 2, none⟩ = some (.int .i64 RB) ∧ W.cell? ⟨w7.heap.size, 0, none⟩ = some (.bool true) ∧ W.cell? ⟨w7.heap.size, 1, none⟩ = some (.int .i64 A8) ∧ W.cell? ⟨w7.heap.size, 2, none⟩ = some (.int .i64 B8) ∧ Below w.heap.size w W) (addE_core 3 2 _) (by kernel_rfl) ⟨hS.1, hS.2.1, hS.2.2.1, hS.2.2.2.1, hS.2.2.2.2.1, hS.2.2.2.2.2.1, hS.2.2.2.2.2.2.2⟩ ?_
          simp only [byNum, List.getElem?_cons_zero, List.getElem?_cons_succ]
          repeat (first
            | ((refine seq_skip (by rfl) (by rfl) ?_); simp only [Act.put, List.setIfInBounds_toArray, List.set_cons_zero, List.set_cons_succ])
            | ((refine seq_val (v := ?_) (by rfl) (by rfl) (fun w hS => ?_) ?_); rotate_left; (focus ((try dsimp only at hS); go_simp; (try (with_reducible rfl)); done)); simp only [Act.put, List.setIfInBounds_toArray, List.set_cons_zero, List.set_cons_succ]))
          refine seq_deed (v := ?_) (w' := ?_) (by rfl) (by rfl) ?_ ?_
          rotate_left
          rotate_left
          focus (go_simp; (constructor <;> (with_reducible rfl)); done)
          generalize hgw110 : World.alloc w109 _ = w110
          have hb : Below w109.heap.size w109 w110 := by rw [← hgw110]; go_grown
          obtain ⟨n9, n0, n1, n2⟩ := al3 hgw110
          have hT := ai (kc hb q0) <| ai (kc hb q1) <| ai (kc hb q2) <| ai (kc hb q3) <| ai (kc hb q4) <| ai (kc hb q5) <| ai (below_via q6 hb) <| ai (n9) <| ai (n0) <| ai (n1) <| ai (n2) <| below_via (hS.2.2.2.2.2.2.2) hb
          clear n9 n0 n1 n2
          clear hS hb hgw110
          have hS := hT
          clear hT
          have hS2 := hS
          obtain ⟨q0, q1, q2, q3, q4, q5, q6, ⟨f7, fr7⟩, q8, q9, q10, hF⟩ := hS2
          have hzw : w.heap.size ≤ w110.heap.size := hF.size
          have hB := hF
          have hz1 : w3.heap.size < w110.heap.size := World.block_lt_of_cell? w110 _ q0
          have hz2 : w7.heap.size < w110.heap.size := World.block_lt_of_cell? w110 _ q3
          have hzk110 : w109.heap.size ≤ w110.heap.size := q6.size
          have hz3 : w109.heap.size < w110.heap.size := World.block_lt_of_cell? w110 _ q8
          refine ⟨(fun W => W.cell? ⟨w3.heap.size, 0, none⟩ = some (.bool false) ∧ W.cell? ⟨w3.heap.size, 1, none⟩ = some (.int .i64 RA) ∧ W.cell? ⟨w3.heap.size, 2, none⟩ = some (.int .i64 RB) ∧ W.cell? ⟨w7.heap.size, 0, none⟩ = some (.bool true) ∧ W.cell? ⟨w7.heap.size, 1, none⟩ = some (.int .i64 A8) ∧ W.cell? ⟨w7.heap.size, 2, none⟩ = some (.int .i64 B8) ∧ Below w.heap.size w W), ⟨hS.1, hS.2.1, hS.2.2.1, hS.2.2.2.1, hS.2.2.2.2.1, hS.2.2.2.2.2.1, hS.2.2.2.2.2.2.2.2.2.2.2⟩, (fun W h => h), ?_⟩
          simp only [Act.put, List.setIfInBounds_toArray, List.set_cons_zero, List.set_cons_succ]
          repeat (first
            | ((refine seq_skip (by rfl) (by rfl) ?_); simp only [Act.put, List.setIfInBounds_toArray, List.set_cons_zero, List.set_cons_succ])
            | ((refine seq_val (v := ?_) (by rfl) (by rfl) (fun w hS => ?_) ?_); rotate_left; (focus ((try dsimp only at hS); go_simp; (try (with_reducible rfl)); done)); simp only [Act.put, List.setIfInBounds_toArray, List.set_cons_zero, List.set_cons_succ]))
          refine seq_deed (v := ?_) (w' := ?_) (by rfl) (by rfl) ?_ ?_
          rotate_left
          rotate_left
          focus (go_simp; (constructor <;> (with_reducible rfl)); done)
          generalize hgw111 : World.alloc w110 _ = w111
          have hb : Below w110.heap.size w110 w111 := by rw [← hgw111]; go_grown
          obtain ⟨n9, n0, n1, n2⟩ := al3 hgw111
          have hT := ai (kc hb q0) <| ai (kc hb q1) <| ai (kc hb q2) <| ai (kc hb q3) <| ai (kc hb q4) <| ai (kc hb q5) <| ai (below_via q6 hb) <| ai (kf hb f7 fr7) <| ai (kc hb q8) <| ai (kc hb q9) <| ai (kc hb q10) <| ai (n9) <| ai (n0) <| ai (n1) <| ai (n2) <| below_via (hS.2.2.2.2.2.2.2.2.2.2.2) hb
          clear n9 n0 n1 n2
          clear hS hb hgw111
          have hS := hT
          clear hT
          have hS2 := hS
          obtain ⟨q0, q1, q2, q3, q4, q5, q6, ⟨f7, fr7⟩, q8, q9, q10, ⟨f11, fr11⟩, q12, q13, q14, hF⟩ := hS2
          have hzw : w.heap.size ≤ w111.heap.size := hF.size
          have hB := hF
          have hz1 : w3.heap.size < w111.heap.size := World.block_lt_of_cell? w111 _ q0
          have hz2 : w7.heap.size < w111.heap.size := World.block_lt_of_cell? w111 _ q3
          have hzk111 : w109.heap.size ≤ w111.heap.size := q6.size
          have hz3 : w109.heap.size < w111.heap.size := World.block_lt_of_cell? w111 _ q8
          have hz4 : w110.heap.size < w111.heap.size := World.block_lt_of_cell? w111 _ q12
          refine ⟨(fun W => W.cell? ⟨w3.heap.size, 0, none⟩ = some (.bool false) ∧ W.cell? ⟨w3.heap.size, 1, none⟩ = some (.int .i64 RA) ∧ W.cell? ⟨w3.heap.size, 2, none⟩ = some (.int .i64 RB) ∧ W.cell? ⟨w7.heap.size, 0, none⟩ = some (.bool true) ∧ W.cell? ⟨w7.heap.size, 1, none⟩ = some (.int .i64 A8) ∧ W.cell? ⟨w7.heap.size, 2, none⟩ = some (.int .i64 B8) ∧ Below w.heap.size w W), ⟨hS.1, hS.2.1, hS.2.2.1, hS.2.2.2.1, hS.2.2.2.2.1, hS.2.2.2.2.2.1, hS.2.2.2.2.2.2.2.2.2.2.2.2.2.2.2⟩, (fun W h => h), ?_⟩
          simp only [Act.put, List.setIfInBounds_toArray, List.set_cons_zero, List.set_cons_succ]
          repeat (first
            | ((refine seq_skip (by rfl) (by rfl) ?_); simp only [Act.put, List.setIfInBounds_toArray, List.set_cons_zero, List.set_cons_succ])
            | ((refine seq_val (v := ?_) (by rfl) (by rfl) (fun w hS => ?_) ?_); rotate_left; (focus ((try dsimp only at hS); go_simp; (try (with_reducible rfl)); done)); simp only [Act.put, List.setIfInBounds_toArray, List.set_cons_zero, List.set_cons_succ]))
          obtain ⟨w112, hw112⟩ : ∃ W, W = ((w111.setCell ⟨w110.heap.size, 0, none⟩ (.bool false)).setCell ⟨w110.heap.size, 1, none⟩ (.int .i64 RA)).setCell ⟨w110.heap.size, 2, none⟩ (.int .i64 RB) := ⟨_, rfl⟩
          obtain ⟨dd0, dd1, dd2, dd3, dd4⟩ := box3_sets q12 q13 q14 (.bool false) (.int .i64 RA) (.int .i64 RB)
          refine seq_store (w' := w112) (by rfl) (by rfl) (by rw [hw112]; go_simp; (try (with_reducible rfl)); done) ?_
          obtain ⟨dw0, dw1, dw2⟩ := s3w hw112 q12 q13 q14
          have hT := ai (s3o hw112 (by omega) q0) <| ai (s3o hw112 (by omega) q1) <| ai (s3o hw112 (by omega) q2) <| ai (s3o hw112 (by omega) q3) <| ai (s3o hw112 (by omega) q4) <| ai (s3o hw112 (by omega) q5) <| ai (s3b hw112 (by omega) q6) <| ai (s3f hw112 f7 fr7) <| ai (s3o hw112 (by omega) q8) <| ai (s3o hw112 (by omega) q9) <| ai (s3o hw112 (by omega) q10) <| ai (s3f hw112 f11 fr11) <| ai (dw0) <| ai (dw1) <| ai (dw2) <| s3b hw112 (by omega) hF
          clear dw0 dw1 dw2
          (try clear hS)
          have hS := hT
          clear hT dd0 dd1 dd2 dd3 dd4 hw112
          have hS2 := hS
          obtain ⟨q0, q1, q2, q3, q4, q5, q6, ⟨f7, fr7⟩, q8, q9, q10, ⟨f11, fr11⟩, q12, q13, q14, hF⟩ := hS2
          have hzw : w.heap.size ≤ w112.heap.size := hF.size
          have hB := hF
          have hz1 : w3.heap.size < w112.heap.size := World.block_lt_of_cell? w112 _ q0
          have hz2 : w7.heap.size < w112.heap.size := World.block_lt_of_cell? w112 _ q3
          have hzk112 : w109.heap.size ≤ w112.heap.size := q6.size
          have hz3 : w109.heap.size < w112.heap.size := World.block_lt_of_cell? w112 _ q8
          have hz4 : w110.heap.size < w112.heap.size := World.block_lt_of_cell? w112 _ q12
          refine ⟨(fun W => W.cell? ⟨w3.heap.size, 0, none⟩ = some (.bool false) ∧ W.cell? ⟨w3.heap.size, 1, none⟩ = some (.int .i64 RA) ∧ W.cell? ⟨w3.heap.size, 2, none⟩ = some (.int .i64 RB) ∧ W.cell? ⟨w7.heap.size, 0, none⟩ = some (.bool true) ∧ W.cell? ⟨w7.heap.size, 1, none⟩ = some (.int .i64 A8) ∧ W.cell? ⟨w7.heap.size, 2, none⟩ = some (.int .i64 B8) ∧ Below w.heap.size w W), ⟨hS.1, hS.2.1, hS.2.2.1, hS.2.2.2.1, hS.2.2.2.2.1, hS.2.2.2.2.2.1, hS.2.2.2.2.2.2.2.2.2.2.2.2.2.2.2⟩, (fun W h => h), ?_⟩
          simp only [Act.put, List.setIfInBounds_toArray, List.set_cons_zero, List.set_cons_succ]
          repeat (first
            | ((refine seq_skip (by rfl) (by rfl) ?_); simp only [Act.put, List.setIfInBounds_toArray, List.set_cons_zero, List.set_cons_succ])
            | ((refine seq_val (v := ?_) (by rfl) (by rfl) (fun w hS => ?_) ?_); rotate_left; (focus ((try dsimp only at hS); go_simp; (try (with_reducible rfl)); done)); simp only [Act.put, List.setIfInBounds_toArray, List.set_cons_zero, List.set_cons_succ]))
          obtain ⟨w113, hw113⟩ : ∃ W, W = ((w112.setCell ⟨w109.heap.size, 0, none⟩ (.bool true)).setCell ⟨w109.heap.size, 1, none⟩ (.int .i64 A8)).setCell ⟨w109.heap.size, 2, none⟩ (.int .i64 B8) := ⟨_, rfl⟩
          obtain ⟨dd0, dd1, dd2, dd3, dd4⟩ := box3_sets q8 q9 q10 (.bool true) (.int .i64 A8) (.int .i64 B8)
          refine seq_store (w' := w113) (by rfl) (by rfl) (by rw [hw113]; go_simp; (try (with_reducible rfl)); done) ?_
          obtain ⟨dw0, dw1, dw2⟩ := s3w hw113 q8 q9 q10
          have hT := ai (s3o hw113 (by omega) q0) <| ai (s3o hw113 (by omega) q1) <| ai (s3o hw113 (by omega) q2) <| ai (s3o hw113 (by omega) q3) <| ai (s3o hw113 (by omega) q4) <| ai (s3o hw113 (by omega) q5) <| ai (s3b hw113 (by omega) q6) <| ai (s3f hw113 f7 fr7) <| ai (dw0) <| ai (dw1) <| ai (dw2) <| ai (s3f hw113 f11 fr11) <| ai (s3o hw113 (by omega) q12) <| ai (s3o hw113 (by omega) q13) <| ai (s3o hw113 (by omega) q14) <| s3b hw113 (by omega) hF
          clear dw0 dw1 dw2
          (try clear hS)
          have hS := hT
          clear hT dd0 dd1 dd2 dd3 dd4 hw113
          have hS2 := hS
          obtain ⟨q0, q1, q2, q3, q4, q5, q6, ⟨f7, fr7⟩, q8, q9, q10, ⟨f11, fr11⟩, q12, q13, q14, hF⟩ := hS2
          have hzw : w.heap.size ≤ w113.heap.size := hF.size
          have hB := hF
          have hz1 : w3.heap.size < w113.heap.size := World.block_lt_of_cell? w113 _ q0
          have hz2 : w7.heap.size < w113.heap.size := World.block_lt_of_cell? w113 _ q3
          have hzk113 : w109.heap.size ≤ w113.heap.size := q6.size
          have hz3 : w109.heap.size < w113.heap.size := World.block_lt_of_cell? w113 _ q8
          have hz4 : w110.heap.size < w113.heap.size := World.block_lt_of_cell? w113 _ q12
          refine ⟨(fun W => W.cell? ⟨w3.heap.size, 0, none⟩ = some (.bool false) ∧ W.cell? ⟨w3.heap.size, 1, none⟩ = some (.int .i64 RA) ∧ W.cell? ⟨w3.heap.size, 2, none⟩ = some (.int .i64 RB) ∧ W.cell? ⟨w7.heap.size, 0, none⟩ = some (.bool true) ∧ W.cell? ⟨w7.heap.size, 1, none⟩ = some (.int .i64 A8) ∧ W.cell? ⟨w7.heap.size, 2, none⟩ = some (.int .i64 B8) ∧ Below w.heap.size w W), ⟨hS.1, hS.2.1, hS.2.2.1, hS.2.2.2.1, hS.2.2.2.2.1, hS.2.2.2.2.2.1, hS.2.2.2.2.2.2.2.2.2.2.2.2.2.2.2⟩, (fun W h => h), ?_⟩
          simp only [Act.put, List.setIfInBounds_toArray, List.set_cons_zero, List.set_cons_succ]
          repeat (first
            | ((refine seq_skip (by rfl) (by rfl) ?_); simp only [Act.put, List.setIfInBounds_toArray, List.set_cons_zero, List.set_cons_succ])
            | ((refine seq_val (v := ?_) (by rfl) (by rfl) (fun w hS => ?_) ?_); rotate_left; (focus ((try dsimp only at hS); go_simp; (try (with_reducible rfl)); done)); simp only [Act.put, List.setIfInBounds_toArray, List.set_cons_zero, List.set_cons_succ]))
          refine seq_nil ?_
          go_wp2_with fail
          go_meet
          case rel => exact ⟨w110.heap.size, w109.heap.size, rfl, rfl, ⟨by omega, by omega, by omega, by omega, by omega⟩, hS.2.2.2.1, hS.2.2.2.2.1, hS.2.2.2.2.2.1, hS.1, hS.2.1, hS.2.2.1, kc (hS.2.2.2.2.2.2.1) (HK9.out.2.2.2.2.2.2.2.2.2.1), kc (hS.2.2.2.2.2.2.1) (HK9.out.2.2.2.2.2.2.2.2.2.2.1), hS.2.2.2.2.2.2.2.2.2.2.2.1, hS.2.2.2.2.2.2.2.2.2.2.2.2.1, hS.2.2.2.2.2.2.2.2.2.2.2.2.2.1, hS.2.2.2.2.2.2.2.2.2.2.2.2.2.2.1, hS.2.2.2.2.2.2.2.1, hS.2.2.2.2.2.2.2.2.1, hS.2.2.2.2.2.2.2.2.2.1, hS.2.2.2.2.2.2.2.2.2.2.1, hS.2.2.2.2.2.2.2.2.2.2.2.2.2.2.2⟩
        · refine all_seq_core [0, 1, 2, 3, 4, 5] (fun W => W.cell? ⟨w3.heap.size, 0, none⟩ = some (.bool false) ∧ W.cell? ⟨w3.heap.size, 1, none⟩ = some (.int .i64 RA) ∧ W.cell? ⟨w3.heap.size, 2, none⟩ = some (.int .i64 RB) ∧ W.cell? ⟨w7.heap.size, 0, none⟩ = some (.bool true) ∧ W.cell? ⟨w7.heap.size, 1, none⟩ = some (.int .i64 A8) ∧ W.cell? ⟨w7.heap.size, 2, none⟩ = some (.int .i64 B8) ∧ Below w.heap.size w W) (addE_core 2 3 _) (by kernel_rfl) ⟨hS.1, hS.2.1, hS.2.2.1, hS.2.2.2.1, hS.2.2.2.2.1, hS.2.2.2.2.2.1, hS.2.2.2.2.2.2.2⟩ ?_
          simp only [byNum, List.getElem?_cons_zero, List.getElem?_cons_succ]
          repeat (first
            | ((refine seq_skip (by rfl) (by rfl) ?_); simp only [Act.put, List.setIfInBounds_toArray, List.set_cons_zero, List.set_cons_succ])
            | ((refine seq_val (v := ?_) (by rfl) (by rfl) (fun w hS => ?_) ?_); rotate_left; (focus ((try dsimp only at hS); go_simp; (try (with_reducible rfl)); done)); simp only [Act.put, List.setIfInBounds_toArray, List.set_cons_zero, List.set_cons_succ]))
          refine seq_deed (v := ?_) (w' := ?_) (by rfl) (by rfl) ?_ ?_
          rotate_left
          rotate_left
          focus (go_simp; (constructor <;> (with_reducible rfl)); done)
          generalize hgw110 : World.alloc w109 _ = w110
          have hb : Below w109.heap.size w109 w110 := by rw [← hgw110]; go_grown
          obtain ⟨n9, n0, n1, n2⟩ := al3 hgw110
          have hT := ai (kc hb q0) <| ai (kc hb q1) <| ai (kc hb q2) <| ai (kc hb q3) <| ai (kc hb q4) <| ai (kc hb q5) <| ai (below_via q6 hb) <| ai (n9) <| ai (n0) <| ai (n1) <| ai (n2) <| below_via (hS.2.2.2.2.2.2.2) hb
          clear n9 n0 n1 n2
          clear hS hb hgw110
          have hS := hT
          clear hT
          have hS2 := hS
          obtain ⟨q0, q1, q2, q3, q4, q5, q6, ⟨f7, fr7⟩, q8, q9, q10, hF⟩ := hS2
          have hzw : w.heap.size ≤ w110.heap.size := hF.size
          have hB := hF
          have hz1 : w3.heap.size < w110.heap.size := World.block_lt_of_cell? w110 _ q0
          have hz2 : w7.heap.size < w110.heap.size := World.block_lt_of_cell? w110 _ q3
          have hzk110 : w109.heap.size ≤ w110.heap.size := q6.size
          have hz3 : w109.heap.size < w110.heap.size := World.block_lt_of_cell? w110 _ q8
          refine ⟨(fun W => W.cell? ⟨w3.heap.size, 0, none⟩ = some (.bool false) ∧ W.cell? ⟨w3.heap.size, 1, none⟩ = some (.int .i64 RA) ∧ W.cell? ⟨w3.heap.size, 2, none⟩ = some (.int .i64 RB) ∧ W.cell? ⟨w7.heap.size, 0, none⟩ = some (.bool true) ∧ W.cell? ⟨w7.heap.size, 1, none⟩ = some (.int .i64 A8) ∧ W.cell? ⟨w7.heap.size, 2, none⟩ = some (.int .i64 B8) ∧ Below w.heap.size w W), ⟨hS.1, hS.2.1, hS.2.2.1, hS.2.2.2.1, hS.2.2.2.2.1, hS.2.2.2.2.2.1, hS.2.2.2.2.2.2.2.2.2.2.2⟩, (fun W h => h), ?_⟩
          simp only [Act.put, List.setIfInBounds_toArray, List.set_cons_zero, List.set_cons_succ]
          repeat (first
            | ((refine seq_skip (by rfl) (by rfl) ?_); simp only [Act.put, List.setIfInBounds_toArray, List.set_cons_zero, List.set_cons_succ])
            | ((refine seq_val (v := ?_) (by rfl) (by rfl) (fun w hS => ?_) ?_); rotate_left; (focus ((try dsimp only at hS); go_simp; (try (with_reducible rfl)); done)); simp only [Act.put, List.setIfInBounds_toArray, List.set_cons_zero, List.set_cons_succ]))
          refine seq_deed (v := ?_) (w' := ?_) (by rfl) (by rfl) ?_ ?_
          rotate_left
          rotate_left
          focus (go_simp; (constructor <;> (with_reducible rfl)); done)
          generalize hgw111 : World.alloc w110 _ = w111
          have hb : Below w110.heap.size w110 w111 := by rw [← hgw111]; go_grown
          obtain ⟨n9, n0, n1, n2⟩ := al3 hgw111
          have hT := ai (kc hb q0) <| ai (kc hb q1) <| ai (kc hb q2) <| ai (kc hb q3) <| ai (kc hb q4) <| ai (kc hb q5) <| ai (below_via q6 hb) <| ai (kf hb f7 fr7) <| ai (kc hb q8) <| ai (kc hb q9) <| ai (kc hb q10) <| ai (n9) <| ai (n0) <| ai (n1) <| ai (n2) <| below_via (hS.2.2.2.2.2.2.2.2.2.2.2) hb
          clear n9 n0 n1 n2
          clear hS hb hgw111
          have hS := hT
          clear hT
          have hS2 := hS
          obtain ⟨q0, q1, q2, q3, q4, q5, q6, ⟨f7, fr7⟩, q8, q9, q10, ⟨f11, fr11⟩, q12, q13, q14, hF⟩ := hS2
          have hzw : w.heap.size ≤ w111.heap.size := hF.size
          have hB := hF
          have hz1 : w3.heap.size < w111.heap.size := World.block_lt_of_cell? w111 _ q0
          have hz2 : w7.heap.size < w111.heap.size := World.block_lt_of_cell? w111 _ q3
          have hzk111 : w109.heap.size ≤ w111.heap.size := q6.size
          have hz3 : w109.heap.size < w111.heap.size := World.block_lt_of_cell? w111 _ q8
          have hz4 : w110.heap.size < w111.heap.size := World.block_lt_of_cell? w111 _ q12
          refine ⟨(fun W => W.cell? ⟨w3.heap.size, 0, none⟩ = some (.bool false) ∧ W.cell? ⟨w3.heap.size, 1, none⟩ = some (.int .i64 RA) ∧ W.cell? ⟨w3.heap.size, 2, none⟩ = some (.int .i64 RB) ∧ W.cell? ⟨w7.heap.size, 0, none⟩ = some (.bool true) ∧ W.cell? ⟨w7.heap.size, 1, none⟩ = some (.int .i64 A8) ∧ W.cell? ⟨w7.heap.size, 2, none⟩ = some (.int .i64 B8) ∧ Below w.heap.size w W), ⟨hS.1, hS.2.1, hS.2.2.1, hS.2.2.2.1, hS.2.2.2.2.1, hS.2.2.2.2.2.1, hS.2.2.2.2.2.2.2.2.2.2.2.2.2.2.2⟩, (fun W h => h), ?_⟩
          simp only [Act.put, List.setIfInBounds_toArray, List.set_cons_zero, List.set_cons_succ]
          repeat (first
            | ((refine seq_skip (by rfl) (by rfl) ?_); simp only [Act.put, List.setIfInBounds_toArray, List.set_cons_zero, List.set_cons_succ])
            | ((refine seq_val (v := ?_) (by rfl) (by rfl) (fun w hS => ?_) ?_); rotate_left; (focus ((try dsimp only at hS); go_simp; (try (with_reducible rfl)); done)); simp only [Act.put, List.setIfInBounds_toArray, List.set_cons_zero, List.set_cons_succ]))
          obtain ⟨w112, hw112⟩ : ∃ W, W = ((w111.setCell ⟨w109.heap.size, 0, none⟩ (.bool false)).setCell ⟨w109.heap.size, 1, none⟩ (.int .i64 RA)).setCell ⟨w109.heap.size, 2, none⟩ (.int .i64 RB) := ⟨_, rfl⟩
          obtain ⟨dd0, dd1, dd2, dd3, dd4⟩ := box3_sets q8 q9 q10 (.bool false) (.int .i64 RA) (.int .i64 RB)
          refine seq_store (w' := w112) (by rfl) (by rfl) (by rw [hw112]; go_simp; (try (with_reducible rfl)); done) ?_
          obtain ⟨dw0, dw1, dw2⟩ := s3w hw112 q8 q9 q10
          have hT := ai (s3o hw112 (by omega) q0) <| ai (s3o hw112 (by omega) q1) <| ai (s3o hw112 (by omega) q2) <| ai (s3o hw112 (by omega) q3) <| ai (s3o hw112 (by omega) q4) <| ai (s3o hw112 (by omega) q5) <| ai (s3b hw112 (by omega) q6) <| ai (s3f hw112 f7 fr7) <| ai (dw0) <| ai (dw1) <| ai (dw2) <| ai (s3f hw112 f11 fr11) <| ai (s3o hw112 (by omega) q12) <| ai (s3o hw112 (by omega) q13) <| ai (s3o hw112 (by omega) q14) <| s3b hw112 (by omega) hF
          clear dw0 dw1 dw2
          (try clear hS)
          have hS := hT
          clear hT dd0 dd1 dd2 dd3 dd4 hw112
          have hS2 := hS
          obtain ⟨q0, q1, q2, q3, q4, q5, q6, ⟨f7, fr7⟩, q8, q9, q10, ⟨f11, fr11⟩, q12, q13, q14, hF⟩ := hS2
          have hzw : w.heap.size ≤ w112.heap.size := hF.size
          have hB := hF
          have hz1 : w3.heap.size < w112.heap.size := World.block_lt_of_cell? w112 _ q0
          have hz2 : w7.heap.size < w112.heap.size := World.block_lt_of_cell? w112 _ q3
          have hzk112 : w109.heap.size ≤ w112.heap.size := q6.size
          have hz3 : w109.heap.size < w112.heap.size := World.block_lt_of_cell? w112 _ q8
          have hz4 : w110.heap.size < w112.heap.size := World.block_lt_of_cell? w112 _ q12
          refine ⟨(fun W => W.cell? ⟨w3.heap.size, 0, none⟩ = some (.bool false) ∧ W.cell? ⟨w3.heap.size, 1, none⟩ = some (.int .i64 RA) ∧ W.cell? ⟨w3.heap.size, 2, none⟩ = some (.int .i64 RB) ∧ W.cell? ⟨w7.heap.size, 0, none⟩ = some (.bool true) ∧ W.cell? ⟨w7.heap.size, 1, none⟩ = some (.int .i64 A8) ∧ W.cell? ⟨w7.heap.size, 2, none⟩ = some (.int .i64 B8) ∧ Below w.heap.size w W), ⟨hS.1, hS.2.1, hS.2.2.1, hS.2.2.2.1, hS.2.2.2.2.1, hS.2.2.2.2.2.1, hS.2.2.2.2.2.2.2.2.2.2.2.2.2.2.2⟩, (fun W h => h), ?_⟩
          simp only [Act.put, List.setIfInBounds_toArray, List.set_cons_zero, List.set_cons_succ]
          repeat (first
            | ((refine seq_skip (by rfl) (by rfl) ?_); simp only [Act.put, List.setIfInBounds_toArray, List.set_cons_zero, List.set_cons_succ])
            | ((refine seq_val (v := ?_) (by rfl) (by rfl) (fun w hS => ?_) ?_); rotate_left; (focus ((try dsimp only at hS); go_simp; (try (with_reducible rfl)); done)); simp only [Act.put, List.setIfInBounds_toArray, List.set_cons_zero, List.set_cons_succ]))
          obtain ⟨w113, hw113⟩ : ∃ W, W = ((w112.setCell ⟨w110.heap.size, 0, none⟩ (.bool true)).setCell ⟨w110.heap.size, 1, none⟩ (.int .i64 A8)).setCell ⟨w110.heap.size, 2, none⟩ (.int .i64 B8) := ⟨_, rfl⟩
          obtain ⟨dd0, dd1, dd2, dd3, dd4⟩ := box3_sets q12 q13 q14 (.bool true) (.int .i64 A8) (.int .i64 B8)
          refine seq_store (w' := w113) (by rfl) (by rfl) (by rw [hw113]; go_simp; (try (with_reducible rfl)); done) ?_
          obtain ⟨dw0, dw1, dw2⟩ := s3w hw113 q12 q13 q14
          have hT := ai (s3o hw113 (by omega) q0) <| ai (s3o hw113 (by omega) q1) <| ai (s3o hw113 (by omega) q2) <| ai (s3o hw113 (by omega) q3) <| ai (s3o hw113 (by omega) q4) <| ai (s3o hw113 (by omega) q5) <| ai (s3b hw113 (by omega) q6) <| ai (s3f hw113 f7 fr7) <| ai (s3o hw113 (by omega) q8) <| ai (s3o hw113 (by omega) q9) <| ai (s3o hw113 (by omega) q10) <| ai (s3f hw113 f11 fr11) <| ai (dw0) <| ai (dw1) <| ai (dw2) <| s3b hw113 (by omega) hF
          clear dw0 dw1 dw2
          (try clear hS)
          have hS := hT
          clear hT dd0 dd1 dd2 dd3 dd4 hw113
          have hS2 := hS
          obtain ⟨q0, q1, q2, q3, q4, q5, q6, ⟨f7, fr7⟩, q8, q9, q10, ⟨f11, fr11⟩, q12, q13, q14, hF⟩ := hS2
          have hzw : w.heap.size ≤ w113.heap.size := hF.size
          have hB := hF
          have hz1 : w3.heap.size < w113.heap.size := World.block_lt_of_cell? w113 _ q0
          have hz2 : w7.heap.size < w113.heap.size := World.block_lt_of_cell? w113 _ q3
          have hzk113 : w109.heap.size ≤ w113.heap.size := q6.size
          have hz3 : w109.heap.size < w113.heap.size := World.block_lt_of_cell? w113 _ q8
          have hz4 : w110.heap.size < w113.heap.size := World.block_lt_of_cell? w113 _ q12
          refine ⟨(fun W => W.cell? ⟨w3.heap.size, 0, none⟩ = some (.bool false) ∧ W.cell? ⟨w3.heap.size, 1, none⟩ = some (.int .i64 RA) ∧ W.cell? ⟨w3.heap.size, 2, none⟩ = some (.int .i64 RB) ∧ W.cell? ⟨w7.heap.size, 0, none⟩ = some (.bool true) ∧ W.cell? ⟨w7.heap.size, 1, none⟩ = some (.int .i64 A8) ∧ W.cell? ⟨w7.heap.size, 2, none⟩ = some (.int .i64 B8) ∧ Below w.heap.size w W), ⟨hS.1, hS.2.1, hS.2.2.1, hS.2.2.2.1, hS.2.2.2.2.1, hS.2.2.2.2.2.1, hS.2.2.2.2.2.2.2.2.2.2.2.2.2.2.2⟩, (fun W h => h), ?_⟩
          simp only [Act.put, List.setIfInBounds_toArray, List.set_cons_zero, List.set_cons_succ]
          repeat (first
            | ((refine seq_skip (by rfl) (by rfl) ?_); simp only [Act.put, List.setIfInBounds_toArray, List.set_cons_zero, List.set_cons_succ])
            | ((refine seq_val (v := ?_) (by rfl) (by rfl) (fun w hS => ?_) ?_); rotate_left; (focus ((try dsimp only at hS); go_simp; (try (with_reducible rfl)); done)); simp only [Act.put, List.setIfInBounds_toArray, List.set_cons_zero, List.set_cons_succ]))
          refine seq_nil ?_
          go_wp2_with fail
          go_meet
          case rel => exact ⟨w109.heap.size, w110.heap.size, rfl, rfl, ⟨by omega, by omega, by omega, by omega, by omega⟩, hS.2.2.2.1, hS.2.2.2.2.1, hS.2.2.2.2.2.1, hS.1, hS.2.1, hS.2.2.1, kc (hS.2.2.2.2.2.2.1) (HK9.out.2.2.2.2.2.2.2.2.2.1), kc (hS.2.2.2.2.2.2.1) (HK9.out.2.2.2.2.2.2.2.2.2.2.1), hS.2.2.2.2.2.2.2.1, hS.2.2.2.2.2.2.2.2.1, hS.2.2.2.2.2.2.2.2.2.1, hS.2.2.2.2.2.2.2.2.2.2.1, hS.2.2.2.2.2.2.2.2.2.2.2.1, hS.2.2.2.2.2.2.2.2.2.2.2.2.1, hS.2.2.2.2.2.2.2.2.2.2.2.2.2.1, hS.2.2.2.2.2.2.2.2.2.2.2.2.2.2.1, hS.2.2.2.2.2.2.2.2.2.2.2.2.2.2.2⟩
      obtain ⟨U, V, rfl, rfl, ⟨hU1, hV1, hUV, hU9, hV9⟩, hS3⟩ := hcut
      (try clear hS)
      have hS := hS3
      clear hS3
      have hS2 := hS
      obtain ⟨q0, q1, q2, q3, q4, q5, q6, q7, ⟨f8, fr8⟩, q9, q10, q11, ⟨f12, fr12⟩, q13, q14, q15, hF⟩ := hS2
      have hzw : w.heap.size ≤ wc.heap.size := hF.size
      have hB := hF
      have hz1 : w7.heap.size < wc.heap.size := World.block_lt_of_cell? wc _ q0
      have hz2 : w3.heap.size < wc.heap.size := World.block_lt_of_cell? wc _ q3
      have hz3 : w1.heap.size < wc.heap.size := World.block_lt_of_cell? wc _ q6
      have hz4 : U < wc.heap.size := World.block_lt_of_cell? wc _ q9
      have hz5 : V < wc.heap.size := World.block_lt_of_cell? wc _ q13
      have hT : wc.cell? ⟨w7.heap.size, 0, none⟩ = some (.bool true) ∧ wc.cell? ⟨w7.heap.size, 1, none⟩ = some (.int .i64 A8) ∧ wc.cell? ⟨w7.heap.size, 2, none⟩ = some (.int .i64 B8) ∧ wc.cell? ⟨w3.heap.size, 0, none⟩ = some (.bool false) ∧ wc.cell? ⟨w3.heap.size, 1, none⟩ = some (.int .i64 RA) ∧ wc.cell? ⟨w3.heap.size, 2, none⟩ = some (.int .i64 RB) ∧ wc.cell? ⟨w1.heap.size, 0, none⟩ = some (.int .i64 x) ∧ wc.cell? ⟨w1.heap.size, 1, none⟩ = some (.int .i64 y) ∧ wc.cell? ⟨U, 0, none⟩ = some (.bool false) ∧ wc.cell? ⟨U, 1, none⟩ = some (.int .i64 RA) ∧ wc.cell? ⟨U, 2, none⟩ = some (.int .i64 RB) ∧ wc.cell? ⟨V, 0, none⟩ = some (.bool true) ∧ wc.cell? ⟨V, 1, none⟩ = some (.int .i64 A8) ∧ wc.cell? ⟨V, 2, none⟩ = some (.int .i64 B8) ∧ Below w.heap.size w wc := ⟨hS.1, hS.2.1, hS.2.2.1, hS.2.2.2.1, hS.2.2.2.2.1, hS.2.2.2.2.2.1, hS.2.2.2.2.2.2.1, hS.2.2.2.2.2.2.2.1, hS.2.2.2.2.2.2.2.2.2.1, hS.2.2.2.2.2.2.2.2.2.2.1, hS.2.2.2.2.2.2.2.2.2.2.2.1, hS.2.2.2.2.2.2.2.2.2.2.2.2.2.1, hS.2.2.2.2.2.2.2.2.2.2.2.2.2.2.1, hS.2.2.2.2.2.2.2.2.2.2.2.2.2.2.2.1, hS.2.2.2.2.2.2.2.2.2.2.2.2.2.2.2.2⟩
      clear hS
      have hS := hT
      clear hT
      have hB := hS.2.2.2.2.2.2.2.2.2.2.2.2.2.2
      (try clear hzw)
      have hzw : w.heap.size ≤ wc.heap.size := hB.size
      have hz1 : w7.heap.size < wc.heap.size := World.block_lt_of_cell? wc _ (hS.1)
      have hz2 : w3.heap.size < wc.heap.size := World.block_lt_of_cell? wc _ (hS.2.2.2.1)
      have hz3 : w1.heap.size < wc.heap.size := World.block_lt_of_cell? wc _ (hS.2.2.2.2.2.2.1)
      have hz4 : U < wc.heap.size := World.block_lt_of_cell? wc _ (hS.2.2.2.2.2.2.2.2.1)
      have hz5 : V < wc.heap.size := World.block_lt_of_cell? wc _ (hS.2.2.2.2.2.2.2.2.2.2.2.1)
      go_wp2_with fail
      refine (HD.out _).mono ?_
      rintro e w61 ⟨rfl, hb⟩
      have hT : w61.cell? ⟨w7.heap.size, 0, none⟩ = some (.bool true) ∧ w61.cell? ⟨w7.heap.size, 1, none⟩ = some (.int .i64 A8) ∧ w61.cell? ⟨w7.heap.size, 2, none⟩ = some (.int .i64 B8) ∧ w61.cell? ⟨w3.heap.size, 0, none⟩ = some (.bool false) ∧ w61.cell? ⟨w3.heap.size, 1, none⟩ = some (.int .i64 RA) ∧ w61.cell? ⟨w3.heap.size, 2, none⟩ = some (.int .i64 RB) ∧ w61.cell? ⟨w1.heap.size, 0, none⟩ = some (.int .i64 x) ∧ w61.cell? ⟨w1.heap.size, 1, none⟩ = some (.int .i64 y) ∧ w61.cell? ⟨U, 0, none⟩ = some (.bool false) ∧ w61.cell? ⟨U, 1, none⟩ = some (.int .i64 RA) ∧ w61.cell? ⟨U, 2, none⟩ = some (.int .i64 RB) ∧ w61.cell? ⟨V, 0, none⟩ = some (.bool true) ∧ w61.cell? ⟨V, 1, none⟩ = some (.int .i64 A8) ∧ w61.cell? ⟨V, 2, none⟩ = some (.int .i64 B8) ∧ Below w.heap.size w w61 := (fun W h hb => ⟨keep_cell (hb) h.1, keep_cell (hb) h.2.1, keep_cell (hb) h.2.2.1, keep_cell (hb) h.2.2.2.1, keep_cell (hb) h.2.2.2.2.1, keep_cell (hb) h.2.2.2.2.2.1, keep_cell (hb) h.2.2.2.2.2.2.1, keep_cell (hb) h.2.2.2.2.2.2.2.1, keep_cell (hb) h.2.2.2.2.2.2.2.2.1, keep_cell (hb) h.2.2.2.2.2.2.2.2.2.1, keep_cell (hb) h.2.2.2.2.2.2.2.2.2.2.1, keep_cell (hb) h.2.2.2.2.2.2.2.2.2.2.2.1, keep_cell (hb) h.2.2.2.2.2.2.2.2.2.2.2.2.1, keep_cell (hb) h.2.2.2.2.2.2.2.2.2.2.2.2.2.1, below_via h.2.2.2.2.2.2.2.2.2.2.2.2.2.2 (hb)⟩ : ∀ W : World, (W.cell? ⟨w7.heap.size, 0, none⟩ = some (.bool true) ∧ W.cell? ⟨w7.heap.size, 1, none⟩ = some (.int .i64 A8) ∧ W.cell? ⟨w7.heap.size, 2, none⟩ = some (.int .i64 B8) ∧ W.cell? ⟨w3.heap.size, 0, none⟩ = some (.bool false) ∧ W.cell? ⟨w3.heap.size, 1, none⟩ = some (.int .i64 RA) ∧ W.cell? ⟨w3.heap.size, 2, none⟩ = some (.int .i64 RB) ∧ W.cell? ⟨w1.heap.size, 0, none⟩ = some (.int .i64 x) ∧ W.cell? ⟨w1.heap.size, 1, none⟩ = some (.int .i64 y) ∧ W.cell? ⟨U, 0, none⟩ = some (.bool false) ∧ W.cell? ⟨U, 1, none⟩ = some (.int .i64 RA) ∧ W.cell? ⟨U, 2, none⟩ = some (.int .i64 RB) ∧ W.cell? ⟨V, 0, none⟩ = some (.bool true) ∧ W.cell? ⟨V, 1, none⟩ = some (.int .i64 A8) ∧ W.cell? ⟨V, 2, none⟩ = some (.int .i64 B8) ∧ Below w.heap.size w W) → Below W.heap.size W w61 → (w61.cell? ⟨w7.heap.size, 0, none⟩ = some (.bool true) ∧ w61.cell? ⟨w7.heap.size, 1, none⟩ = some (.int .i64 A8) ∧ w61.cell? ⟨w7.heap.size, 2, none⟩ = some (.int .i64 B8) ∧ w61.cell? ⟨w3.heap.size, 0, none⟩ = some (.bool false) ∧ w61.cell? ⟨w3.heap.size, 1, none⟩ = some (.int .i64 RA) ∧ w61.cell? ⟨w3.heap.size, 2, none⟩ = some (.int .i64 RB) ∧ w61.cell? ⟨w1.heap.size, 0, none⟩ = some (.int .i64 x) ∧ w61.cell? ⟨w1.heap.size, 1, none⟩ = some (.int .i64 y) ∧ w61.cell? ⟨U, 0, none⟩ = some (.bool false) ∧ w61.cell? ⟨U, 1, none⟩ = some (.int .i64 RA) ∧ w61.cell? ⟨U, 2, none⟩ = some (.int .i64 RB) ∧ w61.cell? ⟨V, 0, none⟩ = some (.bool true) ∧ w61.cell? ⟨V, 1, none⟩ = some (.int .i64 A8) ∧ w61.cell? ⟨V, 2, none⟩ = some (.int .i64 B8) ∧ Below w.heap.size w w61)) _ (by first | (with_reducible assumption) | (exact hS) | (exact ⟨hS.1, hS.2.1, hS.2.2.1, hS.2.2.2.1, hS.2.2.2.2.1, hS.2.2.2.2.2.1, hS.2.2.2.2.2.2.1, hS.2.2.2.2.2.2.2.1, hS.2.2.2.2.2.2.2.2.1, hS.2.2.2.2.2.2.2.2.2.1, hS.2.2.2.2.2.2.2.2.2.2.1, hS.2.2.2.2.2.2.2.2.2.2.2.1, hS.2.2.2.2.2.2.2.2.2.2.2.2.1, hS.2.2.2.2.2.2.2.2.2.2.2.2.2.1, (by go_grown)⟩) | (exact ⟨(by first | (with_reducible assumption) | (simp [go_sem]; done) | ((simp only [go_sem]); (with_reducible assumption)) | ((refine keep_cell ?_ (by with_reducible assumption)); go_grown; done) | (simp [go_sem, *]; done)), (by first | (with_reducible assumption) | (simp [go_sem]; done) | ((simp only [go_sem]); (with_reducible assumption)) | ((refine keep_cell ?_ (by with_reducible assumption)); go_grown; done) | (simp [go_sem, *]; done)), (by first | (with_reducible assumption) | (simp [go_sem]; done) | ((simp only [go_sem]); (with_reducible assumption)) | ((refine keep_cell ?_ (by with_reducible assumption)); go_grown; done) | (simp [go_sem, *]; done)), (by first | (with_reducible assumption) | (simp [go_sem]; done) | ((simp only [go_sem]); (with_reducible assumption)) | ((refine keep_cell ?_ (by with_reducible assumption)); go_grown; done) | (simp [go_sem, *]; done)), (by first | (with_reducible assumption) | (simp [go_sem]; done) | ((simp only [go_sem]); (with_reducible assumption)) | ((refine keep_cell ?_ (by with_reducible assumption)); go_grown; done) | (simp [go_sem, *]; done)), (by first | (with_reducible assumption) | (simp [go_sem]; done) | ((simp only [go_sem]); (with_reducible assumption)) | ((refine keep_cell ?_ (by with_reducible assumption)); go_grown; done) | (simp [go_sem, *]; done)), (by first | (with_reducible assumption) | (simp [go_sem]; done) | ((simp only [go_sem]); (with_reducible assumption)) | ((refine keep_cell ?_ (by with_reducible assumption)); go_grown; done) | (simp [go_sem, *]; done)), (by first | (with_reducible assumption) | (simp [go_sem]; done) | ((simp only [go_sem]); (with_reducible assumption)) | ((refine keep_cell ?_ (by with_reducible assumption)); go_grown; done) | (simp [go_sem, *]; done)), (by first | (with_reducible assumption) | (simp [go_sem]; done) | ((simp only [go_sem]); (with_reducible assumption)) | ((refine keep_cell ?_ (by with_reducible assumption)); go_grown; done) | (simp [go_sem, *]; done)), (by first | (with_reducible assumption) | (simp [go_sem]; done) | ((simp only [go_sem]); (with_reducible assumption)) | ((refine keep_cell ?_ (by with_reducible assumption)); go_grown; done) | (simp [go_sem, *]; done)), (by first | (with_reducible assumption) | (simp [go_sem]; done) | ((simp only [go_sem]); (with_reducible assumption)) | ((refine keep_cell ?_ (by with_reducible assumption)); go_grown; done) | (simp [go_sem, *]; done)), (by first | (with_reducible assumption) | (simp [go_sem]; done) | ((simp only [go_sem]); (with_reducible assumption)) | ((refine keep_cell ?_ (by with_reducible assumption)); go_grown; done) | (simp [go_sem, *]; done)), (by first | (with_reducible assumption) | (simp [go_sem]; done) | ((simp only [go_sem]); (with_reducible assumption)) | ((refine keep_cell ?_ (by with_reducible assumption)); go_grown; done) | (simp [go_sem, *]; done)), (by first | (with_reducible assumption) | (simp [go_sem]; done) | ((simp only [go_sem]); (with_reducible assumption)) | ((refine keep_cell ?_ (by with_reducible assumption)); go_grown; done) | (simp [go_sem, *]; done)), (by go_grown)⟩)) hb
      (try clear hS)
      have hS := hT
      clear hT
      have hB := hS.2.2.2.2.2.2.2.2.2.2.2.2.2.2
      have hzw : w.heap.size ≤ w61.heap.size := hB.size
      have hz1 : w7.heap.size < w61.heap.size := World.block_lt_of_cell? w61 _ (hS.1)
      have hz2 : w3.heap.size < w61.heap.size := World.block_lt_of_cell? w61 _ (hS.2.2.2.1)
      have hz3 : w1.heap.size < w61.heap.size := World.block_lt_of_cell? w61 _ (hS.2.2.2.2.2.2.1)
      have hz4 : U < w61.heap.size := World.block_lt_of_cell? w61 _ (hS.2.2.2.2.2.2.2.2.1)
      have hz5 : V < w61.heap.size := World.block_lt_of_cell? w61 _ (hS.2.2.2.2.2.2.2.2.2.2.2.1)
      clear hb
      go_wp2_with fail
      obtain ⟨w62, hww62⟩ : ∃ W, W = w61.alloc (.cells #[.int .i64 x, .int .i64 y] 25) := ⟨_, rfl⟩
      have hT : w62.cell? ⟨w61.heap.size, 0, none⟩ = some (.int .i64 x) ∧ w62.cell? ⟨w61.heap.size, 1, none⟩ = some (.int .i64 y) ∧ w62.cell? ⟨w7.heap.size, 0, none⟩ = some (.bool true) ∧ w62.cell? ⟨w7.heap.size, 1, none⟩ = some (.int .i64 A8) ∧ w62.cell? ⟨w7.heap.size, 2, none⟩ = some (.int .i64 B8) ∧ w62.cell? ⟨w3.heap.size, 0, none⟩ = some (.bool false) ∧ w62.cell? ⟨w3.heap.size, 1, none⟩ = some (.int .i64 RA) ∧ w62.cell? ⟨w3.heap.size, 2, none⟩ = some (.int .i64 RB) ∧ w62.cell? ⟨w1.heap.size, 0, none⟩ = some (.int .i64 x) ∧ w62.cell? ⟨w1.heap.size, 1, none⟩ = some (.int .i64 y) ∧ w62.cell? ⟨U, 0, none⟩ = some (.bool false) ∧ w62.cell? ⟨U, 1, none⟩ = some (.int .i64 RA) ∧ w62.cell? ⟨U, 2, none⟩ = some (.int .i64 RB) ∧ w62.cell? ⟨V, 0, none⟩ = some (.bool true) ∧ w62.cell? ⟨V, 1, none⟩ = some (.int .i64 A8) ∧ w62.cell? ⟨V, 2, none⟩ = some (.int .i64 B8) ∧ Below w.heap.size w w62 := by
        rw [hww62]
        exact ⟨by simp [go_sem], by simp [go_sem], keep_cell (by go_grown) hS.1, keep_cell (by go_grown) hS.2.1, keep_cell (by go_grown) hS.2.2.1, keep_cell (by go_grown) hS.2.2.2.1, keep_cell (by go_grown) hS.2.2.2.2.1, keep_cell (by go_grown) hS.2.2.2.2.2.1, keep_cell (by go_grown) hS.2.2.2.2.2.2.1, keep_cell (by go_grown) hS.2.2.2.2.2.2.2.1, keep_cell (by go_grown) hS.2.2.2.2.2.2.2.2.1, keep_cell (by go_grown) hS.2.2.2.2.2.2.2.2.2.1, keep_cell (by go_grown) hS.2.2.2.2.2.2.2.2.2.2.1, keep_cell (by go_grown) hS.2.2.2.2.2.2.2.2.2.2.2.1, keep_cell (by go_grown) hS.2.2.2.2.2.2.2.2.2.2.2.2.1, keep_cell (by go_grown) hS.2.2.2.2.2.2.2.2.2.2.2.2.2.1, below_via hS.2.2.2.2.2.2.2.2.2.2.2.2.2.2 (by go_grown)⟩
      rw [← hww62]
      clear hS hww62
      have hS := hT
      clear hT
      (try clear hB hzw)
      have hB := hS.2.2.2.2.2.2.2.2.2.2.2.2.2.2.2.2
      have hzw : w.heap.size ≤ w62.heap.size := hB.size
      have hz1 : w61.heap.size < w62.heap.size := World.block_lt_of_cell? w62 _ (hS.1)
      have hz2 : w7.heap.size < w62.heap.size := World.block_lt_of_cell? w62 _ (hS.2.2.1)
      have hz3 : w3.heap.size < w62.heap.size := World.block_lt_of_cell? w62 _ (hS.2.2.2.2.2.1)
      have hz4 : w1.heap.size < w62.heap.size := World.block_lt_of_cell? w62 _ (hS.2.2.2.2.2.2.2.2.1)
      have hz5 : U < w62.heap.size := World.block_lt_of_cell? w62 _ (hS.2.2.2.2.2.2.2.2.2.2.1)
      have hz6 : V < w62.heap.size := World.block_lt_of_cell? w62 _ (hS.2.2.2.2.2.2.2.2.2.2.2.2.2.1)
      go_wp2_with fail
      refine (HE.out _).mono ?_
      rintro e w63 ⟨rfl, hb⟩
      have hT : w63.cell? ⟨w61.heap.size, 0, none⟩ = some (.int .i64 x) ∧ w63.cell? ⟨w61.heap.size, 1, none⟩ = some (.int .i64 y) ∧ w63.cell? ⟨w7.heap.size, 0, none⟩ = some (.bool true) ∧ w63.cell? ⟨w7.heap.size, 1, none⟩ = some (.int .i64 A8) ∧ w63.cell? ⟨w7.heap.size, 2, none⟩ = some (.int .i64 B8) ∧ w63.cell? ⟨w3.heap.size, 0, none⟩ = some (.bool false) ∧ w63.cell? ⟨w3.heap.size, 1, none⟩ = some (.int .i64 RA) ∧ w63.cell? ⟨w3.heap.size, 2, none⟩ = some (.int .i64 RB) ∧ w63.cell? ⟨w1.heap.size, 0, none⟩ = some (.int .i64 x) ∧ w63.cell? ⟨w1.heap.size, 1, none⟩ = some (.int .i64 y) ∧ w63.cell? ⟨U, 0, none⟩ = some (.bool false) ∧ w63.cell? ⟨U, 1, none⟩ = some (.int .i64 RA) ∧ w63.cell? ⟨U, 2, none⟩ = some (.int .i64 RB) ∧ w63.cell? ⟨V, 0, none⟩ = some (.bool true) ∧ w63.cell? ⟨V, 1, none⟩ = some (.int .i64 A8) ∧ w63.cell? ⟨V, 2, none⟩ = some (.int .i64 B8) ∧ Below w.heap.size w w63 := (fun W h hb => ⟨keep_cell (hb) h.1, keep_cell (hb) h.2.1, keep_cell (hb) h.2.2.1, keep_cell (hb) h.2.2.2.1, keep_cell (hb) h.2.2.2.2.1, keep_cell (hb) h.2.2.2.2.2.1, keep_cell (hb) h.2.2.2.2.2.2.1, keep_cell (hb) h.2.2.2.2.2.2.2.1, keep_cell (hb) h.2.2.2.2.2.2.2.2.1, keep_cell (hb) h.2.2.2.2.2.2.2.2.2.1, keep_cell (hb) h.2.2.2.2.2.2.2.2.2.2.1, keep_cell (hb) h.2.2.2.2.2.2.2.2.2.2.2.1, keep_cell (hb) h.2.2.2.2.2.2.2.2.2.2.2.2.1, keep_cell (hb) h.2.2.2.2.2.2.2.2.2.2.2.2.2.1, keep_cell (hb) h.2.2.2.2.2.2.2.2.2.2.2.2.2.2.1, keep_cell (hb) h.2.2.2.2.2.2.2.2.2.2.2.2.2.2.2.1, below_via h.2.2.2.2.2.2.2.2.2.2.2.2.2.2.2.2 (hb)⟩ : ∀ W : World, (W.cell? ⟨w61.heap.size, 0, none⟩ = some (.int .i64 x) ∧ W.cell? ⟨w61.heap.size, 1, none⟩ = some (.int .i64 y) ∧ W.cell? ⟨w7.heap.size, 0, none⟩ = some (.bool true) ∧ W.cell? ⟨w7.heap.size, 1, none⟩ = some (.int .i64 A8) ∧ W.cell? ⟨w7.heap.size, 2, none⟩ = some (.int .i64 B8) ∧ W.cell? ⟨w3.heap.size, 0, none⟩ = some (.bool false) ∧ W.cell? ⟨w3.heap.size, 1, none⟩ = some (.int .i64 RA) ∧ W.cell? ⟨w3.heap.size, 2, none⟩ = some (.int .i64 RB) ∧ W.cell? ⟨w1.heap.size, 0, none⟩ = some (.int .i64 x) ∧ W.cell? ⟨w1.heap.size, 1, none⟩ = some (.int .i64 y) ∧ W.cell? ⟨U, 0, none⟩ = some (.bool false) ∧ W.cell? ⟨U, 1, none⟩ = some (.int .i64 RA) ∧ W.cell? ⟨U, 2, none⟩ = some (.int .i64 RB) ∧ W.cell? ⟨V, 0, none⟩ = some (.bool true) ∧ W.cell? ⟨V, 1, none⟩ = some (.int .i64 A8) ∧ W.cell? ⟨V, 2, none⟩ = some (.int .i64 B8) ∧ Below w.heap.size w W) → Below W.heap.size W w63 → (w63.cell? ⟨w61.heap.size, 0, none⟩ = some (.int .i64 x) ∧ w63.cell? ⟨w61.heap.size, 1, none⟩ = some (.int .i64 y) ∧ w63.cell? ⟨w7.heap.size, 0, none⟩ = some (.bool true) ∧ w63.cell? ⟨w7.heap.size, 1, none⟩ = some (.int .i64 A8) ∧ w63.cell? ⟨w7.heap.size, 2, none⟩ = some (.int .i64 B8) ∧ w63.cell? ⟨w3.heap.size, 0, none⟩ = some (.bool false) ∧ w63.cell? ⟨w3.heap.size, 1, none⟩ = some (.int .i64 RA) ∧ w63.cell? ⟨w3.heap.size, 2, none⟩ = some (.int .i64 RB) ∧ w63.cell? ⟨w1.heap.size, 0, none⟩ = some (.int .i64 x) ∧ w63.cell? ⟨w1.heap.size, 1, none⟩ = some (.int .i64 y) ∧ w63.cell? ⟨U, 0, none⟩ = some (.bool false) ∧ w63.cell? ⟨U, 1, none⟩ = some (.int .i64 RA) ∧ w63.cell? ⟨U, 2, none⟩ = some (.int .i64 RB) ∧ w63.cell? ⟨V, 0, none⟩ = some (.bool true) ∧ w63.cell? ⟨V, 1, none⟩ = some (.int .i64 A8) ∧ w63.cell? ⟨V, 2, none⟩ = some (.int .i64 B8) ∧ Below w.heap.size w w63)) _ (by first | (with_reducible assumption) | (exact hS) | (exact ⟨hS.1, hS.2.1, hS.2.2.1, hS.2.2.2.1, hS.2.2.2.2.1, hS.2.2.2.2.2.1, hS.2.2.2.2.2.2.1, hS.2.2.2.2.2.2.2.1, hS.2.2.2.2.2.2.2.2.1, hS.2.2.2.2.2.2.2.2.2.1, hS.2.2.2.2.2.2.2.2.2.2.1, hS.2.2.2.2.2.2.2.2.2.2.2.1, hS.2.2.2.2.2.2.2.2.2.2.2.2.1, hS.2.2.2.2.2.2.2.2.2.2.2.2.2.1, hS.2.2.2.2.2.2.2.2.2.2.2.2.2.2.1, hS.2.2.2.2.2.2.2.2.2.2.2.2.2.2.2.1, (by go_grown)⟩) | (exact ⟨(by first | (with_reducible assumption) | (simp [go_sem]; done) | ((simp only [go_sem]); (with_reducible assumption)) | ((refine keep_cell ?_ (by with_reducible assumption)); go_grown; done) | (simp [go_sem, *]; done)), (by first | (with_reducible assumption) | (simp [go_sem]; done) | ((simp only [go_sem]); (with_reducible assumption)) | ((refine keep_cell ?_ (by with_reducible assumption)); go_grown; done) | (simp [go_sem, *]; done)), (by first | (with_reducible assumption) | (simp [go_sem]; done) | ((simp only [go_sem]); (with_reducible assumption)) | ((refine keep_cell ?_ (by with_reducible assumption)); go_grown; done) | (simp [go_sem, *]; done)), (by first | (with_reducible assumption) | (simp [go_sem]; done) | ((simp only [go_sem]); (with_reducible assumption)) | ((refine keep_cell ?_ (by with_reducible assumption)); go_grown; done) | (simp [go_sem, *]; done)), (by first | (with_reducible assumption) | (simp [go_sem]; done) | ((simp only [go_sem]); (with_reducible assumption)) | ((refine keep_cell ?_ (by with_reducible assumption)); go_grown; done) | (simp [go_sem, *]; done)), (by first | (with_reducible assumption) | (simp [go_sem]; done) | ((simp only [go_sem]); (with_reducible assumption)) | ((refine keep_cell ?_ (by with_reducible assumption)); go_grown; done) | (simp [go_sem, *]; done)), (by first | (with_reducible assumption) | (simp [go_sem]; done) | ((simp only [go_sem]); (with_reducible assumption)) | ((refine keep_cell ?_ (by with_reducible assumption)); go_grown; done) | (simp [go_sem, *]; done)), (by first | (with_reducible assumption) | (simp [go_sem]; done) | ((simp only [go_sem]); (with_reducible assumption)) | ((refine keep_cell ?_ (by with_reducible assumption)); go_grown; done) | (simp [go_sem, *]; done)), (by first | (with_reducible assumption) | (simp [go_sem]; done) | ((simp only [go_sem]); (with_reducible assumption)) | ((refine keep_cell ?_ (by with_reducible assumption)); go_grown; done) | (simp [go_sem, *]; done)), (by first | (with_reducible assumption) | (simp [go_sem]; done) | ((simp only [go_sem]); (with_reducible assumption)) | ((refine keep_cell ?_ (by with_reducible assumption)); go_grown; done) | (simp [go_sem, *]; done)), (by first | (with_reducible assumption) | (simp [go_sem]; done) | ((simp only [go_sem]); (with_reducible assumption)) | ((refine keep_cell ?_ (by with_reducible assumption)); go_grown; done) | (simp [go_sem, *]; done)), (by first | (with_reducible assumption) | (simp [go_sem]; done) | ((simp only [go_sem]); (with_reducible assumption)) | ((refine keep_cell ?_ (by with_reducible assumption)); go_grown; done) | (simp [go_sem, *]; done)), (by first | (with_reducible assumption) | (simp [go_sem]; done) | ((simp only [go_sem]); (with_reducible assumption)) | ((refine keep_cell ?_ (by with_reducible assumption)); go_grown; done) | (simp [go_sem, *]; done)), (by first | (with_reducible assumption) | (simp [go_sem]; done) | ((simp only [go_sem]); (with_reducible assumption)) | ((refine keep_cell ?_ (by with_reducible assumption)); go_grown; done) | (simp [go_sem, *]; done)), (by first | (with_reducible assumption) | (simp [go_sem]; done) | ((simp only [go_sem]); (with_reducible assumption)) | ((refine keep_cell ?_ (by with_reducible assumption)); go_grown; done) | (simp [go_sem, *]; done)), (by first | (with_reducible assumption) | (simp [go_sem]; done) | ((simp only [go_sem]); (with_reducible assumption)) | ((refine keep_cell ?_ (by with_reducible assumption)); go_grown; done) | (simp [go_sem, *]; done)), (by go_grown)⟩)) hb
      (try clear hS)
      have hS := hT
      clear hT
      have hB := hS.2.2.2.2.2.2.2.2.2.2.2.2.2.2.2.2
      have hzw : w.heap.size ≤ w63.heap.size := hB.size
      have hz1 : w61.heap.size < w63.heap.size := World.block_lt_of_cell? w63 _ (hS.1)
      have hz2 : w7.heap.size < w63.heap.size := World.block_lt_of_cell? w63 _ (hS.2.2.1)
      have hz3 : w3.heap.size < w63.heap.size := World.block_lt_of_cell? w63 _ (hS.2.2.2.2.2.1)
      have hz4 : w1.heap.size < w63.heap.size := World.block_lt_of_cell? w63 _ (hS.2.2.2.2.2.2.2.2.1)
      have hz5 : U < w63.heap.size := World.block_lt_of_cell? w63 _ (hS.2.2.2.2.2.2.2.2.2.2.1)
      have hz6 : V < w63.heap.size := World.block_lt_of_cell? w63 _ (hS.2.2.2.2.2.2.2.2.2.2.2.2.2.1)
      clear hb
      go_wp2_with fail
      obtain ⟨w64, hww64⟩ : ∃ W, W = w63.alloc (.cells #[.int .i64 x, .int .i64 y] 25) := ⟨_, rfl⟩
      have hT : w64.cell? ⟨w63.heap.size, 0, none⟩ = some (.int .i64 x) ∧ w64.cell? ⟨w63.heap.size, 1, none⟩ = some (.int .i64 y) ∧ w64.cell? ⟨w61.heap.size, 0, none⟩ = some (.int .i64 x) ∧ w64.cell? ⟨w61.heap.size, 1, none⟩ = some (.int .i64 y) ∧ w64.cell? ⟨w7.heap.size, 0, none⟩ = some (.bool true) ∧ w64.cell? ⟨w7.heap.size, 1, none⟩ = some (.int .i64 A8) ∧ w64.cell? ⟨w7.heap.size, 2, none⟩ = some (.int .i64 B8) ∧ w64.cell? ⟨w3.heap.size, 0, none⟩ = some (.bool false) ∧ w64.cell? ⟨w3.heap.size, 1, none⟩ = some (.int .i64 RA) ∧ w64.cell? ⟨w3.heap.size, 2, none⟩ = some (.int .i64 RB) ∧ w64.cell? ⟨w1.heap.size, 0, none⟩ = some (.int .i64 x) ∧ w64.cell? ⟨w1.heap.size, 1, none⟩ = some (.int .i64 y) ∧ w64.cell? ⟨U, 0, none⟩ = some (.bool false) ∧ w64.cell? ⟨U, 1, none⟩ = some (.int .i64 RA) ∧ w64.cell? ⟨U, 2, none⟩ = some (.int .i64 RB) ∧ w64.cell? ⟨V, 0, none⟩ = some (.bool true) ∧ w64.cell? ⟨V, 1, none⟩ = some (.int .i64 A8) ∧ w64.cell? ⟨V, 2, none⟩ = some (.int .i64 B8) ∧ Below w.heap.size w w64 := by
        rw [hww64]
        exact ⟨by simp [go_sem], by simp [go_sem], keep_cell (by go_grown) hS.1, keep_cell (by go_grown) hS.2.1, keep_cell (by go_grown) hS.2.2.1, keep_cell (by go_grown) hS.2.2.2.1, keep_cell (by go_grown) hS.2.2.2.2.1, keep_cell (by go_grown) hS.2.2.2.2.2.1, keep_cell (by go_grown) hS.2.2.2.2.2.2.1, keep_cell (by go_grown) hS.2.2.2.2.2.2.2.1, keep_cell (by go_grown) hS.2.2.2.2.2.2.2.2.1, keep_cell (by go_grown) hS.2.2.2.2.2.2.2.2.2.1, keep_cell (by go_grown) hS.2.2.2.2.2.2.2.2.2.2.1, keep_cell (by go_grown) hS.2.2.2.2.2.2.2.2.2.2.2.1, keep_cell (by go_grown) hS.2.2.2.2.2.2.2.2.2.2.2.2.1, keep_cell (by go_grown) hS.2.2.2.2.2.2.2.2.2.2.2.2.2.1, keep_cell (by go_grown) hS.2.2.2.2.2.2.2.2.2.2.2.2.2.2.1, keep_cell (by go_grown) hS.2.2.2.2.2.2.2.2.2.2.2.2.2.2.2.1, below_via hS.2.2.2.2.2.2.2.2.2.2.2.2.2.2.2.2 (by go_grown)⟩
      rw [← hww64]
      clear hS hww64
      have hS := hT
      clear hT
      (try clear hB hzw)
      have hB := hS.2.2.2.2.2.2.2.2.2.2.2.2.2.2.2.2.2.2
      have hzw : w.heap.size ≤ w64.heap.size := hB.size
      have hz1 : w63.heap.size < w64.heap.size := World.block_lt_of_cell? w64 _ (hS.1)
      have hz2 : w61.heap.size < w64.heap.size := World.block_lt_of_cell? w64 _ (hS.2.2.1)
      have hz3 : w7.heap.size < w64.heap.size := World.block_lt_of_cell? w64 _ (hS.2.2.2.2.1)
      have hz4 : w3.heap.size < w64.heap.size := World.block_lt_of_cell? w64 _ (hS.2.2.2.2.2.2.2.1)
      have hz5 : w1.heap.size < w64.heap.size := World.block_lt_of_cell? w64 _ (hS.2.2.2.2.2.2.2.2.2.2.1)
      have hz6 : U < w64.heap.size := World.block_lt_of_cell? w64 _ (hS.2.2.2.2.2.2.2.2.2.2.2.2.1)
      have hz7 : V < w64.heap.size := World.block_lt_of_cell? w64 _ (hS.2.2.2.2.2.2.2.2.2.2.2.2.2.2.2.1)
      go_wp2_with fail
      refine (HM.out _).mono ?_
      rintro e w65 ⟨A1, c1, rfl, ho1, hb⟩
      obtain ⟨b1, ho1, hbk1⟩ := own_based ho1 (m := w64.heap.size) (by first | omega | (simp; done) | (simp; omega))
      have hT : w65.ownsRow (b1) 25 2 (.slice A1 1 c1) (1) (flat [(x, y)]) ∧ w65.cell? ⟨w63.heap.size, 0, none⟩ = some (.int .i64 x) ∧ w65.cell? ⟨w63.heap.size, 1, none⟩ = some (.int .i64 y) ∧ w65.cell? ⟨w61.heap.size, 0, none⟩ = some (.int .i64 x) ∧ w65.cell? ⟨w61.heap.size, 1, none⟩ = some (.int .i64 y) ∧ w65.cell? ⟨w7.heap.size, 0, none⟩ = some (.bool true) ∧ w65.cell? ⟨w7.heap.size, 1, none⟩ = some (.int .i64 A8) ∧ w65.cell? ⟨w7.heap.size, 2, none⟩ = some (.int .i64 B8) ∧ w65.cell? ⟨w3.heap.size, 0, none⟩ = some (.bool false) ∧ w65.cell? ⟨w3.heap.size, 1, none⟩ = some (.int .i64 RA) ∧ w65.cell? ⟨w3.heap.size, 2, none⟩ = some (.int .i64 RB) ∧ w65.cell? ⟨w1.heap.size, 0, none⟩ = some (.int .i64 x) ∧ w65.cell? ⟨w1.heap.size, 1, none⟩ = some (.int .i64 y) ∧ w65.cell? ⟨U, 0, none⟩ = some (.bool false) ∧ w65.cell? ⟨U, 1, none⟩ = some (.int .i64 RA) ∧ w65.cell? ⟨U, 2, none⟩ = some (.int .i64 RB) ∧ w65.cell? ⟨V, 0, none⟩ = some (.bool true) ∧ w65.cell? ⟨V, 1, none⟩ = some (.int .i64 A8) ∧ w65.cell? ⟨V, 2, none⟩ = some (.int .i64 B8) ∧ Below w.heap.size w w65 := ⟨ho1, (fun W h hb => ⟨keep_cell (hb) h.1, keep_cell (hb) h.2.1, keep_cell (hb) h.2.2.1, keep_cell (hb) h.2.2.2.1, keep_cell (hb) h.2.2.2.2.1, keep_cell (hb) h.2.2.2.2.2.1, keep_cell (hb) h.2.2.2.2.2.2.1, keep_cell (hb) h.2.2.2.2.2.2.2.1, keep_cell (hb) h.2.2.2.2.2.2.2.2.1, keep_cell (hb) h.2.2.2.2.2.2.2.2.2.1, keep_cell (hb) h.2.2.2.2.2.2.2.2.2.2.1, keep_cell (hb) h.2.2.2.2.2.2.2.2.2.2.2.1, keep_cell (hb) h.2.2.2.2.2.2.2.2.2.2.2.2.1, keep_cell (hb) h.2.2.2.2.2.2.2.2.2.2.2.2.2.1, keep_cell (hb) h.2.2.2.2.2.2.2.2.2.2.2.2.2.2.1, keep_cell (hb) h.2.2.2.2.2.2.2.2.2.2.2.2.2.2.2.1, keep_cell (hb) h.2.2.2.2.2.2.2.2.2.2.2.2.2.2.2.2.1, keep_cell (hb) h.2.2.2.2.2.2.2.2.2.2.2.2.2.2.2.2.2.1, below_via h.2.2.2.2.2.2.2.2.2.2.2.2.2.2.2.2.2.2 (hb)⟩ : ∀ W : World, (W.cell? ⟨w63.heap.size, 0, none⟩ = some (.int .i64 x) ∧ W.cell? ⟨w63.heap.size, 1, none⟩ = some (.int .i64 y) ∧ W.cell? ⟨w61.heap.size, 0, none⟩ = some (.int .i64 x) ∧ W.cell? ⟨w61.heap.size, 1, none⟩ = some (.int .i64 y) ∧ W.cell? ⟨w7.heap.size, 0, none⟩ = some (.bool true) ∧ W.cell? ⟨w7.heap.size, 1, none⟩ = some (.int .i64 A8) ∧ W.cell? ⟨w7.heap.size, 2, none⟩ = some (.int .i64 B8) ∧ W.cell? ⟨w3.heap.size, 0, none⟩ = some (.bool false) ∧ W.cell? ⟨w3.heap.size, 1, none⟩ = some (.int .i64 RA) ∧ W.cell? ⟨w3.heap.size, 2, none⟩ = some (.int .i64 RB) ∧ W.cell? ⟨w1.heap.size, 0, none⟩ = some (.int .i64 x) ∧ W.cell? ⟨w1.heap.size, 1, none⟩ = some (.int .i64 y) ∧ W.cell? ⟨U, 0, none⟩ = some (.bool false) ∧ W.cell? ⟨U, 1, none⟩ = some (.int .i64 RA) ∧ W.cell? ⟨U, 2, none⟩ = some (.int .i64 RB) ∧ W.cell? ⟨V, 0, none⟩ = some (.bool true) ∧ W.cell? ⟨V, 1, none⟩ = some (.int .i64 A8) ∧ W.cell? ⟨V, 2, none⟩ = some (.int .i64 B8) ∧ Below w.heap.size w W) → Below W.heap.size W w65 → (w65.cell? ⟨w63.heap.size, 0, none⟩ = some (.int .i64 x) ∧ w65.cell? ⟨w63.heap.size, 1, none⟩ = some (.int .i64 y) ∧ w65.cell? ⟨w61.heap.size, 0, none⟩ = some (.int .i64 x) ∧ w65.cell? ⟨w61.heap.size, 1, none⟩ = some (.int .i64 y) ∧ w65.cell? ⟨w7.heap.size, 0, none⟩ = some (.bool true) ∧ w65.cell? ⟨w7.heap.size, 1, none⟩ = some (.int .i64 A8) ∧ w65.cell? ⟨w7.heap.size, 2, none⟩ = some (.int .i64 B8) ∧ w65.cell? ⟨w3.heap.size, 0, none⟩ = some (.bool false) ∧ w65.cell? ⟨w3.heap.size, 1, none⟩ = some (.int .i64 RA) ∧ w65.cell? ⟨w3.heap.size, 2, none⟩ = some (.int .i64 RB) ∧ w65.cell? ⟨w1.heap.size, 0, none⟩ = some (.int .i64 x) ∧ w65.cell? ⟨w1.heap.size, 1, none⟩ = some (.int .i64 y) ∧ w65.cell? ⟨U, 0, none⟩ = some (.bool false) ∧ w65.cell? ⟨U, 1, none⟩ = some (.int .i64 RA) ∧ w65.cell? ⟨U, 2, none⟩ = some (.int .i64 RB) ∧ w65.cell? ⟨V, 0, none⟩ = some (.bool true) ∧ w65.cell? ⟨V, 1, none⟩ = some (.int .i64 A8) ∧ w65.cell? ⟨V, 2, none⟩ = some (.int .i64 B8) ∧ Below w.heap.size w w65)) _ (by first | (with_reducible assumption) | (exact hS) | (exact ⟨hS.1, hS.2.1, hS.2.2.1, hS.2.2.2.1, hS.2.2.2.2.1, hS.2.2.2.2.2.1, hS.2.2.2.2.2.2.1, hS.2.2.2.2.2.2.2.1, hS.2.2.2.2.2.2.2.2.1, hS.2.2.2.2.2.2.2.2.2.1, hS.2.2.2.2.2.2.2.2.2.2.1, hS.2.2.2.2.2.2.2.2.2.2.2.1, hS.2.2.2.2.2.2.2.2.2.2.2.2.1, hS.2.2.2.2.2.2.2.2.2.2.2.2.2.1, hS.2.2.2.2.2.2.2.2.2.2.2.2.2.2.1, hS.2.2.2.2.2.2.2.2.2.2.2.2.2.2.2.1, hS.2.2.2.2.2.2.2.2.2.2.2.2.2.2.2.2.1, hS.2.2.2.2.2.2.2.2.2.2.2.2.2.2.2.2.2.1, (by go_grown)⟩) | (exact ⟨(by first | (with_reducible assumption) | (simp [go_sem]; done) | ((simp only [go_sem]); (with_reducible assumption)) | ((refine keep_cell ?_ (by with_reducible assumption)); go_grown; done) | (simp [go_sem, *]; done)), (by first | (with_reducible assumption) | (simp [go_sem]; done) | ((simp only [go_sem]); (with_reducible assumption)) | ((refine keep_cell ?_ (by with_reducible assumption)); go_grown; done) | (simp [go_sem, *]; done)), (by first | (with_reducible assumption) | (simp [go_sem]; done) | ((simp only [go_sem]); (with_reducible assumption)) | ((refine keep_cell ?_ (by with_reducible assumption)); go_grown; done) | (simp [go_sem, *]; done)), (by first | (with_reducible assumption) | (simp [go_sem]; done) | ((simp only [go_sem]); (with_reducible assumption)) | ((refine keep_cell ?_ (by with_reducible assumption)); go_grown; done) | (simp [go_sem, *]; done)), (by first | (with_reducible assumption) | (simp [go_sem]; done) | ((simp only [go_sem]); (with_reducible assumption)) | ((refine keep_cell ?_ (by with_reducible assumption)); go_grown; done) | (simp [go_sem, *]; done)), (by first | (with_reducible assumption) | (simp [go_sem]; done) | ((simp only [go_sem]); (with_reducible assumption)) | ((refine keep_cell ?_ (by with_reducible assumption)); go_grown; done) | (simp [go_sem, *]; done)), (by first | (with_reducible assumption) | (simp [go_sem]; done) | ((simp only [go_sem]); (with_reducible assumption)) | ((refine keep_cell ?_ (by with_reducible assumption)); go_grown; done) | (simp [go_sem, *]; done)), (by first | (with_reducible assumption) | (simp [go_sem]; done) | ((simp only [go_sem]); (with_reducible assumption)) | ((refine keep_cell ?_ (by with_reducible assumption)); go_grown; done) | (simp [go_sem, *]; done)), (by first | (with_reducible assumption) | (simp [go_sem]; done) | ((simp only [go_sem]); (with_reducible assumption)) | ((refine keep_cell ?_ (by with_reducible assumption)); go_grown; done) | (simp [go_sem, *]; done)), (by first | (with_reducible assumption) | (simp [go_sem]; done) | ((simp only [go_sem]); (with_reducible assumption)) | ((refine keep_cell ?_ (by with_reducible assumption)); go_grown; done) | (simp [go_sem, *]; done)), (by first | (with_reducible assumption) | (simp [go_sem]; done) | ((simp only [go_sem]); (with_reducible assumption)) | ((refine keep_cell ?_ (by with_reducible assumption)); go_grown; done) | (simp [go_sem, *]; done)), (by first | (with_reducible assumption) | (simp [go_sem]; done) | ((simp only [go_sem]); (with_reducible assumption)) | ((refine keep_cell ?_ (by with_reducible assumption)); go_grown; done) | (simp [go_sem, *]; done)), (by first | (with_reducible assumption) | (simp [go_sem]; done) | ((simp only [go_sem]); (with_reducible assumption)) | ((refine keep_cell ?_ (by with_reducible assumption)); go_grown; done) | (simp [go_sem, *]; done)), (by first | (with_reducible assumption) | (simp [go_sem]; done) | ((simp only [go_sem]); (with_reducible assumption)) | ((refine keep_cell ?_ (by with_reducible assumption)); go_grown; done) | (simp [go_sem, *]; done)), (by first | (with_reducible assumption) | (simp [go_sem]; done) | ((simp only [go_sem]); (with_reducible assumption)) | ((refine keep_cell ?_ (by with_reducible assumption)); go_grown; done) | (simp [go_sem, *]; done)), (by first | (with_reducible assumption) | (simp [go_sem]; done) | ((simp only [go_sem]); (with_reducible assumption)) | ((refine keep_cell ?_ (by with_reducible assumption)); go_grown; done) | (simp [go_sem, *]; done)), (by first | (with_reducible assumption) | (simp [go_sem]; done) | ((simp only [go_sem]); (with_reducible assumption)) | ((refine keep_cell ?_ (by with_reducible assumption)); go_grown; done) | (simp [go_sem, *]; done)), (by first | (with_reducible assumption) | (simp [go_sem]; done) | ((simp only [go_sem]); (with_reducible assumption)) | ((refine keep_cell ?_ (by with_reducible assumption)); go_grown; done) | (simp [go_sem, *]; done)), (by go_grown)⟩)) hb⟩
      (try clear hS)
      have hS := hT
      clear hT
      have hB := hS.2.2.2.2.2.2.2.2.2.2.2.2.2.2.2.2.2.2.2
      have hzw : w.heap.size ≤ w65.heap.size := hB.size
      have hz1 : w63.heap.size < w65.heap.size := World.block_lt_of_cell? w65 _ (hS.2.1)
      have hz2 : w61.heap.size < w65.heap.size := World.block_lt_of_cell? w65 _ (hS.2.2.2.1)
      have hz3 : w7.heap.size < w65.heap.size := World.block_lt_of_cell? w65 _ (hS.2.2.2.2.2.1)
      have hz4 : w3.heap.size < w65.heap.size := World.block_lt_of_cell? w65 _ (hS.2.2.2.2.2.2.2.2.1)
      have hz5 : w1.heap.size < w65.heap.size := World.block_lt_of_cell? w65 _ (hS.2.2.2.2.2.2.2.2.2.2.2.1)
      have hz6 : U < w65.heap.size := World.block_lt_of_cell? w65 _ (hS.2.2.2.2.2.2.2.2.2.2.2.2.2.1)
      have hz7 : V < w65.heap.size := World.block_lt_of_cell? w65 _ (hS.2.2.2.2.2.2.2.2.2.2.2.2.2.2.2.2.1)
      clear hb
      obtain ⟨g9, hA9, hg90, hg91⟩ := own_at (hS.1) (by omega)
      subst hA9
      obtain ⟨ux, uy⟩ := own_pt (l := [(x, y)]) (hS.1) (k := 0) (by simp)
      have hS5 : w65.cell? ⟨g9, 0, none⟩ = some (.int .i64 x) ∧ w65.cell? ⟨g9, 1, none⟩ = some (.int .i64 y) ∧ w65.cell? ⟨w63.heap.size, 0, none⟩ = some (.int .i64 x) ∧ w65.cell? ⟨w63.heap.size, 1, none⟩ = some (.int .i64 y) ∧ w65.cell? ⟨w61.heap.size, 0, none⟩ = some (.int .i64 x) ∧ w65.cell? ⟨w61.heap.size, 1, none⟩ = some (.int .i64 y) ∧ w65.cell? ⟨w1.heap.size, 0, none⟩ = some (.int .i64 x) ∧ w65.cell? ⟨w1.heap.size, 1, none⟩ = some (.int .i64 y) ∧ Below w.heap.size w w65 := ⟨ux, uy, hS.2.1, hS.2.2.1, hS.2.2.2.1, hS.2.2.2.2.1, hS.2.2.2.2.2.2.2.2.2.2.2.1, hS.2.2.2.2.2.2.2.2.2.2.2.2.1, hS.2.2.2.2.2.2.2.2.2.2.2.2.2.2.2.2.2.2.2⟩
      clear hS
      have hS := hS5
      clear hS5
      go_wp2
      refine wp_region_det (fun w' => w'.cell? ⟨g9, 0, none⟩ = some (.int .i64 x) ∧ w'.cell? ⟨g9, 1, none⟩ = some (.int .i64 y) ∧ w'.cell? ⟨w63.heap.size, 0, none⟩ = some (.int .i64 x) ∧ w'.cell? ⟨w63.heap.size, 1, none⟩ = some (.int .i64 y) ∧ w'.cell? ⟨w61.heap.size, 0, none⟩ = some (.int .i64 x) ∧ w'.cell? ⟨w61.heap.size, 1, none⟩ = some (.int .i64 y) ∧ w'.cell? ⟨w1.heap.size, 0, none⟩ = some (.int .i64 x) ∧ w'.cell? ⟨w1.heap.size, 1, none⟩ = some (.int .i64 y) ∧ Below w.heap.size w w') (by kernel_rfl) (by kernel_rfl) (by first | (with_reducible assumption) | (exact hS) | (exact ⟨hS.1, hS.2.1, hS.2.2.1, hS.2.2.2.1, hS.2.2.2.2.1, hS.2.2.2.2.2.1, hS.2.2.2.2.2.2.1, hS.2.2.2.2.2.2.2.1, (by go_grown)⟩) | (exact ⟨(by first | (with_reducible assumption) | (simp [go_sem]; done) | ((simp only [go_sem]); (with_reducible assumption)) | ((refine keep_cell ?_ (by with_reducible assumption)); go_grown; done) | (simp [go_sem, *]; done)), (by first | (with_reducible assumption) | (simp [go_sem]; done) | ((simp only [go_sem]); (with_reducible assumption)) | ((refine keep_cell ?_ (by with_reducible assumption)); go_grown; done) | (simp [go_sem, *]; done)), (by first | (with_reducible assumption) | (simp [go_sem]; done) | ((simp only [go_sem]); (with_reducible assumption)) | ((refine keep_cell ?_ (by with_reducible assumption)); go_grown; done) | (simp [go_sem, *]; done)), (by first | (with_reducible assumption) | (simp [go_sem]; done) | ((simp only [go_sem]); (with_reducible assumption)) | ((refine keep_cell ?_ (by with_reducible assumption)); go_grown; done) | (simp [go_sem, *]; done)), (by first | (with_reducible assumption) | (simp [go_sem]; done) | ((simp only [go_sem]); (with_reducible assumption)) | ((refine keep_cell ?_ (by with_reducible assumption)); go_grown; done) | (simp [go_sem, *]; done)), (by first | (with_reducible assumption) | (simp [go_sem]; done) | ((simp only [go_sem]); (with_reducible assumption)) | ((refine keep_cell ?_ (by with_reducible assumption)); go_grown; done) | (simp [go_sem, *]; done)), (by first | (with_reducible assumption) | (simp [go_sem]; done) | ((simp only [go_sem]); (with_reducible assumption)) | ((refine keep_cell ?_ (by with_reducible assumption)); go_grown; done) | (simp [go_sem, *]; done)), (by first | (with_reducible assumption) | (simp [go_sem]; done) | ((simp only [go_sem]); (with_reducible assumption)) | ((refine keep_cell ?_ (by with_reducible assumption)); go_grown; done) | (simp [go_sem, *]; done)), (by go_grown)⟩)) ?_
      repeat (first
        | ((refine wpDet_skip (by rfl) ?_); simp only [Act.put, List.setIfInBounds_toArray, List.set_cons_zero, List.set_cons_succ])
        | ((refine wpDet_val (v := ?_) (by rfl) (fun w hS => ?_) ?_); rotate_left; (focus ((try dsimp only at hS); go_simp; (try (with_reducible rfl)); done)); simp only [Act.put, List.setIfInBounds_toArray, List.set_cons_zero, List.set_cons_succ]))
      refine wpDet_nil ?_
      intro wz hS
      have hT : wz.cell? ⟨g9, 0, none⟩ = some (.int .i64 x) ∧ wz.cell? ⟨g9, 1, none⟩ = some (.int .i64 y) ∧ wz.cell? ⟨w63.heap.size, 0, none⟩ = some (.int .i64 x) ∧ wz.cell? ⟨w63.heap.size, 1, none⟩ = some (.int .i64 y) ∧ wz.cell? ⟨w61.heap.size, 0, none⟩ = some (.int .i64 x) ∧ wz.cell? ⟨w61.heap.size, 1, none⟩ = some (.int .i64 y) ∧ wz.cell? ⟨w1.heap.size, 0, none⟩ = some (.int .i64 x) ∧ wz.cell? ⟨w1.heap.size, 1, none⟩ = some (.int .i64 y) ∧ Below w.heap.size w wz := hS
      clear hS
      have hS := hT
      obtain ⟨c0, c1, c2, c3, c4, c5, c6, c7, hB⟩ := hT
      have hzw : w.heap.size ≤ wz.heap.size := hB.size
      have hz1 : g9 < wz.heap.size := World.block_lt_of_cell? wz _ (hS.1)
      have hz2 : w63.heap.size < wz.heap.size := World.block_lt_of_cell? wz _ (hS.2.2.1)
      have hz3 : w61.heap.size < wz.heap.size := World.block_lt_of_cell? wz _ (hS.2.2.2.2.1)
      have hz4 : w1.heap.size < wz.heap.size := World.block_lt_of_cell? wz _ (hS.2.2.2.2.2.2.1)
      go_wp2_with fail
      go_meet
      case rel => go_grown
    · simp only [Bool.not_false, Bool.not_true, s0, s1, hA9, hB9, hA8, hB8] at e1 e2 e3 f1 f2 f3
      subst e1 e2 e3
      obtain ⟨f10, f11, f12⟩ := f1
      obtain ⟨f20, f21⟩ := f2
      obtain ⟨f30, f31, f32⟩ := f3
      have g1 := rof_of (o := false) hv (show x % szOf false = A9 from hA9) (show y % szOf false = B9 from hB9)
      have HC := hide (fun W : World => reportOf_c x y false W)
      rw [g1.1, g1.2.1, g1.2.2, hv] at HC
      have HD := hide (fun W : World => decodePair_c false A9 B9 true RA RB W)
      rw [f30, f31, f32] at HD
      have HE := hide (fun W : World => decodeNear_c true RA RB x y W)
      rw [f10, f11, f12] at HE
      have HM := hide (fun W : World => DecodeMoved_c true RA RB false A9 B9 0 W)
      rw [f20, f21] at HM
      clear g1 f10 f11 f12 f20 f21 f30 f31 f32 hv hA9 hB9 hA8 hB8 s0 s1
      go_wp2_with fail
      refine (HC.out _).mono ?_
      rintro e w7 ⟨rfl, hb⟩
      have hT : w7.cell? ⟨w5.heap.size, 0, none⟩ = some (.bool true) ∧ w7.cell? ⟨w5.heap.size, 1, none⟩ = some (.int .i64 RA) ∧ w7.cell? ⟨w5.heap.size, 2, none⟩ = some (.int .i64 RB) ∧ w7.cell? ⟨w3.heap.size, 0, none⟩ = some (.bool true) ∧ w7.cell? ⟨w3.heap.size, 1, none⟩ = some (.int .i64 RA) ∧ w7.cell? ⟨w3.heap.size, 2, none⟩ = some (.int .i64 RB) ∧ w7.cell? ⟨w1.heap.size, 0, none⟩ = some (.int .i64 x) ∧ w7.cell? ⟨w1.heap.size, 1, none⟩ = some (.int .i64 y) ∧ Below w.heap.size w w7 := (fun W h hb => ⟨keep_cell (hb) h.1, keep_cell (hb) h.2.1, keep_cell (hb) h.2.2.1, keep_cell (hb) h.2.2.2.1, keep_cell (hb) h.2.2.2.2.1, keep_cell (hb) h.2.2.2.2.2.1, keep_cell (hb) h.2.2.2.2.2.2.1, keep_cell (hb) h.2.2.2.2.2.2.2.1, below_via h.2.2.2.2.2.2.2.2 (hb)⟩ : ∀ W : World, (W.cell? ⟨w5.heap.size, 0, none⟩ = some (.bool true) ∧ W.cell? ⟨w5.heap.size, 1, none⟩ = some (.int .i64 RA) ∧ W.cell? ⟨w5.heap.size, 2, none⟩ = some (.int .i64 RB) ∧ W.cell? ⟨w3.heap.size, 0, none⟩ = some (.bool true) ∧ W.cell? ⟨w3.heap.size, 1, none⟩ = some (.int .i64 RA) ∧ W.cell? ⟨w3.heap.size, 2, none⟩ = some (.int .i64 RB) ∧ W.cell? ⟨w1.heap.size, 0, none⟩ = some (.int .i64 x) ∧ W.cell? ⟨w1.heap.size, 1, none⟩ = some (.int .i64 y) ∧ Below w.heap.size w W) → Below W.heap.size W w7 → (w7.cell? ⟨w5.heap.size, 0, none⟩ = some (.bool true) ∧ w7.cell? ⟨w5.heap.size, 1, none⟩ = some (.int .i64 RA) ∧ w7.cell? ⟨w5.heap.size, 2, none⟩ = some (.int .i64 RB) ∧ w7.cell? ⟨w3.heap.size, 0, none⟩ = some (.bool true) ∧ w7.cell? ⟨w3.heap.size, 1, none⟩ = some (.int .i64 RA) ∧ w7.cell? ⟨w3.heap.size, 2, none⟩ = some (.int .i64 RB) ∧ w7.cell? ⟨w1.heap.size, 0, none⟩ = some (.int .i64 x) ∧ w7.cell? ⟨w1.heap.size, 1, none⟩ = some (.int .i64 y) ∧ Below w.heap.size w w7)) _ (by first | (with_reducible assumption) | (exact hS) | (exact ⟨hS.1, hS.2.1, hS.2.2.1, hS.2.2.2.1, hS.2.2.2.2.1, hS.2.2.2.2.2.1, hS.2.2.2.2.2.2.1, hS.2.2.2.2.2.2.2.1, (by go_grown)⟩) | (exact ⟨(by first | (with_reducible assumption) | (simp [go_sem]; done) | ((simp only [go_sem]); (with_reducible assumption)) | ((refine keep_cell ?_ (by with_reducible assumption)); go_grown; done) | (simp [go_sem, *]; done)), (by first | (with_reducible assumption) | (simp [go_sem]; done) | ((simp only [go_sem]); (with_reducible assumption)) | ((refine keep_cell ?_ (by with_reducible assumption)); go_grown; done) | (simp [go_sem, *]; done)), (by first | (with_reducible assumption) | (simp [go_sem]; done) | ((simp only [go_sem]); (with_reducible assumption)) | ((refine keep_cell ?_ (by with_reducible assumption)); go_grown; done) | (simp [go_sem, *]; done)), (by first | (with_reducible assumption) | (simp [go_sem]; done) | ((simp only [go_sem]); (with_reducible assumption)) | ((refine keep_cell ?_ (by with_reducible assumption)); go_grown; done) | (simp [go_sem, *]; done)), (by first | (with_reducible assumption) | (simp [go_sem]; done) | ((simp only [go_sem]); (with_reducible assumption)) | ((refine keep_cell ?_ (by with_reducible assumption)); go_grown; done) | (simp [go_sem, *]; done)), (by first | (with_reducible assumption) | (simp [go_sem]; done) | ((simp only [go_sem]); (with_reducible assumption)) | ((refine keep_cell ?_ (by with_reducible assumption)); go_grown; done) | (simp [go_sem, *]; done)), (by first | (with_reducible assumption) | (simp [go_sem]; done) | ((simp only [go_sem]); (with_reducible assumption)) | ((refine keep_cell ?_ (by with_reducible assumption)); go_grown; done) | (simp [go_sem, *]; done)), (by first | (with_reducible assumption) | (simp [go_sem]; done) | ((simp only [go_sem]); (with_reducible assumption)) | ((refine keep_cell ?_ (by with_reducible assumption)); go_grown; done) | (simp [go_sem, *]; done)), (by go_grown)⟩)) hb
      (try clear hS)
      have hS := hT
      clear hT
      have hB := hS.2.2.2.2.2.2.2.2
      have hzw : w.heap.size ≤ w7.heap.size := hB.size
      have hz1 : w5.heap.size < w7.heap.size := World.block_lt_of_cell? w7 _ (hS.1)
      have hz2 : w3.heap.size < w7.heap.size := World.block_lt_of_cell? w7 _ (hS.2.2.2.1)
      have hz3 : w1.heap.size < w7.heap.size := World.block_lt_of_cell? w7 _ (hS.2.2.2.2.2.2.1)
      clear hb
      have hzTS : w.heap.size ≤ w7.heap.size := hzw
      go_upto_region 10 with fail
      obtain ⟨w8, hww8⟩ : ∃ W, W = w7.alloc (.cells #[.bool false, .int .i64 A9, .int .i64 B9] 31) := ⟨_, rfl⟩
      have hT : w8.cell? ⟨w7.heap.size, 0, none⟩ = some (.bool false) ∧ w8.cell? ⟨w7.heap.size, 1, none⟩ = some (.int .i64 A9) ∧ w8.cell? ⟨w7.heap.size, 2, none⟩ = some (.int .i64 B9) ∧ w8.cell? ⟨w5.heap.size, 0, none⟩ = some (.bool true) ∧ w8.cell? ⟨w5.heap.size, 1, none⟩ = some (.int .i64 RA) ∧ w8.cell? ⟨w5.heap.size, 2, none⟩ = some (.int .i64 RB) ∧ w8.cell? ⟨w3.heap.size, 0, none⟩ = some (.bool true) ∧ w8.cell? ⟨w3.heap.size, 1, none⟩ = some (.int .i64 RA) ∧ w8.cell? ⟨w3.heap.size, 2, none⟩ = some (.int .i64 RB) ∧ w8.cell? ⟨w1.heap.size, 0, none⟩ = some (.int .i64 x) ∧ w8.cell? ⟨w1.heap.size, 1, none⟩ = some (.int .i64 y) ∧ Below w.heap.size w w8 := by
        rw [hww8]
        exact ⟨by simp [go_sem], by simp [go_sem], by simp [go_sem], keep_cell (by go_grown) hS.1, keep_cell (by go_grown) hS.2.1, keep_cell (by go_grown) hS.2.2.1, keep_cell (by go_grown) hS.2.2.2.1, keep_cell (by go_grown) hS.2.2.2.2.1, keep_cell (by go_grown) hS.2.2.2.2.2.1, keep_cell (by go_grown) hS.2.2.2.2.2.2.1, keep_cell (by go_grown) hS.2.2.2.2.2.2.2.1, below_via hS.2.2.2.2.2.2.2.2 (by go_grown)⟩
      rw [← hww8]
      clear hS hww8
      have hS := hT
      clear hT
      (try clear hB hzw)
      have hB := hS.2.2.2.2.2.2.2.2.2.2.2
      have hzw : w.heap.size ≤ w8.heap.size := hB.size
      have hz1 : w7.heap.size < w8.heap.size := World.block_lt_of_cell? w8 _ (hS.1)
      have hz2 : w5.heap.size < w8.heap.size := World.block_lt_of_cell? w8 _ (hS.2.2.2.1)
      have hz3 : w3.heap.size < w8.heap.size := World.block_lt_of_cell? w8 _ (hS.2.2.2.2.2.2.1)
      have hz4 : w1.heap.size < w8.heap.size := World.block_lt_of_cell? w8 _ (hS.2.2.2.2.2.2.2.2.2.1)
      have hS2 := hS
      obtain ⟨q0, q1, q2, q3, q4, q5, q6, q7, q8, q9, q10, hF⟩ := hS2
      have hzw : w.heap.size ≤ w8.heap.size := hF.size
      have hB := hF
      have hz1 : w7.heap.size < w8.heap.size := World.block_lt_of_cell? w8 _ q0
      have hz2 : w5.heap.size < w8.heap.size := World.block_lt_of_cell? w8 _ q3
      have hz3 : w3.heap.size < w8.heap.size := World.block_lt_of_cell? w8 _ q6
      have hz4 : w1.heap.size < w8.heap.size := World.block_lt_of_cell? w8 _ q9
      go_cut [11, 12] (fun s t wx => ∃ U V : Nat, s = .pointer (some ⟨U, 0, none⟩) ∧ t = .pointer (some ⟨V, 0, none⟩) ∧ (w7.heap.size < U ∧ w7.heap.size < V ∧ (U < V ∨ V < U) ∧ w.heap.size < U ∧ w.heap.size < V) ∧ (wx.cell? ⟨w7.heap.size, 0, none⟩ = some (.bool false) ∧ wx.cell? ⟨w7.heap.size, 1, none⟩ = some (.int .i64 A9) ∧ wx.cell? ⟨w7.heap.size, 2, none⟩ = some (.int .i64 B9) ∧ wx.cell? ⟨w3.heap.size, 0, none⟩ = some (.bool true) ∧ wx.cell? ⟨w3.heap.size, 1, none⟩ = some (.int .i64 RA) ∧ wx.cell? ⟨w3.heap.size, 2, none⟩ = some (.int .i64 RB) ∧ wx.cell? ⟨w1.heap.size, 0, none⟩ = some (.int .i64 x) ∧ wx.cell? ⟨w1.heap.size, 1, none⟩ = some (.int .i64 y) ∧ (U < wx.heap.size ∧ ∀ i, wx.frozen? ⟨U, i, none⟩ = false) ∧ wx.cell? ⟨U, 0, none⟩ = some (.bool true) ∧ wx.cell? ⟨U, 1, none⟩ = some (.int .i64 RA) ∧ wx.cell? ⟨U, 2, none⟩ = some (.int .i64 RB) ∧ (V < wx.heap.size ∧ ∀ i, wx.frozen? ⟨V, i, none⟩ = false) ∧ wx.cell? ⟨V, 0, none⟩ = some (.bool false) ∧ wx.cell? ⟨V, 1, none⟩ = some (.int .i64 A9) ∧ wx.cell? ⟨V, 2, none⟩ = some (.int .i64 B9) ∧ Below w.heap.size w wx))
      case first => as_aux_lemma =>
        refine wp_region_all (by kernel_rfl) ?_
        obtain ⟨w109, hwq⟩ : ∃ W, World.drew w8 = W := ⟨_, rfl⟩
        have hb : Below w8.heap.size w8 w109 := by rw [← hwq]; go_grown
        rw [hwq]
        have hT := ai (kc hb q0) <| ai (kc hb q1) <| ai (kc hb q2) <| ai (kc hb q3) <| ai (kc hb q4) <| ai (kc hb q5) <| ai (kc hb q6) <| ai (kc hb q7) <| ai (kc hb q8) <| ai (kc hb q9) <| ai (kc hb q10) <| below_via hF hb
        clear hS hb hwq
        have hS := hT
        clear hT
        have hS2 := hS
        obtain ⟨q0, q1, q2, q3, q4, q5, q6, q7, q8, q9, q10, hF⟩ := hS2
        have hzw : w.heap.size ≤ w109.heap.size := hF.size
        have hB := hF
        have hz1 : w7.heap.size < w109.heap.size := World.block_lt_of_cell? w109 _ q0
        have hz2 : w5.heap.size < w109.heap.size := World.block_lt_of_cell? w109 _ q3
        have hz3 : w3.heap.size < w109.heap.size := World.block_lt_of_cell? w109 _ q6
        have hz4 : w1.heap.size < w109.heap.size := World.block_lt_of_cell? w109 _ q9
        have HK9 := hide hS
        have hT : w109.cell? ⟨w3.heap.size, 0, none⟩ = some (.bool true) ∧ w109.cell? ⟨w3.heap.size, 1, none⟩ = some (.int .i64 RA) ∧ w109.cell? ⟨w3.heap.size, 2, none⟩ = some (.int .i64 RB) ∧ w109.cell? ⟨w7.heap.size, 0, none⟩ = some (.bool false) ∧ w109.cell? ⟨w7.heap.size, 1, none⟩ = some (.int .i64 A9) ∧ w109.cell? ⟨w7.heap.size, 2, none⟩ = some (.int .i64 B9) ∧ Below w109.heap.size w109 w109 ∧ Below w.heap.size w w109 := ⟨hS.2.2.2.2.2.2.1, hS.2.2.2.2.2.2.2.1, hS.2.2.2.2.2.2.2.2.1, hS.1, hS.2.1, hS.2.2.1, Below.refl _ _, hS.2.2.2.2.2.2.2.2.2.2.2⟩
        clear hS
        have hS := hT
        clear hT
        have hS2 := hS
        obtain ⟨q0, q1, q2, q3, q4, q5, q6, hF⟩ := hS2
        have hzw : w.heap.size ≤ w109.heap.size := hF.size
        have hB := hF
        have hz1 : w3.heap.size < w109.heap.size := World.block_lt_of_cell? w109 _ q0
        have hz2 : w7.heap.size < w109.heap.size := World.block_lt_of_cell? w109 _ q3
        have hzk109 : w109.heap.size ≤ w109.heap.size := q6.size
        refine all_split 3 2 (by decide) ?_ ?_
        · refine all_seq_core [0, 1, 3, 2, 4, 5] (fun W => W.cell? ⟨w3.heap.size, 0, none⟩ = some (.bool true) ∧ W.cell? ⟨w3.heap.size, 1, none⟩ = some (.int .i64 RA) ∧ W.cell? ⟨w3.heap.size, 2, none⟩ = some (.int .i64 RB) ∧ W.cell? ⟨w7.heap.size, 0, none⟩ = some (.bool false) ∧ W.cell? ⟨w7.heap.size, 1, none⟩ = some (.int .i64 A9) ∧ W.cell? ⟨w7.heap.size, 2, none⟩ = some (.int .i64 B9) ∧ Below w.heap.size w W) (addE_core 3 2 _) (by kernel_rfl) ⟨hS.1, hS.2.1, hS.2.2.1, hS.2.2.2.1, hS.2.2.2.2.1, hS.2.2.2.2.2.1, hS.2.2.2.2.2.2.2⟩ ?_
          simp only [byNum, List.getElem?_cons_zero, List.getElem?_cons_succ]
          repeat (first
            | ((refine seq_skip (by rfl) (by rfl) ?_); simp only [Act.put, List.setIfInBounds_toArray, List.set_cons_zero, List.set_cons_succ])
            | ((refine seq_val (v := ?_) (by rfl) (by rfl) (fun w hS => ?_) ?_); rotate_left; (focus ((try dsimp only at hS); go_simp; (try (with_reducible rfl)); done)); simp only [Act.put, List.setIfInBounds_toArray, List.set_cons_zero, List.set_cons_succ]))
          refine seq_deed (v := ?_) (w' := ?_) (by rfl) (by rfl) ?_ ?_
          rotate_left
          rotate_left
          focus (go_simp; (constructor <;> (with_reducible rfl)); done)
          generalize hgw110 : World.alloc w109 _ = w110
          have hb : Below w109.heap.size w109 w110 := by rw [← hgw110]; go_grown
          obtain ⟨n9, n0, n1, n2⟩ := al3 hgw110
          have hT := ai (kc hb q0) <| ai (kc hb q1) <| ai (kc hb q2) <| ai (kc hb q3) <| ai (kc hb q4) <| ai (kc hb q5) <| ai (below_via q6 hb) <| ai (n9) <| ai (n0) <| ai (n1) <| ai (n2) <| below_via (hS.2.2.2.2.2.2.2) hb
          clear n9 n0 n1 n2
          clear hS hb hgw110
          have hS := hT
          clear hT
          have hS2 := hS
          obtain ⟨q0, q1, q2, q3, q4, q5, q6, ⟨f7, fr7⟩, q8, q9, q10, hF⟩ := hS2
          have hzw : w.heap.size ≤ w110.heap.size := hF.size
          have hB := hF
          have hz1 : w3.heap.size < w110.heap.size := World.block_lt_of_cell? w110 _ q0
          have hz2 : w7.heap.size < w110.heap.size := World.block_lt_of_cell? w110 _ q3
          have hzk110 : w109.heap.size ≤ w110.heap.size := q6.size
          have hz3 : w109.heap.size < w110.heap.size := World.block_lt_of_cell? w110 _ q8
          refine ⟨(fun W => W.cell? ⟨w3.heap.size, 0, none⟩ = some (.bool true) ∧ W.cell? ⟨w3.heap.size, 1, none⟩ = some (.int .i64 RA) ∧ W.cell? ⟨w3.heap.size, 2, none⟩ = some (.int .i64 RB) ∧ W.cell? ⟨w7.heap.size, 0, none⟩ = some (.bool false) ∧ W.cell? ⟨w7.heap.size, 1, none⟩ = some (.int .i64 A9) ∧ W.cell? ⟨w7.heap.size, 2, none⟩ = some (.int .i64 B9) ∧ Below w.heap.size w W), ⟨hS.1, hS.2.1, hS.2.2.1, hS.2.2.2.1, hS.2.2.2.2.1, hS.2.2.2.2.2.1, hS.2.2.2.2.2.2.2.2.2.2.2⟩, (fun W h => h), ?_⟩
          simp only [Act.put, List.setIfInBounds_toArray, List.set_cons_zero, List.set_cons_succ]
          repeat (first
            | ((refine seq_skip (by rfl) (by rfl) ?_); simp only [Act.put, List.setIfInBounds_toArray, List.set_cons_zero, List.set_cons_succ])
            | ((refine seq_val (v := ?_) (by rfl) (by rfl) (fun w hS => ?_) ?_); rotate_left; (focus ((try dsimp only at hS); go_simp; (try (with_reducible rfl)); done)); simp only [Act.put, List.setIfInBounds_toArray, List.set_cons_zero, List.set_cons_succ]))
          refine seq_deed (v := ?_) (w' := ?_) (by rfl) (by rfl) ?_ ?_
          rotate_left
          rotate_left
          focus (go_simp; (constructor <;> (with_reducible rfl)); done)
          generalize hgw111 : World.alloc w110 _ = w111
          have hb : Below w110.heap.size w110 w111 := by rw [← hgw111]; go_grown
          obtain ⟨n9, n0, n1, n2⟩ := al3 hgw111
          have hT := ai (kc hb q0) <| ai (kc hb q1) <| ai (kc hb q2) <| ai (kc hb q3) <| ai (kc hb q4) <| ai (kc hb q5) <| ai (below_via q6 hb) <| ai (kf hb f7 fr7) <| ai (kc hb q8) <| ai (kc hb q9) <| ai (kc hb q10) <| ai (n9) <| ai (n0) <| ai (n1) <| ai (n2) <| below_via (hS.2.2.2.2.2.2.2.2.2.2.2) hb
          clear n9 n0 n1 n2
          clear hS hb hgw111
          have hS := hT
          clear hT
          have hS2 := hS
          obtain ⟨q0, q1, q2, q3, q4, q5, q6, ⟨f7, fr7⟩, q8, q9, q10, ⟨f11, fr11⟩, q12, q13, q14, hF⟩ := hS2
          have hzw : w.heap.size ≤ w111.heap.size := hF.size
          have hB := hF
          have hz1 : w3.heap.size < w111.heap.size := World.block_lt_of_cell? w111 _ q0
          have hz2 : w7.heap.size < w111.heap.size := World.block_lt_of_cell? w111 _ q3
          have hzk111 : w109.heap.size ≤ w111.heap.size := q6.size
          have hz3 : w109.heap.size < w111.heap.size := World.block_lt_of_cell? w111 _ q8
          have hz4 : w110.heap.size < w111.heap.size := World.block_lt_of_cell? w111 _ q12
          refine ⟨(fun W => W.cell? ⟨w3.heap.size, 0, none⟩ = some (.bool true) ∧ W.cell? ⟨w3.heap.size, 1, none⟩ = some (.int .i64 RA) ∧ W.cell? ⟨w3.heap.size, 2, none⟩ = some (.int .i64 RB) ∧ W.cell? ⟨w7.heap.size, 0, none⟩ = some (.bool false) ∧ W.cell? ⟨w7.heap.size, 1, none⟩ = some (.int .i64 A9) ∧ W.cell? ⟨w7.heap.size, 2, none⟩ = some (.int .i64 B9) ∧ Below w.heap.size w W), ⟨hS.1, hS.2.1, hS.2.2.1, hS.2.2.2.1, hS.2.2.2.2.1, hS.2.2.2.2.2.1, hS.2.2.2.2.2.2.2.2.2.2.2.2.2.2.2⟩, (fun W h => h), ?_⟩
          simp only [Act.put, List.setIfInBounds_toArray, List.set_cons_zero, List.set_cons_succ]
          repeat (first
            | ((refine seq_skip (by rfl) (by rfl) ?_); simp only [Act.put, List.setIfInBounds_toArray, List.set_cons_zero, List.set_cons_succ])
            | ((refine seq_val (v := ?_) (by rfl) (by rfl) (fun w hS => ?_) ?_); rotate_left; (focus ((try dsimp only at hS); go_simp; (try (with_reducible rfl)); done)); simp only [Act.put, List.setIfInBounds_toArray, List.set_cons_zero, List.set_cons_succ]))
          obtain ⟨w112, hw112⟩ : ∃ W, W = ((w111.setCell ⟨w110.heap.size, 0, none⟩ (.bool true)).setCell ⟨w110.heap.size, 1, none⟩ (.int .i64 RA)).setCell ⟨w110.heap.size, 2, none⟩ (.int .i64 RB) := ⟨_, rfl⟩
          obtain ⟨dd0, dd1, dd2, dd3, dd4⟩ := box3_sets q12 q13 q14 (.bool true) (.int .i64 RA) (.int .i64 RB)
          refine seq_store (w' := w112) (by rfl) (by rfl) (by rw [hw112]; go_simp; (try (with_reducible rfl)); done) ?_
          obtain ⟨dw0, dw1, dw2⟩ := s3w hw112 q12 q13 q14
          have hT := ai (s3o hw112 (by omega) q0) <| ai (s3o hw112 (by omega) q1) <| ai (s3o hw112 (by omega) q2) <| ai (s3o hw112 (by omega) q3) <| ai (s3o hw112 (by omega) q4) <| ai (s3o hw112 (by omega) q5) <| ai (s3b hw112 (by omega) q6) <| ai (s3f hw112 f7 fr7) <| ai (s3o hw112 (by omega) q8) <| ai (s3o hw112 (by omega) q9) <| ai (s3o hw112 (by omega) q10) <| ai (s3f hw112 f11 fr11) <| ai (dw0) <| ai (dw1) <| ai (dw2) <| s3b hw112 (by omega) hF
          clear dw0 dw1 dw2
          (try clear hS)
          have hS := hT
          clear hT dd0 dd1 dd2 dd3 dd4 hw112
          have hS2 := hS
          obtain ⟨q0, q1, q2, q3, q4, q5, q6, ⟨f7, fr7⟩, q8, q9, q10, ⟨f11, fr11⟩, q12, q13, q14, hF⟩ := hS2
          have hzw : w.heap.size ≤ w112.heap.size := hF.size
          have hB := hF
          have hz1 : w3.heap.size < w112.heap.size := World.block_lt_of_cell? w112 _ q0
          have hz2 : w7.heap.size < w112.heap.size := World.block_lt_of_cell? w112 _ q3
          have hzk112 : w109.heap.size ≤ w112.heap.size := q6.size
          have hz3 : w109.heap.size < w112.heap.size := World.block_lt_of_cell? w112 _ q8
          have hz4 : w110.heap.size < w112.heap.size := World.block_lt_of_cell? w112 _ q12
          refine ⟨(fun W => W.cell? ⟨w3.heap.size, 0, none⟩ = some (.bool true) ∧ W.cell? ⟨w3.heap.size, 1, none⟩ = some (.int .i64 RA) ∧ W.cell? ⟨w3.heap.size, 2, none⟩ = some (.int .i64 RB) ∧ W.cell? ⟨w7.heap.size, 0, none⟩ = some (.bool false) ∧ W.cell? ⟨w7.heap.size, 1, none⟩ = some (.int .i64 A9) ∧ W.cell? ⟨w7.heap.size, 2, none⟩ = some (.int .i64 B9) ∧ Below w.heap.size w W), ⟨hS.1, hS.2.1, hS.2.2.1, hS.2.2.2.1, hS.2.2.2.2.1, hS.2.2.2.2.2.1, hS.2.2.2.2.2.2.2.2.2.2.2.2.2.2.2⟩, (fun W h => h), ?_⟩
          simp only [Act.put, List.setIfInBounds_toArray, List.set_cons_zero, List.set_cons_succ]
          repeat (first
            | ((refine seq_skip (by rfl) (by rfl) ?_); simp only [Act.put, List.setIfInBounds_toArray, List.set_cons_zero, List.set_cons_succ])
            | ((refine seq_val (v := ?_) (by rfl) (by rfl) (fun w hS => ?_) ?_); rotate_left; (focus ((try dsimp only at hS); go_simp; (try (with_reducible rfl)); done)); simp only [Act.put, List.setIfInBounds_toArray, List.set_cons_zero, List.set_cons_succ]))
          obtain ⟨w113, hw113⟩ : ∃ W, W = ((w112.setCell ⟨w109.heap.size, 0, none⟩ (.bool false)).setCell ⟨w109.heap.size, 1, none⟩ (.int .i64 A9)).setCell ⟨w109.heap.size, 2, none⟩ (.int .i64 B9) := ⟨_, rfl⟩
          obtain ⟨dd0, dd1, dd2, dd3, dd4⟩ := box3_sets q8 q9 q10 (.bool false) (.int .i64 A9) (.int .i64 B9)
          refine seq_store (w' := w113) (by rfl) (by rfl) (by rw [hw113]; go_simp; (try (with_reducible rfl)); done) ?_
          obtain ⟨dw0, dw1, dw2⟩ := s3w hw113 q8 q9 q10
          have hT := ai (s3o hw113 (by omega) q0) <| ai (s3o hw113 (by omega) q1) <| ai (s3o hw113 (by omega) q2) <| ai (s3o hw113 (by omega) q3) <| ai (s3o hw113 (by omega) q4) <| ai (s3o hw113 (by omega) q5) <| ai (s3b hw113 (by omega) q6) <| ai (s3f hw113 f7 fr7) <| ai (dw0) <| ai (dw1) <| ai (dw2) <| ai (s3f hw113 f11 fr11) <| ai (s3o hw113 (by omega) q12) <| ai (s3o hw113 (by omega) q13) <| ai (s3o hw113 (by omega) q14) <| s3b hw113 (by omega) hF
          clear dw0 dw1 dw2
          (try clear hS)
          have hS := hT
          clear hT dd0 dd1 dd2 dd3 dd4 hw113
          have hS2 := hS
          obtain ⟨q0, q1, q2, q3, q4, q5, q6, ⟨f7, fr7⟩, q8, q9, q10, ⟨f11, fr11⟩, q12, q13, q14, hF⟩ := hS2
          have hzw : w.heap.size ≤ w113.heap.size := hF.size
          have hB := hF
          have hz1 : w3.heap.size < w113.heap.size := World.block_lt_of_cell? w113 _ q0
          have hz2 : w7.heap.size < w113.heap.size := World.block_lt_of_cell? w113 _ q3
          have hzk113 : w109.heap.size ≤ w113.heap.size := q6.size
          have hz3 : w109.heap.size < w113.heap.size := World.block_lt_of_cell? w113 _ q8
          have hz4 : w110.heap.size < w113.heap.size := World.block_lt_of_cell? w113 _ q12
          refine ⟨(fun W => W.cell? ⟨w3.heap.size, 0, none⟩ = some (.bool true) ∧ W.cell? ⟨w3.heap.size, 1, none⟩ = some (.int .i64 RA) ∧ W.cell? ⟨w3.heap.size, 2, none⟩ = some (.int .i64 RB) ∧ W.cell? ⟨w7.heap.size, 0, none⟩ = some (.bool false) ∧ W.cell? ⟨w7.heap.size, 1, none⟩ = some (.int .i64 A9) ∧ W.cell? ⟨w7.heap.size, 2, none⟩ = some (.int .i64 B9) ∧ Below w.heap.size w W), ⟨hS.1, hS.2.1, hS.2.2.1, hS.2.2.2.1, hS.2.2.2.2.1, hS.2.2.2.2.2.1, hS.2.2.2.2.2.2.2.2.2.2.2.2.2.2.2⟩, (fun W h => h), ?_⟩
          simp only [Act.put, List.setIfInBounds_toArray, List.set_cons_zero, List.set_cons_succ]
          repeat (first
            | ((refine seq_skip (by rfl) (by rfl) ?_); simp only [Act.put, List.setIfInBounds_toArray, List.set_cons_zero, List.set_cons_succ])
            | ((refine seq_val (v := ?_) (by rfl) (by rfl) (fun w hS => ?_) ?_); rotate_left; (focus ((try dsimp only at hS); go_simp; (try (with_reducible rfl)); done)); simp only [Act.put, List.setIfInBounds_toArray, List.set_cons_zero, List.set_cons_succ]))
          refine seq_nil ?_
          go_wp2_with fail
          go_meet
          case rel => exact ⟨w110.heap.size, w109.heap.size, rfl, rfl, ⟨by omega, by omega, by omega, by omega, by omega⟩, hS.2.2.2.1, hS.2.2.2.2.1, hS.2.2.2.2.2.1, hS.1, hS.2.1, hS.2.2.1, kc (hS.2.2.2.2.2.2.1) (HK9.out.2.2.2.2.2.2.2.2.2.1), kc (hS.2.2.2.2.2.2.1) (HK9.out.2.2.2.2.2.2.2.2.2.2.1), hS.2.2.2.2.2.2.2.2.2.2.2.1, hS.2.2.2.2.2.2.2.2.2.2.2.2.1, hS.2.2.2.2.2.2.2.2.2.2.2.2.2.1, hS.2.2.2.2.2.2.2.2.2.2.2.2.2.2.1, hS.2.2.2.2.2.2.2.1, hS.2.2.2.2.2.2.2.2.1, hS.2.2.2.2.2.2.2.2.2.1, hS.2.2.2.2.2.2.2.2.2.2.1, hS.2.2.2.2.2.2.2.2.2.2.2.2.2.2.2⟩
        · refine all_seq_core [0, 1, 2, 3, 4, 5] (fun W => W.cell? ⟨w3.heap.size, 0, none⟩ = some (.bool true) ∧ W.cell? ⟨w3.heap.size, 1, none⟩ = some (.int .i64 RA) ∧ W.cell? ⟨w3.heap.size, 2, none⟩ = some (.int .i64 RB) ∧ W.cell? ⟨w7.heap.size, 0, none⟩ = some (.bool false) ∧ W.cell? ⟨w7.heap.size, 1, none⟩ = some (.int .i64 A9) ∧ W.cell? ⟨w7.heap.size, 2, none⟩ = some (.int .i64 B9) ∧ Below w.heap.size w W) (addE_core 2 3 _) (by kernel_rfl) ⟨hS.1, hS.2.1, hS.2.2.1, hS.2.2.2.1, hS.2.2.2.2.1, hS.2.2.2.2.2.1, hS.2.2.2.2.2.2.2⟩ ?_
          simp only [byNum, List.getElem?_cons_zero, List.getElem?_cons_succ]
          repeat (first
            | ((refine seq_skip (by rfl) (by rfl) ?_); simp only [Act.put, List.setIfInBounds_toArray, List.set_cons_zero, List.set_cons_succ])
            | ((refine seq_val (v := ?_) (by rfl) (by rfl) (fun w hS => ?_) ?_); rotate_left; (focus ((try dsimp only at hS); go_simp; (try (with_reducible rfl)); done)); simp only [Act.put, List.setIfInBounds_toArray, List.set_cons_zero, List.set_cons_succ]))
          refine seq_deed (v := ?_) (w' := ?_) (by rfl) (by rfl) ?_ ?_
          rotate_left
          rotate_left
          focus (go_simp; (constructor <;> (with_reducible rfl)); done)
          generalize hgw110 : World.alloc w109 _ = w110
          have hb : Below w109.heap.size w109 w110 := by rw [← hgw110]; go_grown
          obtain ⟨n9, n0, n1, n2⟩ := al3 hgw110
          have hT := ai (kc hb q0) <| ai (kc hb q1) <| ai (kc hb q2) <| ai (kc hb q3) <| ai (kc hb q4) <| ai (kc hb q5) <| ai (below_via q6 hb) <| ai (n9) <| ai (n0) <| ai (n1) <| ai (n2) <| below_via (hS.2.2.2.2.2.2.2) hb
          clear n9 n0 n1 n2
          clear hS hb hgw110
          have hS := hT
          clear hT
          have hS2 := hS
          obtain ⟨q0, q1, q2, q3, q4, q5, q6, ⟨f7, fr7⟩, q8, q9, q10, hF⟩ := hS2
          have hzw : w.heap.size ≤ w110.heap.size := hF.size
          have hB := hF
          have hz1 : w3.heap.size < w110.heap.size := World.block_lt_of_cell? w110 _ q0
          have hz2 : w7.heap.size < w110.heap.size := World.block_lt_of_cell? w110 _ q3
          have hzk110 : w109.heap.size ≤ w110.heap.size := q6.size
          have hz3 : w109.heap.size < w110.heap.size := World.block_lt_of_cell? w110 _ q8
          refine ⟨(fun W => W.cell? ⟨w3.heap.size, 0, none⟩ = some (.bool true) ∧ W.cell? ⟨w3.heap.size, 1, none⟩ = some (.int .i64 RA) ∧ W.cell? ⟨w3.heap.size, 2, none⟩ = some (.int .i64 RB) ∧ W.cell? ⟨w7.heap.size, 0, none⟩ = some (.bool false) ∧ W.cell? ⟨w7.heap.size, 1, none⟩ = some (.int .i64 A9) ∧ W.cell? ⟨w7.heap.size, 2, none⟩ = some (.int .i64 B9) ∧ Below w.heap.size w W), ⟨hS.1, hS.2.1, hS.2.2.1, hS.2.2.2.1, hS.2.2.2.2.1, hS.2.2.2.2.2.1, hS.2.2.2.2.2.2.2.2.2.2.2⟩, (fun W h => h), ?_⟩
          simp only [Act.put, List.setIfInBounds_toArray, List.set_cons_zero, List.set_cons_succ]
          repeat (first
            | ((refine seq_skip (by rfl) (by rfl) ?_); simp only [Act.put, List.setIfInBounds_toArray, List.set_cons_zero, List.set_cons_succ])
            | ((refine seq_val (v := ?_) (by rfl) (by rfl) (fun w hS => ?_) ?_); rotate_left; (focus ((try dsimp only at hS); go_simp; (try (with_reducible rfl)); done)); simp only [Act.put, List.setIfInBounds_toArray, List.set_cons_zero, List.set_cons_succ]))
          refine seq_deed (v := ?_) (w' := ?_) (by rfl) (by rfl) ?_ ?_
          rotate_left
          rotate_left
          focus (go_simp; (constructor <;> (with_reducible rfl)); done)
          generalize hgw111 : World.alloc w110 _ = w111
          have hb : Below w110.heap.size w110 w111 := by rw [← hgw111]; go_grown
          obtain ⟨n9, n0, n1, n2⟩ := al3 hgw111
          have hT := ai (kc hb q0) <| ai (kc hb q1) <| ai (kc hb q2) <| ai (kc hb q3) <| ai (kc hb q4) <| ai (kc hb q5) <| ai (below_via q6 hb) <| ai (kf hb f7 fr7) <| ai (kc hb q8) <| ai (kc hb q9) <| ai (kc hb q10) <| ai (n9) <| ai (n0) <| ai (n1) <| ai (n2) <| below_via (hS.2.2.2.2.2.2.2.2.2.2.2) hb
          clear n9 n0 n1 n2
          clear hS hb hgw111
          have hS := hT
          clear hT
          have hS2 := hS
          obtain ⟨q0, q1, q2, q3, q4, q5, q6, ⟨f7, fr7⟩, q8, q9, q10, ⟨f11, fr11⟩, q12, q13, q14, hF⟩ := hS2
          have hzw : w.heap.size ≤ w111.heap.size := hF.size
          have hB := hF
          have hz1 : w3.heap.size < w111.heap.size := World.block_lt_of_cell? w111 _ q0
          have hz2 : w7.heap.size < w111.heap.size := World.block_lt_of_cell? w111 _ q3
          have hzk111 : w109.heap.size ≤ w111.heap.size := q6.size
          have hz3 : w109.heap.size < w111.heap.size := World.block_lt_of_cell? w111 _ q8
          have hz4 : w110.heap.size < w111.heap.size := World.block_lt_of_cell? w111 _ q12
          refine ⟨(fun W => W.cell? ⟨w3.heap.size, 0, none⟩ = some (.bool true) ∧ W.cell? ⟨w3.heap.size, 1, none⟩ = some (.int .i64 RA) ∧ W.cell? ⟨w3.heap.size, 2, none⟩ = some (.int .i64 RB) ∧ W.cell? ⟨w7.heap.size, 0, none⟩ = some (.bool false) ∧ W.cell? ⟨w7.heap.size, 1, none⟩ = some (.int .i64 A9) ∧ W.cell? ⟨w7.heap.size, 2, none⟩ = some (.int .i64 B9) ∧ Below w.heap.size w W), ⟨hS.1, hS.2.1, hS.2.2.1, hS.2.2.2.1, hS.2.2.2.2.1, hS.2.2.2.2.2.1, hS.2.2.2.2.2.2.2.2.2.2.2.2.2.2.2⟩, (fun W h => h), ?_⟩
          simp only [Act.put, List.setIfInBounds_toArray, List.set_cons_zero, List.set_cons_succ]
          repeat (first
            | ((refine seq_skip (by rfl) (by rfl) ?_); simp only [Act.put, List.setIfInBounds_toArray, List.set_cons_zero, List.set_cons_succ])
            | ((refine seq_val (v := ?_) (by rfl) (by rfl) (fun w hS => ?_) ?_); rotate_left; (focus ((try dsimp only at hS); go_simp; (try (with_reducible rfl)); done)); simp only [Act.put, List.setIfInBounds_toArray, List.set_cons_zero, List.set_cons_succ]))
          obtain ⟨w112, hw112⟩ : ∃ W, W = ((w111.setCell ⟨w109.heap.size, 0, none⟩ (.bool true)).setCell ⟨w109.heap.size, 1, none⟩ (.int .i64 RA)).setCell ⟨w109.heap.size, 2, none⟩ (.int .i64 RB) := ⟨_, rfl⟩
          obtain ⟨dd0, dd1, dd2, dd3, dd4⟩ := box3_sets q8 q9 q10 (.bool true) (.int .i64 RA) (.int .i64 RB)
          refine seq_store (w' := w112) (by rfl) (by rfl) (by rw [hw112]; go_simp; (try (with_reducible rfl)); done) ?_
          obtain ⟨dw0, dw1, dw2⟩ := s3w hw112 q8 q9 q10
          have hT := ai (s3o hw112 (by omega) q0) <| ai (s3o hw112 (by omega) q1) <| ai (s3o hw112 (by omega) q2) <| ai (s3o hw112 (by omega) q3) <| ai (s3o hw112 (by omega) q4) <| ai (s3o hw112 (by omega) q5) <| ai (s3b hw112 (by omega) q6) <| ai (s3f hw112 f7 fr7) <| ai (dw0) <| ai (dw1) <| ai (dw2) <| ai (s3f hw112 f11 fr11) <| ai (s3o hw112 (by omega) q12) <| ai (s3o hw112 (by omega) q13) <| ai (s3o hw112 (by omega) q14) <| s3b hw112 (by omega) hF
          clear dw0 dw1 dw2
          (try clear hS)
          have hS := hT
          clear hT dd0 dd1 dd2 dd3 dd4 hw112
          have hS2 := hS
          obtain ⟨q0, q1, q2, q3, q4, q5, q6, ⟨f7, fr7⟩, q8, q9, q10, ⟨f11, fr11⟩, q12, q13, q14, hF⟩ := hS2
          have hzw : w.heap.size ≤ w112.heap.size := hF.size
          have hB := hF
          have hz1 : w3.heap.size < w112.heap.size := World.block_lt_of_cell? w112 _ q0
          have hz2 : w7.heap.size < w112.heap.size := World.block_lt_of_cell? w112 _ q3
          have hzk112 : w109.heap.size ≤ w112.heap.size := q6.size
          have hz3 : w109.heap.size < w112.heap.size := World.block_lt_of_cell? w112 _ q8
          have hz4 : w110.heap.size < w112.heap.size := World.block_lt_of_cell? w112 _ q12
          refine ⟨(fun W => W.cell? ⟨w3.heap.size, 0, none⟩ = some (.bool true) ∧ W.cell? ⟨w3.heap.size, 1, none⟩ = some (.int .i64 RA) ∧ W.cell? ⟨w3.heap.size, 2, none⟩ = some (.int .i64 RB) ∧ W.cell? ⟨w7.heap.size, 0, none⟩ = some (.bool false) ∧ W.cell? ⟨w7.heap.size, 1, none⟩ = some (.int .i64 A9) ∧ W.cell? ⟨w7.heap.size, 2, none⟩ = some (.int .i64 B9) ∧ Below w.heap.size w W), ⟨hS.1, hS.2.1, hS.2.2.1, hS.2.2.2.1, hS.2.2.2.2.1, hS.2.2.2.2.2.1, hS.2.2.2.2.2.2.2.2.2.2.2.2.2.2.2⟩, (fun W h => h), ?_⟩
          simp only [Act.put, List.setIfInBounds_toArray, List.set_cons_zero, List.set_cons_succ]
          repeat (first
            | ((refine seq_skip (by rfl) (by rfl) ?_); simp only [Act.put, List.setIfInBounds_toArray, List.set_cons_zero, List.set_cons_succ])
            | ((refine seq_val (v := ?_) (by rfl) (by rfl) (fun w hS => ?_) ?_); rotate_left; (focus ((try dsimp only at hS); go_simp; (try (with_reducible rfl)); done)); simp only [Act.put, List.setIfInBounds_toArray, List.set_cons_zero, List.set_cons_succ]))
          obtain ⟨w113, hw113⟩ : ∃ W, W = ((w112.setCell ⟨w110.heap.size, 0, none⟩ (.bool false)).setCell ⟨w110.heap.size, 1, none⟩ (.int .i64 A9)).setCell ⟨w110.heap.size, 2, none⟩ (.int .i64 B9) := ⟨_, rfl⟩
          obtain ⟨dd0, dd1, dd2, dd3, dd4⟩ := box3_sets q12 q13 q14 (.bool false) (.int .i64 A9) (.int .i64 B9)
          refine seq_store (w' := w113) (by rfl) (by rfl) (by rw [hw113]; go_simp; (try (with_reducible rfl)); done) ?_
          obtain ⟨dw0, dw1, dw2⟩ := s3w hw113 q12 q13 q14
          have hT := ai (s3o hw113 (by omega) q0) <| ai (s3o hw113 (by omega) q1) <| ai (s3o hw113 (by omega) q2) <| ai (s3o hw113 (by omega) q3) <| ai (s3o hw113 (by omega) q4) <| ai (s3o hw113 (by omega) q5) <| ai (s3b hw113 (by omega) q6) <| ai (s3f hw113 f7 fr7) <| ai (s3o hw113 (by omega) q8) <| ai (s3o hw113 (by omega) q9) <| ai (s3o hw113 (by omega) q10) <| ai (s3f hw113 f11 fr11) <| ai (dw0) <| ai (dw1) <| ai (dw2) <| s3b hw113 (by omega) hF
          clear dw0 dw1 dw2
          (try clear hS)
          have hS := hT
          clear hT dd0 dd1 dd2 dd3 dd4 hw113
          have hS2 := hS
          obtain ⟨q0, q1, q2, q3, q4, q5, q6, ⟨f7, fr7⟩, q8, q9, q10, ⟨f11, fr11⟩, q12, q13, q14, hF⟩ := hS2
          have hzw : w.heap.size ≤ w113.heap.size := hF.size
          have hB := hF
          have hz1 : w3.heap.size < w113.heap.size := World.block_lt_of_cell? w113 _ q0
          have hz2 : w7.heap.size < w113.heap.size := World.block_lt_of_cell? w113 _ q3
          have hzk113 : w109.heap.size ≤ w113.heap.size := q6.size
          have hz3 : w109.heap.size < w113.heap.size := World.block_lt_of_cell? w113 _ q8
          have hz4 : w110.heap.size < w113.heap.size := World.block_lt_of_cell? w113 _ q12
          refine ⟨(fun W => W.cell? ⟨w3.heap.size, 0, none⟩ = some (.bool true) ∧ W.cell? ⟨w3.heap.size, 1, none⟩ = some (.int .i64 RA) ∧ W.cell? ⟨w3.heap.size, 2, none⟩ = some (.int .i64 RB) ∧ W.cell? ⟨w7.heap.size, 0, none⟩ = some (.bool false) ∧ W.cell? ⟨w7.heap.size, 1, none⟩ = some (.int .i64 A9) ∧ W.cell? ⟨w7.heap.size, 2, none⟩ = some (.int .i64 B9) ∧ Below w.heap.size w W), ⟨hS.1, hS.2.1, hS.2.2.1, hS.2.2.2.1, hS.2.2.2.2.1, hS.2.2.2.2.2.1, hS.2.2.2.2.2.2.2.2.2.2.2.2.2.2.2⟩, (fun W h => h), ?_⟩
          simp only [Act.put, List.setIfInBounds_toArray, List.set_cons_zero, List.set_cons_succ]
          repeat (first
            | ((refine seq_skip (by rfl) (by rfl) ?_); simp only [Act.put, List.setIfInBounds_toArray, List.set_cons_zero, List.set_cons_succ])
            | ((refine seq_val (v := ?_) (by rfl) (by rfl) (fun w hS => ?_) ?_); rotate_left; (focus ((try dsimp only at hS); go_simp; (try (with_reducible rfl)); done)); simp only [Act.put, List.setIfInBounds_toArray, List.set_cons_zero, List.set_cons_succ]))
          refine seq_nil ?_
          go_wp2_with fail
          go_meet
          case rel => exact ⟨w109.heap.size, w110.heap.size, rfl, rfl, ⟨by omega, by omega, by omega, by omega, by omega⟩, hS.2.2.2.1, hS.2.2.2.2.1, hS.2.2.2.2.2.1, hS.1, hS.2.1, hS.2.2.1, kc (hS.2.2.2.2.2.2.1) (HK9.out.2.2.2.2.2.2.2.2.2.1), kc (hS.2.2.2.2.2.2.1) (HK9.out.2.2.2.2.2.2.2.2.2.2.1), hS.2.2.2.2.2.2.2.1, hS.2.2.2.2.2.2.2.2.1, hS.2.2.2.2.2.2.2.2.2.1, hS.2.2.2.2.2.2.2.2.2.2.1, hS.2.2.2.2.2.2.2.2.2.2.2.1, hS.2.2.2.2.2.2.2.2.2.2.2.2.1, hS.2.2.2.2.2.2.2.2.2.2.2.2.2.1, hS.2.2.2.2.2.2.2.2.2.2.2.2.2.2.1, hS.2.2.2.2.2.2.2.2.2.2.2.2.2.2.2⟩
      obtain ⟨U, V, rfl, rfl, ⟨hU1, hV1, hUV, hU9, hV9⟩, hS3⟩ := hcut
      (try clear hS)
      have hS := hS3
      clear hS3
      have hS2 := hS
      obtain ⟨q0, q1, q2, q3, q4, q5, q6, q7, ⟨f8, fr8⟩, q9, q10, q11, ⟨f12, fr12⟩, q13, q14, q15, hF⟩ := hS2
      have hzw : w.heap.size ≤ wc.heap.size := hF.size
      have hB := hF
      have hz1 : w7.heap.size < wc.heap.size := World.block_lt_of_cell? wc _ q0
      have hz2 : w3.heap.size < wc.heap.size := World.block_lt_of_cell? wc _ q3
      have hz3 : w1.heap.size < wc.heap.size := World.block_lt_of_cell? wc _ q6
      have hz4 : U < wc.heap.size := World.block_lt_of_cell? wc _ q9
      have hz5 : V < wc.heap.size := World.block_lt_of_cell? wc _ q13
      go_upto_region 13 with fail
      obtain ⟨w61, hw61⟩ : ∃ W, W = ((wc.setCell ⟨U, 0, none⟩ (.bool false)).setCell ⟨U, 1, none⟩ (.int .i64 A9)).setCell ⟨U, 2, none⟩ (.int .i64 B9) := ⟨_, rfl⟩
      obtain ⟨dd0, dd1, dd2, dd3, dd4⟩ := box3_sets q9 q10 q11 (.bool false) (.int .i64 A9) (.int .i64 B9)
      obtain ⟨dw0, dw1, dw2⟩ := s3w hw61 q9 q10 q11
      have hT := ai (s3o hw61 (by omega) q0) <| ai (s3o hw61 (by omega) q1) <| ai (s3o hw61 (by omega) q2) <| ai (s3o hw61 (by omega) q3) <| ai (s3o hw61 (by omega) q4) <| ai (s3o hw61 (by omega) q5) <| ai (s3o hw61 (by omega) q6) <| ai (s3o hw61 (by omega) q7) <| ai (s3f hw61 f8 fr8) <| ai (dw0) <| ai (dw1) <| ai (dw2) <| ai (s3f hw61 f12 fr12) <| ai (s3o hw61 (by omega) q13) <| ai (s3o hw61 (by omega) q14) <| ai (s3o hw61 (by omega) q15) <| s3b hw61 (by omega) hF
      clear dw0 dw1 dw2
      rw [← hw61]
      clear hS dd0 dd1 dd2 dd3 dd4 hw61
      have hS := hT
      clear hT
      have hS2 := hS
      obtain ⟨q0, q1, q2, q3, q4, q5, q6, q7, ⟨f8, fr8⟩, q9, q10, q11, ⟨f12, fr12⟩, q13, q14, q15, hF⟩ := hS2
      have hzw : w.heap.size ≤ w61.heap.size := hF.size
      have hB := hF
      have hz1 : w7.heap.size < w61.heap.size := World.block_lt_of_cell? w61 _ q0
      have hz2 : w3.heap.size < w61.heap.size := World.block_lt_of_cell? w61 _ q3
      have hz3 : w1.heap.size < w61.heap.size := World.block_lt_of_cell? w61 _ q6
      have hz4 : U < w61.heap.size := World.block_lt_of_cell? w61 _ q9
      have hz5 : V < w61.heap.size := World.block_lt_of_cell? w61 _ q13
      go_upto_region 14 with fail
      obtain ⟨w62, hw62⟩ : ∃ W, W = ((w61.setCell ⟨V, 0, none⟩ (.bool true)).setCell ⟨V, 1, none⟩ (.int .i64 RA)).setCell ⟨V, 2, none⟩ (.int .i64 RB) := ⟨_, rfl⟩
      obtain ⟨dd0, dd1, dd2, dd3, dd4⟩ := box3_sets q13 q14 q15 (.bool true) (.int .i64 RA) (.int .i64 RB)
      obtain ⟨dw0, dw1, dw2⟩ := s3w hw62 q13 q14 q15
      have hT := ai (s3o hw62 (by omega) q0) <| ai (s3o hw62 (by omega) q1) <| ai (s3o hw62 (by omega) q2) <| ai (s3o hw62 (by omega) q3) <| ai (s3o hw62 (by omega) q4) <| ai (s3o hw62 (by omega) q5) <| ai (s3o hw62 (by omega) q6) <| ai (s3o hw62 (by omega) q7) <| ai (s3f hw62 f8 fr8) <| ai (s3o hw62 (by omega) q9) <| ai (s3o hw62 (by omega) q10) <| ai (s3o hw62 (by omega) q11) <| ai (s3f hw62 f12 fr12) <| ai (dw0) <| ai (dw1) <| ai (dw2) <| s3b hw62 (by omega) hF
      clear dw0 dw1 dw2
      rw [← hw62]
      clear hS dd0 dd1 dd2 dd3 dd4 hw62
      have hS := hT
      clear hT
      have hS2 := hS
      obtain ⟨q0, q1, q2, q3, q4, q5, q6, q7, ⟨f8, fr8⟩, q9, q10, q11, ⟨f12, fr12⟩, q13, q14, q15, hF⟩ := hS2
      have hzw : w.heap.size ≤ w62.heap.size := hF.size
      have hB := hF
      have hz1 : w7.heap.size < w62.heap.size := World.block_lt_of_cell? w62 _ q0
      have hz2 : w3.heap.size < w62.heap.size := World.block_lt_of_cell? w62 _ q3
      have hz3 : w1.heap.size < w62.heap.size := World.block_lt_of_cell? w62 _ q6
      have hz4 : U < w62.heap.size := World.block_lt_of_cell? w62 _ q9
      have hz5 : V < w62.heap.size := World.block_lt_of_cell? w62 _ q13
      have hT : w62.cell? ⟨w7.heap.size, 0, none⟩ = some (.bool false) ∧ w62.cell? ⟨w7.heap.size, 1, none⟩ = some (.int .i64 A9) ∧ w62.cell? ⟨w7.heap.size, 2, none⟩ = some (.int .i64 B9) ∧ w62.cell? ⟨w3.heap.size, 0, none⟩ = some (.bool true) ∧ w62.cell? ⟨w3.heap.size, 1, none⟩ = some (.int .i64 RA) ∧ w62.cell? ⟨w3.heap.size, 2, none⟩ = some (.int .i64 RB) ∧ w62.cell? ⟨w1.heap.size, 0, none⟩ = some (.int .i64 x) ∧ w62.cell? ⟨w1.heap.size, 1, none⟩ = some (.int .i64 y) ∧ w62.cell? ⟨U, 0, none⟩ = some (.bool false) ∧ w62.cell? ⟨U, 1, none⟩ = some (.int .i64 A9) ∧ w62.cell? ⟨U, 2, none⟩ = some (.int .i64 B9) ∧ w62.cell? ⟨V, 0, none⟩ = some (.bool true) ∧ w62.cell? ⟨V, 1, none⟩ = some (.int .i64 RA) ∧ w62.cell? ⟨V, 2, none⟩ = some (.int .i64 RB) ∧ Below w.heap.size w w62 := ⟨hS.1, hS.2.1, hS.2.2.1, hS.2.2.2.1, hS.2.2.2.2.1, hS.2.2.2.2.2.1, hS.2.2.2.2.2.2.1, hS.2.2.2.2.2.2.2.1, hS.2.2.2.2.2.2.2.2.2.1, hS.2.2.2.2.2.2.2.2.2.2.1, hS.2.2.2.2.2.2.2.2.2.2.2.1, hS.2.2.2.2.2.2.2.2.2.2.2.2.2.1, hS.2.2.2.2.2.2.2.2.2.2.2.2.2.2.1, hS.2.2.2.2.2.2.2.2.2.2.2.2.2.2.2.1, hS.2.2.2.2.2.2.2.2.2.2.2.2.2.2.2.2⟩
      clear hS
      have hS := hT
      clear hT
      have hB := hS.2.2.2.2.2.2.2.2.2.2.2.2.2.2
      (try clear hzw)
      have hzw : w.heap.size ≤ w62.heap.size := hB.size
      have hz1 : w7.heap.size < w62.heap.size := World.block_lt_of_cell? w62 _ (hS.1)
      have hz2 : w3.heap.size < w62.heap.size := World.block_lt_of_cell? w62 _ (hS.2.2.2.1)
      have hz3 : w1.heap.size < w62.heap.size := World.block_lt_of_cell? w62 _ (hS.2.2.2.2.2.2.1)
      have hz4 : U < w62.heap.size := World.block_lt_of_cell? w62 _ (hS.2.2.2.2.2.2.2.2.1)
      have hz5 : V < w62.heap.size := World.block_lt_of_cell? w62 _ (hS.2.2.2.2.2.2.2.2.2.2.2.1)
      go_wp2_with fail
      refine (HD.out _).mono ?_
      rintro e w63 ⟨rfl, hb⟩
      have hT : w63.cell? ⟨w7.heap.size, 0, none⟩ = some (.bool false) ∧ w63.cell? ⟨w7.heap.size, 1, none⟩ = some (.int .i64 A9) ∧ w63.cell? ⟨w7.heap.size, 2, none⟩ = some (.int .i64 B9) ∧ w63.cell? ⟨w3.heap.size, 0, none⟩ = some (.bool true) ∧ w63.cell? ⟨w3.heap.size, 1, none⟩ = some (.int .i64 RA) ∧ w63.cell? ⟨w3.heap.size, 2, none⟩ = some (.int .i64 RB) ∧ w63.cell? ⟨w1.heap.size, 0, none⟩ = some (.int .i64 x) ∧ w63.cell? ⟨w1.heap.size, 1, none⟩ = some (.int .i64 y) ∧ w63.cell? ⟨U, 0, none⟩ = some (.bool false) ∧ w63.cell? ⟨U, 1, none⟩ = some (.int .i64 A9) ∧ w63.cell? ⟨U, 2, none⟩ = some (.int .i64 B9) ∧ w63.cell? ⟨V, 0, none⟩ = some (.bool true) ∧ w63.cell? ⟨V, 1, none⟩ = some (.int .i64 RA) ∧ w63.cell? ⟨V, 2, none⟩ = some (.int .i64 RB) ∧ Below w.heap.size w w63 := (fun W h hb => ⟨keep_cell (hb) h.1, keep_cell (hb) h.2.1, keep_cell (hb) h.2.2.1, keep_cell (hb) h.2.2.2.1, keep_cell (hb) h.2.2.2.2.1, keep_cell (hb) h.2.2.2.2.2.1, keep_cell (hb) h.2.2.2.2.2.2.1, keep_cell (hb) h.2.2.2.2.2.2.2.1, keep_cell (hb) h.2.2.2.2.2.2.2.2.1, keep_cell (hb) h.2.2.2.2.2.2.2.2.2.1, keep_cell (hb) h.2.2.2.2.2.2.2.2.2.2.1, keep_cell (hb) h.2.2.2.2.2.2.2.2.2.2.2.1, keep_cell (hb) h.2.2.2.2.2.2.2.2.2.2.2.2.1, keep_cell (hb) h.2.2.2.2.2.2.2.2.2.2.2.2.2.1, below_via h.2.2.2.2.2.2.2.2.2.2.2.2.2.2 (hb)⟩ : ∀ W : World, (W.cell? ⟨w7.heap.size, 0, none⟩ = some (.bool false) ∧ W.cell? ⟨w7.heap.size, 1, none⟩ = some (.int .i64 A9) ∧ W.cell? ⟨w7.heap.size, 2, none⟩ = some (.int .i64 B9) ∧ W.cell? ⟨w3.heap.size, 0, none⟩ = some (.bool true) ∧ W.cell? ⟨w3.heap.size, 1, none⟩ = some (.int .i64 RA) ∧ W.cell? ⟨w3.heap.size, 2, none⟩ = some (.int .i64 RB) ∧ W.cell? ⟨w1.heap.size, 0, none⟩ = some (.int .i64 x) ∧ W.cell? ⟨w1.heap.size, 1, none⟩ = some (.int .i64 y) ∧ W.cell? ⟨U, 0, none⟩ = some (.bool false) ∧ W.cell? ⟨U, 1, none⟩ = some (.int .i64 A9) ∧ W.cell? ⟨U, 2, none⟩ = some (.int .i64 B9) ∧ W.cell? ⟨V, 0, none⟩ = some (.bool true) ∧ W.cell? ⟨V, 1, none⟩ = some (.int .i64 RA) ∧ W.cell? ⟨V, 2, none⟩ = some (.int .i64 RB) ∧ Below w.heap.size w W) → Below W.heap.size W w63 → (w63.cell? ⟨w7.heap.size, 0, none⟩ = some (.bool false) ∧ w63.cell? ⟨w7.heap.size, 1, none⟩ = some (.int .i64 A9) ∧ w63.cell? ⟨w7.heap.size, 2, none⟩ = some (.int .i64 B9) ∧ w63.cell? ⟨w3.heap.size, 0, none⟩ = some (.bool true) ∧ w63.cell? ⟨w3.heap.size, 1, none⟩ = some (.int .i64 RA) ∧ w63.cell? ⟨w3.heap.size, 2, none⟩ = some (.int .i64 RB) ∧ w63.cell? ⟨w1.heap.size, 0, none⟩ = some (.int .i64 x) ∧ w63.cell? ⟨w1.heap.size, 1, none⟩ = some (.int .i64 y) ∧ w63.cell? ⟨U, 0, none⟩ = some (.bool false) ∧ w63.cell? ⟨U, 1, none⟩ = some (.int .i64 A9) ∧ w63.cell? ⟨U, 2, none⟩ = some (.int .i64 B9) ∧ w63.cell? ⟨V, 0, none⟩ = some (.bool true) ∧ w63.cell? ⟨V, 1, none⟩ = some (.int .i64 RA) ∧ w63.cell? ⟨V, 2, none⟩ = some (.int .i64 RB) ∧ Below w.heap.size w w63)) _ (by first | (with_reducible assumption) | (exact hS) | (exact ⟨hS.1, hS.2.1, hS.2.2.1, hS.2.2.2.1, hS.2.2.2.2.1, hS.2.2.2.2.2.1, hS.2.2.2.2.2.2.1, hS.2.2.2.2.2.2.2.1, hS.2.2.2.2.2.2.2.2.1, hS.2.2.2.2.2.2.2.2.2.1, hS.2.2.2.2.2.2.2.2.2.2.1, hS.2.2.2.2.2.2.2.2.2.2.2.1, hS.2.2.2.2.2.2.2.2.2.2.2.2.1, hS.2.2.2.2.2.2.2.2.2.2.2.2.2.1, (by go_grown)⟩) | (exact ⟨(by first | (with_reducible assumption) | (simp [go_sem]; done) | ((simp only [go_sem]); (with_reducible assumption)) | ((refine keep_cell ?_ (by with_reducible assumption)); go_grown; done) | (simp [go_sem, *]; done)), (by first | (with_reducible assumption) | (simp [go_sem]; done) | ((simp only [go_sem]); (with_reducible assumption)) | ((refine keep_cell ?_ (by with_reducible assumption)); go_grown; done) | (simp [go_sem, *]; done)), (by first | (with_reducible assumption) | (simp [go_sem]; done) | ((simp only [go_sem]); (with_reducible assumption)) | ((refine keep_cell ?_ (by with_reducible assumption)); go_grown; done) | (simp [go_sem, *]; done)), (by first | (with_reducible assumption) | (simp [go_sem]; done) | ((simp only [go_sem]); (with_reducible assumption)) | ((refine keep_cell ?_ (by with_reducible assumption)); go_grown; done) | (simp [go_sem, *]; done)), (by first | (with_reducible assumption) | (simp [go_sem]; done) | ((simp only [go_sem]); (with_reducible assumption)) | ((refine keep_cell ?_ (by with_reducible assumption)); go_grown; done) | (simp [go_sem, *]; done)), (by first | (with_reducible assumption) | (simp [go_sem]; done) | ((simp only [go_sem]); (with_reducible assumption)) | ((refine keep_cell ?_ (by with_reducible assumption)); go_grown; done) | (simp [go_sem, *]; done)), (by first | (with_reducible assumption) | (simp [go_sem]; done) | ((simp only [go_sem]); (with_reducible assumption)) | ((refine keep_cell ?_ (by with_reducible assumption)); go_grown; done) | (simp [go_sem, *]; done)), (by first | (with_reducible assumption) | (simp [go_sem]; done) | ((simp only [go_sem]); (with_reducible assumption)) | ((refine keep_cell ?_ (by with_reducible assumption)); go_grown; done) | (simp [go_sem, *]; done)), (by first | (with_reducible assumption) | (simp [go_sem]; done) | ((simp only [go_sem]); (with_reducible assumption)) | ((refine keep_cell ?_ (by with_reducible assumption)); go_grown; done) | (simp [go_sem, *]; done)), (by first | (with_reducible assumption) | (simp [go_sem]; done) | ((simp only [go_sem]); (with_reducible assumption)) | ((refine keep_cell ?_ (by with_reducible assumption)); go_grown; done) | (simp [go_sem, *]; done)), (by first | (with_reducible assumption) | (simp [go_sem]; done) | ((simp only [go_sem]); (with_reducible assumption)) | ((refine keep_cell ?_ (by with_reducible assumption)); go_grown; done) | (simp [go_sem, *]; done)), (by first | (with_reducible assumption) | (simp [go_sem]; done) | ((simp only [go_sem]); (with_reducible assumption)) | ((refine keep_cell ?_ (by with_reducible assumption)); go_grown; done) | (simp [go_sem, *]; done)), (by first | (with_reducible assumption) | (simp [go_sem]; done) | ((simp only [go_sem]); (with_reducible assumption)) | ((refine keep_cell ?_ (by with_reducible assumption)); go_grown; done) | (simp [go_sem, *]; done)), (by first | (with_reducible assumption) | (simp [go_sem]; done) | ((simp only [go_sem]); (with_reducible assumption)) | ((refine keep_cell ?_ (by with_reducible assumption)); go_grown; done) | (simp [go_sem, *]; done)), (by go_grown)⟩)) hb
      (try clear hS)
      have hS := hT
      clear hT
      have hB := hS.2.2.2.2.2.2.2.2.2.2.2.2.2.2
      have hzw : w.heap.size ≤ w63.heap.size := hB.size
      have hz1 : w7.heap.size < w63.heap.size := World.block_lt_of_cell? w63 _ (hS.1)
      have hz2 : w3.heap.size < w63.heap.size := World.block_lt_of_cell? w63 _ (hS.2.2.2.1)
      have hz3 : w1.heap.size < w63.heap.size := World.block_lt_of_cell? w63 _ (hS.2.2.2.2.2.2.1)
      have hz4 : U < w63.heap.size := World.block_lt_of_cell? w63 _ (hS.2.2.2.2.2.2.2.2.1)
      have hz5 : V < w63.heap.size := World.block_lt_of_cell? w63 _ (hS.2.2.2.2.2.2.2.2.2.2.2.1)
      clear hb
      go_wp2_with fail
      obtain ⟨w64, hww64⟩ : ∃ W, W = w63.alloc (.cells #[.int .i64 x, .int .i64 y] 25) := ⟨_, rfl⟩
      have hT : w64.cell? ⟨w63.heap.size, 0, none⟩ = some (.int .i64 x) ∧ w64.cell? ⟨w63.heap.size, 1, none⟩ = some (.int .i64 y) ∧ w64.cell? ⟨w7.heap.size, 0, none⟩ = some (.bool false) ∧ w64.cell? ⟨w7.heap.size, 1, none⟩ = some (.int .i64 A9) ∧ w64.cell? ⟨w7.heap.size, 2, none⟩ = some (.int .i64 B9) ∧ w64.cell? ⟨w3.heap.size, 0, none⟩ = some (.bool true) ∧ w64.cell? ⟨w3.heap.size, 1, none⟩ = some (.int .i64 RA) ∧ w64.cell? ⟨w3.heap.size, 2, none⟩ = some (.int .i64 RB) ∧ w64.cell? ⟨w1.heap.size, 0, none⟩ = some (.int .i64 x) ∧ w64.cell? ⟨w1.heap.size, 1, none⟩ = some (.int .i64 y) ∧ w64.cell? ⟨U, 0, none⟩ = some (.bool false) ∧ w64.cell? ⟨U, 1, none⟩ = some (.int .i64 A9) ∧ w64.cell? ⟨U, 2, none⟩ = some (.int .i64 B9) ∧ w64.cell? ⟨V, 0, none⟩ = some (.bool true) ∧ w64.cell? ⟨V, 1, none⟩ = some (.int .i64 RA) ∧ w64.cell? ⟨V, 2, none⟩ = some (.int .i64 RB) ∧ Below w.heap.size w w64 := by
        rw [hww64]
        exact ⟨by simp [go_sem], by simp [go_sem], keep_cell (by go_grown) hS.1, keep_cell (by go_grown) hS.2.1, keep_cell (by go_grown) hS.2.2.1, keep_cell (by go_grown) hS.2.2.2.1, keep_cell (by go_grown) hS.2.2.2.2.1, keep_cell (by go_grown) hS.2.2.2.2.2.1, keep_cell (by go_grown) hS.2.2.2.2.2.2.1, keep_cell (by go_grown) hS.2.2.2.2.2.2.2.1, keep_cell (by go_grown) hS.2.2.2.2.2.2.2.2.1, keep_cell (by go_grown) hS.2.2.2.2.2.2.2.2.2.1, keep_cell (by go_grown) hS.2.2.2.2.2.2.2.2.2.2.1, keep_cell (by go_grown) hS.2.2.2.2.2.2.2.2.2.2.2.1, keep_cell (by go_grown) hS.2.2.2.2.2.2.2.2.2.2.2.2.1, keep_cell (by go_grown) hS.2.2.2.2.2.2.2.2.2.2.2.2.2.1, below_via hS.2.2.2.2.2.2.2.2.2.2.2.2.2.2 (by go_grown)⟩
      rw [← hww64]
      clear hS hww64
      have hS := hT
      clear hT
      (try clear hB hzw)
      have hB := hS.2.2.2.2.2.2.2.2.2.2.2.2.2.2.2.2
      have hzw : w.heap.size ≤ w64.heap.size := hB.size
      have hz1 : w63.heap.size < w64.heap.size := World.block_lt_of_cell? w64 _ (hS.1)
      have hz2 : w7.heap.size < w64.heap.size := World.block_lt_of_cell? w64 _ (hS.2.2.1)
      have hz3 : w3.heap.size < w64.heap.size := World.block_lt_of_cell? w64 _ (hS.2.2.2.2.2.1)
      have hz4 : w1.heap.size < w64.heap.size := World.block_lt_of_cell? w64 _ (hS.2.2.2.2.2.2.2.2.1)
      have hz5 : U < w64.heap.size := World.block_lt_of_cell? w64 _ (hS.2.2.2.2.2.2.2.2.2.2.1)
      have hz6 : V < w64.heap.size := World.block_lt_of_cell? w64 _ (hS.2.2.2.2.2.2.2.2.2.2.2.2.2.1)
      go_wp2_with fail
      refine (HE.out _).mono ?_
      rintro e w65 ⟨rfl, hb⟩
      have hT : w65.cell? ⟨w63.heap.size, 0, none⟩ = some (.int .i64 x) ∧ w65.cell? ⟨w63.heap.size, 1, none⟩ = some (.int .i64 y) ∧ w65.cell? ⟨w7.heap.size, 0, none⟩ = some (.bool false) ∧ w65.cell? ⟨w7.heap.size, 1, none⟩ = some (.int .i64 A9) ∧ w65.cell? ⟨w7.heap.size, 2, none⟩ = some (.int .i64 B9) ∧ w65.cell? ⟨w3.heap.size, 0, none⟩ = some (.bool true) ∧ w65.cell? ⟨w3.heap.size, 1, none⟩ = some (.int .i64 RA) ∧ w65.cell? ⟨w3.heap.size, 2, none⟩ = some (.int .i64 RB) ∧ w65.cell? ⟨w1.heap.size, 0, none⟩ = some (.int .i64 x) ∧ w65.cell? ⟨w1.heap.size, 1, none⟩ = some (.int .i64 y) ∧ w65.cell? ⟨U, 0, none⟩ = some (.bool false) ∧ w65.cell? ⟨U, 1, none⟩ = some (.int .i64 A9) ∧ w65.cell? ⟨U, 2, none⟩ = some (.int .i64 B9) ∧ w65.cell? ⟨V, 0, none⟩ = some (.bool true) ∧ w65.cell? ⟨V, 1, none⟩ = some (.int .i64 RA) ∧ w65.cell? ⟨V, 2, none⟩ = some (.int .i64 RB) ∧ Below w.heap.size w w65 := (fun W h hb => ⟨keep_cell (hb) h.1, keep_cell (hb) h.2.1, keep_cell (hb) h.2.2.1, keep_cell (hb) h.2.2.2.1, keep_cell (hb) h.2.2.2.2.1, keep_cell (hb) h.2.2.2.2.2.1, keep_cell (hb) h.2.2.2.2.2.2.1, keep_cell (hb) h.2.2.2.2.2.2.2.1, keep_cell (hb) h.2.2.2.2.2.2.2.2.1, keep_cell (hb) h.2.2.2.2.2.2.2.2.2.1, keep_cell (hb) h.2.2.2.2.2.2.2.2.2.2.1, keep_cell (hb) h.2.2.2.2.2.2.2.2.2.2.2.1, keep_cell (hb) h.2.2.2.2.2.2.2.2.2.2.2.2.1, keep_cell (hb) h.2.2.2.2.2.2.2.2.2.2.2.2.2.1, keep_cell (hb) h.2.2.2.2.2.2.2.2.2.2.2.2.2.2.1, keep_cell (hb) h.2.2.2.2.2.2.2.2.2.2.2.2.2.2.2.1, below_via h.2.2.2.2.2.2.2.2.2.2.2.2.2.2.2.2 (hb)⟩ : ∀ W : World, (W.cell? ⟨w63.heap.size, 0, none⟩ = some (.int .i64 x) ∧ W.cell? ⟨w63.heap.size, 1, none⟩ = some (.int .i64 y) ∧ W.cell? ⟨w7.heap.size, 0, none⟩ = some (.bool false) ∧ W.cell? ⟨w7.heap.size, 1, none⟩ = some (.int .i64 A9) ∧ W.cell? ⟨w7.heap.size, 2, none⟩ = some (.int .i64 B9) ∧ W.cell? ⟨w3.heap.size, 0, none⟩ = some (.bool true) ∧ W.cell? ⟨w3.heap.size, 1, none⟩ = some (.int .i64 RA) ∧ W.cell? ⟨w3.heap.size, 2, none⟩ = some (.int .i64 RB) ∧ W.cell? ⟨w1.heap.size, 0, none⟩ = some (.int .i64 x) ∧ W.cell? ⟨w1.heap.size, 1, none⟩ = some (.int .i64 y) ∧ W.cell? ⟨U, 0, none⟩ = some (.bool false) ∧ W.cell? ⟨U, 1, none⟩ = some (.int .i64 A9) ∧ W.cell? ⟨U, 2, none⟩ = some (.int .i64 B9) ∧ W.cell? ⟨V, 0, none⟩ = some (.bool true) ∧ W.cell? ⟨V, 1, none⟩ = some (.int .i64 RA) ∧ W.cell? ⟨V, 2, none⟩ = some (.int .i64 RB) ∧ Below w.heap.size w W) → Below W.heap.size W w65 → (w65.cell? ⟨w63.heap.size, 0, none⟩ = some (.int .i64 x) ∧ w65.cell? ⟨w63.heap.size, 1, none⟩ = some (.int .i64 y) ∧ w65.cell? ⟨w7.heap.size, 0, none⟩ = some (.bool false) ∧ w65.cell? ⟨w7.heap.size, 1, none⟩ = some (.int .i64 A9) ∧ w65.cell? ⟨w7.heap.size, 2, none⟩ = some (.int .i64 B9) ∧ w65.cell? ⟨w3.heap.size, 0, none⟩ = some (.bool true) ∧ w65.cell? ⟨w3.heap.size, 1, none⟩ = some (.int .i64 RA) ∧ w65.cell? ⟨w3.heap.size, 2, none⟩ = some (.int .i64 RB) ∧ w65.cell? ⟨w1.heap.size, 0, none⟩ = some (.int .i64 x) ∧ w65.cell? ⟨w1.heap.size, 1, none⟩ = some (.int .i64 y) ∧ w65.cell? ⟨U, 0, none⟩ = some (.bool false) ∧ w65.cell? ⟨U, 1, none⟩ = some (.int .i64 A9) ∧ w65.cell? ⟨U, 2, none⟩ = some (.int .i64 B9) ∧ w65.cell? ⟨V, 0, none⟩ = some (.bool true) ∧ w65.cell? ⟨V, 1, none⟩ = some (.int .i64 RA) ∧ w65.cell? ⟨V, 2, none⟩ = some (.int .i64 RB) ∧ Below w.heap.size w w65)) _ (by first | (with_reducible assumption) | (exact hS) | (exact ⟨hS.1, hS.2.1, hS.2.2.1, hS.2.2.2.1, hS.2.2.2.2.1, hS.2.2.2.2.2.1, hS.2.2.2.2.2.2.1, hS.2.2.2.2.2.2.2.1, hS.2.2.2.2.2.2.2.2.1, hS.2.2.2.2.2.2.2.2.2.1, hS.2.2.2.2.2.2.2.2.2.2.1, hS.2.2.2.2.2.2.2.2.2.2.2.1, hS.2.2.2.2.2.2.2.2.2.2.2.2.1, hS.2.2.2.2.2.2.2.2.2.2.2.2.2.1, hS.2.2.2.2.2.2.2.2.2.2.2.2.2.2.1, hS.2.2.2.2.2.2.2.2.2.2.2.2.2.2.2.1, (by go_grown)⟩) | (exact ⟨(by first | (with_reducible assumption) | (simp [go_sem]; done) | ((simp only [go_sem]); (with_reducible assumption)) | ((refine keep_cell ?_ (by with_reducible assumption)); go_grown; done) | (simp [go_sem, *]; done)), (by first | (with_reducible assumption) | (simp [go_sem]; done) | ((simp only [go_sem]); (with_reducible assumption)) | ((refine keep_cell ?_ (by with_reducible assumption)); go_grown; done) | (simp [go_sem, *]; done)), (by first | (with_reducible assumption) | (simp [go_sem]; done) | ((simp only [go_sem]); (with_reducible assumption)) | ((refine keep_cell ?_ (by with_reducible assumption)); go_grown; done) | (simp [go_sem, *]; done)), (by first | (with_reducible assumption) | (simp [go_sem]; done) | ((simp only [go_sem]); (with_reducible assumption)) | ((refine keep_cell ?_ (by with_reducible assumption)); go_grown; done) | (simp [go_sem, *]; done)), (by first | (with_reducible assumption) | (simp [go_sem]; done) | ((simp only [go_sem]); (with_reducible assumption)) | ((refine keep_cell ?_ (by with_reducible assumption)); go_grown; done) | (simp [go_sem, *]; done)), (by first | (with_reducible assumption) | (simp [go_sem]; done) | ((simp only [go_sem]); (with_reducible assumption)) | ((refine keep_cell ?_ (by with_reducible assumption)); go_grown; done) | (simp [go_sem, *]; done)), (by first | (with_reducible assumption) | (simp [go_sem]; done) | ((simp only [go_sem]); (with_reducible assumption)) | ((refine keep_cell ?_ (by with_reducible assumption)); go_grown; done) | (simp [go_sem, *]; done)), (by first | (with_reducible assumption) | (simp [go_sem]; done) | ((simp only [go_sem]); (with_reducible assumption)) | ((refine keep_cell ?_ (by with_reducible assumption)); go_grown; done) | (simp [go_sem, *]; done)), (by first | (with_reducible assumption) | (simp [go_sem]; done) | ((simp only [go_sem]); (with_reducible assumption)) | ((refine keep_cell ?_ (by with_reducible assumption)); go_grown; done) | (simp [go_sem, *]; done)), (by first | (with_reducible assumption) | (simp [go_sem]; done) | ((simp only [go_sem]); (with_reducible assumption)) | ((refine keep_cell ?_ (by with_reducible assumption)); go_grown; done) | (simp [go_sem, *]; done)), (by first | (with_reducible assumption) | (simp [go_sem]; done) | ((simp only [go_sem]); (with_reducible assumption)) | ((refine keep_cell ?_ (by with_reducible assumption)); go_grown; done) | (simp [go_sem, *]; done)), (by first | (with_reducible assumption) | (simp [go_sem]; done) | ((simp only [go_sem]); (with_reducible assumption)) | ((refine keep_cell ?_ (by with_reducible assumption)); go_grown; done) | (simp [go_sem, *]; done)), (by first | (with_reducible assumption) | (simp [go_sem]; done) | ((simp only [go_sem]); (with_reducible assumption)) | ((refine keep_cell ?_ (by with_reducible assumption)); go_grown; done) | (simp [go_sem, *]; done)), (by first | (with_reducible assumption) | (simp [go_sem]; done) | ((simp only [go_sem]); (with_reducible assumption)) | ((refine keep_cell ?_ (by with_reducible assumption)); go_grown; done) | (simp [go_sem, *]; done)), (by first | (with_reducible assumption) | (simp [go_sem]; done) | ((simp only [go_sem]); (with_reducible assumption)) | ((refine keep_cell ?_ (by with_reducible assumption)); go_grown; done) | (simp [go_sem, *]; done)), (by first | (with_reducible assumption) | (simp [go_sem]; done) | ((simp only [go_sem]); (with_reducible assumption)) | ((refine keep_cell ?_ (by with_reducible assumption)); go_grown; done) | (simp [go_sem, *]; done)), (by go_grown)⟩)) hb
      (try clear hS)
      have hS := hT
      clear hT
      have hB := hS.2.2.2.2.2.2.2.2.2.2.2.2.2.2.2.2
      have hzw : w.heap.size ≤ w65.heap.size := hB.size
      have hz1 : w63.heap.size < w65.heap.size := World.block_lt_of_cell? w65 _ (hS.1)
      have hz2 : w7.heap.size < w65.heap.size := World.block_lt_of_cell? w65 _ (hS.2.2.1)
      have hz3 : w3.heap.size < w65.heap.size := World.block_lt_of_cell? w65 _ (hS.2.2.2.2.2.1)
      have hz4 : w1.heap.size < w65.heap.size := World.block_lt_of_cell? w65 _ (hS.2.2.2.2.2.2.2.2.1)
      have hz5 : U < w65.heap.size := World.block_lt_of_cell? w65 _ (hS.2.2.2.2.2.2.2.2.2.2.1)
      have hz6 : V < w65.heap.size := World.block_lt_of_cell? w65 _ (hS.2.2.2.2.2.2.2.2.2.2.2.2.2.1)
      clear hb
      go_wp2_with fail
      obtain ⟨w66, hww66⟩ : ∃ W, W = w65.alloc (.cells #[.int .i64 x, .int .i64 y] 25) := ⟨_, rfl⟩
      have hT : w66.cell? ⟨w65.heap.size, 0, none⟩ = some (.int .i64 x) ∧ w66.cell? ⟨w65.heap.size, 1, none⟩ = some (.int .i64 y) ∧ w66.cell? ⟨w63.heap.size, 0, none⟩ = some (.int .i64 x) ∧ w66.cell? ⟨w63.heap.size, 1, none⟩ = some (.int .i64 y) ∧ w66.cell? ⟨w7.heap.size, 0, none⟩ = some (.bool false) ∧ w66.cell? ⟨w7.heap.size, 1, none⟩ = some (.int .i64 A9) ∧ w66.cell? ⟨w7.heap.size, 2, none⟩ = some (.int .i64 B9) ∧ w66.cell? ⟨w3.heap.size, 0, none⟩ = some (.bool true) ∧ w66.cell? ⟨w3.heap.size, 1, none⟩ = some (.int .i64 RA) ∧ w66.cell? ⟨w3.heap.size, 2, none⟩ = some (.int .i64 RB) ∧ w66.cell? ⟨w1.heap.size, 0, none⟩ = some (.int .i64 x) ∧ w66.cell? ⟨w1.heap.size, 1, none⟩ = some (.int .i64 y) ∧ w66.cell? ⟨U, 0, none⟩ = some (.bool false) ∧ w66.cell? ⟨U, 1, none⟩ = some (.int .i64 A9) ∧ w66.cell? ⟨U, 2, none⟩ = some (.int .i64 B9) ∧ w66.cell? ⟨V, 0, none⟩ = some (.bool true) ∧ w66.cell? ⟨V, 1, none⟩ = some (.int .i64 RA) ∧ w66.cell? ⟨V, 2, none⟩ = some (.int .i64 RB) ∧ Below w.heap.size w w66 := by
        rw [hww66]
        exact ⟨by simp [go_sem], by simp [go_sem], keep_cell (by go_grown) hS.1, keep_cell (by go_grown) hS.2.1, keep_cell (by go_grown) hS.2.2.1, keep_cell (by go_grown) hS.2.2.2.1, keep_cell (by go_grown) hS.2.2.2.2.1, keep_cell (by go_grown) hS.2.2.2.2.2.1, keep_cell (by go_grown) hS.2.2.2.2.2.2.1, keep_cell (by go_grown) hS.2.2.2.2.2.2.2.1, keep_cell (by go_grown) hS.2.2.2.2.2.2.2.2.1, keep_cell (by go_grown) hS.2.2.2.2.2.2.2.2.2.1, keep_cell (by go_grown) hS.2.2.2.2.2.2.2.2.2.2.1, keep_cell (by go_grown) hS.2.2.2.2.2.2.2.2.2.2.2.1, keep_cell (by go_grown) hS.2.2.2.2.2.2.2.2.2.2.2.2.1, keep_cell (by go_grown) hS.2.2.2.2.2.2.2.2.2.2.2.2.2.1, keep_cell (by go_grown) hS.2.2.2.2.2.2.2.2.2.2.2.2.2.2.1, keep_cell (by go_grown) hS.2.2.2.2.2.2.2.2.2.2.2.2.2.2.2.1, below_via hS.2.2.2.2.2.2.2.2.2.2.2.2.2.2.2.2 (by go_grown)⟩
      rw [← hww66]
      clear hS hww66
      have hS := hT
      clear hT
      (try clear hB hzw)
      have hB := hS.2.2.2.2.2.2.2.2.2.2.2.2.2.2.2.2.2.2
      have hzw : w.heap.size ≤ w66.heap.size := hB.size
      have hz1 : w65.heap.size < w66.heap.size := World.block_lt_of_cell? w66 _ (hS.1)
      have hz2 : w63.heap.size < w66.heap.size := World.block_lt_of_cell? w66 _ (hS.2.2.1)
      have hz3 : w7.heap.size < w66.heap.size := World.block_lt_of_cell? w66 _ (hS.2.2.2.2.1)
      have hz4 : w3.heap.size < w66.heap.size := World.block_lt_of_cell? w66 _ (hS.2.2.2.2.2.2.2.1)
      have hz5 : w1.heap.size < w66.heap.size := World.block_lt_of_cell? w66 _ (hS.2.2.2.2.2.2.2.2.2.2.1)
      have hz6 : U < w66.heap.size := World.block_lt_of_cell? w66 _ (hS.2.2.2.2.2.2.2.2.2.2.2.2.1)
      have hz7 : V < w66.heap.size := World.block_lt_of_cell? w66 _ (hS.2.2.2.2.2.2.2.2.2.2.2.2.2.2.2.1)
      go_wp2_with fail
      refine (HM.out _).mono ?_
      rintro e w67 ⟨A1, c1, rfl, ho1, hb⟩
      obtain ⟨b1, ho1, hbk1⟩ := own_based ho1 (m := w66.heap.size) (by first | omega | (simp; done) | (simp; omega))
      have hT : w67.ownsRow (b1) 25 2 (.slice A1 1 c1) (1) (flat [(x, y)]) ∧ w67.cell? ⟨w65.heap.size, 0, none⟩ = some (.int .i64 x) ∧ w67.cell? ⟨w65.heap.size, 1, none⟩ = some (.int .i64 y) ∧ w67.cell? ⟨w63.heap.size, 0, none⟩ = some (.int .i64 x) ∧ w67.cell? ⟨w63.heap.size, 1, none⟩ = some (.int .i64 y) ∧ w67.cell? ⟨w7.heap.size, 0, none⟩ = some (.bool false) ∧ w67.cell? ⟨w7.heap.size, 1, none⟩ = some (.int .i64 A9) ∧ w67.cell? ⟨w7.heap.size, 2, none⟩ = some (.int .i64 B9) ∧ w67.cell? ⟨w3.heap.size, 0, none⟩ = some (.bool true) ∧ w67.cell? ⟨w3.heap.size, 1, none⟩ = some (.int .i64 RA) ∧ w67.cell? ⟨w3.heap.size, 2, none⟩ = some (.int .i64 RB) ∧ w67.cell? ⟨w1.heap.size, 0, none⟩ = some (.int .i64 x) ∧ w67.cell? ⟨w1.heap.size, 1, none⟩ = some (.int .i64 y) ∧ w67.cell? ⟨U, 0, none⟩ = some (.bool false) ∧ w67.cell? ⟨U, 1, none⟩ = some (.int .i64 A9) ∧ w67.cell? ⟨U, 2, none⟩ = some (.int .i64 B9) ∧ w67.cell? ⟨V, 0, none⟩ = some (.bool true) ∧ w67.cell? ⟨V, 1, none⟩ = some (.int .i64 RA) ∧ w67.cell? ⟨V, 2, none⟩ = some (.int .i64 RB) ∧ Below w.heap.size w w67 := ⟨ho1, (fun W h hb => ⟨keep_cell (hb) h.1, keep_cell (hb) h.2.1, keep_cell (hb) h.2.2.1, keep_cell (hb) h.2.2.2.1, keep_cell (hb) h.2.2.2.2.1, keep_cell (hb) h.2.2.2.2.2.1, keep_cell (hb) h.2.2.2.2.2.2.1, keep_cell (hb) h.2.2.2.2.2.2.2.1, keep_cell (hb) h.2.2.2.2.2.2.2.2.1, keep_cell (hb) h.2.2.2.2.2.2.2.2.2.1, keep_cell (hb) h.2.2.2.2.2.2.2.2.2.2.1, keep_cell (hb) h.2.2.2.2.2.2.2.2.2.2.2.1, keep_cell (hb) h.2.2.2.2.2.2.2.2.2.2.2.2.1, keep_cell (hb) h.2.2.2.2.2.2.2.2.2.2.2.2.2.1, keep_cell (hb) h.2.2.2.2.2.2.2.2.2.2.2.2.2.2.1, keep_cell (hb) h.2.2.2.2.2.2.2.2.2.2.2.2.2.2.2.1, keep_cell (hb) h.2.2.2.2.2.2.2.2.2.2.2.2.2.2.2.2.1, keep_cell (hb) h.2.2.2.2.2.2.2.2.2.2.2.2.2.2.2.2.2.1, below_via h.2.2.2.2.2.2.2.2.2.2.2.2.2.2.2.2.2.2 (hb)⟩ : ∀ W : World, (W.cell? ⟨w65.heap.size, 0, none⟩ = some (.int .i64 x) ∧ W.cell? ⟨w65.heap.size, 1, none⟩ = some (.int .i64 y) ∧ W.cell? ⟨w63.heap.size, 0, none⟩ = some (.int .i64 x) ∧ W.cell? ⟨w63.heap.size, 1, none⟩ = some (.int .i64 y) ∧ W.cell? ⟨w7.heap.size, 0, none⟩ = some (.bool false) ∧ W.cell? ⟨w7.heap.size, 1, none⟩ = some (.int .i64 A9) ∧ W.cell? ⟨w7.heap.size, 2, none⟩ = some (.int .i64 B9) ∧ W.cell? ⟨w3.heap.size, 0, none⟩ = some (.bool true) ∧ W.cell? ⟨w3.heap.size, 1, none⟩ = some (.int .i64 RA) ∧ W.cell? ⟨w3.heap.size, 2, none⟩ = some (.int .i64 RB) ∧ W.cell? ⟨w1.heap.size, 0, none⟩ = some (.int .i64 x) ∧ W.cell? ⟨w1.heap.size, 1, none⟩ = some (.int .i64 y) ∧ W.cell? ⟨U, 0, none⟩ = some (.bool false) ∧ W.cell? ⟨U, 1, none⟩ = some (.int .i64 A9) ∧ W.cell? ⟨U, 2, none⟩ = some (.int .i64 B9) ∧ W.cell? ⟨V, 0, none⟩ = some (.bool true) ∧ W.cell? ⟨V, 1, none⟩ = some (.int .i64 RA) ∧ W.cell? ⟨V, 2, none⟩ = some (.int .i64 RB) ∧ Below w.heap.size w W) → Below W.heap.size W w67 → (w67.cell? ⟨w65.heap.size, 0, none⟩ = some (.int .i64 x) ∧ w67.cell? ⟨w65.heap.size, 1, none⟩ = some (.int .i64 y) ∧ w67.cell? ⟨w63.heap.size, 0, none⟩ = some (.int .i64 x) ∧ w67.cell? ⟨w63.heap.size, 1, none⟩ = some (.int .i64 y) ∧ w67.cell? ⟨w7.heap.size, 0, none⟩ = some (.bool false) ∧ w67.cell? ⟨w7.heap.size, 1, none⟩ = some (.int .i64 A9) ∧ w67.cell? ⟨w7.heap.size, 2, none⟩ = some (.int .i64 B9) ∧ w67.cell? ⟨w3.heap.size, 0, none⟩ = some (.bool true) ∧ w67.cell? ⟨w3.heap.size, 1, none⟩ = some (.int .i64 RA) ∧ w67.cell? ⟨w3.heap.size, 2, none⟩ = some (.int .i64 RB) ∧ w67.cell? ⟨w1.heap.size, 0, none⟩ = some (.int .i64 x) ∧ w67.cell? ⟨w1.heap.size, 1, none⟩ = some (.int .i64 y) ∧ w67.cell? ⟨U, 0, none⟩ = some (.bool false) ∧ w67.cell? ⟨U, 1, none⟩ = some (.int .i64 A9) ∧ w67.cell? ⟨U, 2, none⟩ = some (.int .i64 B9) ∧ w67.cell? ⟨V, 0, none⟩ = some (.bool true) ∧ w67.cell? ⟨V, 1, none⟩ = some (.int .i64 RA) ∧ w67.cell? ⟨V, 2, none⟩ = some (.int .i64 RB) ∧ Below w.heap.size w w67)) _ (by first | (with_reducible assumption) | (exact hS) | (exact ⟨hS.1, hS.2.1, hS.2.2.1, hS.2.2.2.1, hS.2.2.2.2.1, hS.2.2.2.2.2.1, hS.2.2.2.2.2.2.1, hS.2.2.2.2.2.2.2.1, hS.2.2.2.2.2.2.2.2.1, hS.2.2.2.2.2.2.2.2.2.1, hS.2.2.2.2.2.2.2.2.2.2.1, hS.2.2.2.2.2.2.2.2.2.2.2.1, hS.2.2.2.2.2.2.2.2.2.2.2.2.1, hS.2.2.2.2.2.2.2.2.2.2.2.2.2.1, hS.2.2.2.2.2.2.2.2.2.2.2.2.2.2.1, hS.2.2.2.2.2.2.2.2.2.2.2.2.2.2.2.1, hS.2.2.2.2.2.2.2.2.2.2.2.2.2.2.2.2.1, hS.2.2.2.2.2.2.2.2.2.2.2.2.2.2.2.2.2.1, (by go_grown)⟩) | (exact ⟨(by first | (with_reducible assumption) | (simp [go_sem]; done) | ((simp only [go_sem]); (with_reducible assumption)) | ((refine keep_cell ?_ (by with_reducible assumption)); go_grown; done) | (simp [go_sem, *]; done)), (by first | (with_reducible assumption) | (simp [go_sem]; done) | ((simp only [go_sem]); (with_reducible assumption)) | ((refine keep_cell ?_ (by with_reducible assumption)); go_grown; done) | (simp [go_sem, *]; done)), (by first | (with_reducible assumption) | (simp [go_sem]; done) | ((simp only [go_sem]); (with_reducible assumption)) | ((refine keep_cell ?_ (by with_reducible assumption)); go_grown; done) | (simp [go_sem, *]; done)), (by first | (with_reducible assumption) | (simp [go_sem]; done) | ((simp only [go_sem]); (with_reducible assumption)) | ((refine keep_cell ?_ (by with_reducible assumption)); go_grown; done) | (simp [go_sem, *]; done)), (by first | (with_reducible assumption) | (simp [go_sem]; done) | ((simp only [go_sem]); (with_reducible assumption)) | ((refine keep_cell ?_ (by with_reducible assumption)); go_grown; done) | (simp [go_sem, *]; done)), (by first | (with_reducible assumption) | (simp [go_sem]; done) | ((simp only [go_sem]); (with_reducible assumption)) | ((refine keep_cell ?_ (by with_reducible assumption)); go_grown; done) | (simp [go_sem, *]; done)), (by first | (with_reducible assumption) | (simp [go_sem]; done) | ((simp only [go_sem]); (with_reducible assumption)) | ((refine keep_cell ?_ (by with_reducible assumption)); go_grown; done) | (simp [go_sem, *]; done)), (by first | (with_reducible assumption) | (simp [go_sem]; done) | ((simp only [go_sem]); (with_reducible assumption)) | ((refine keep_cell ?_ (by with_reducible assumption)); go_grown; done) | (simp [go_sem, *]; done)), (by first | (with_reducible assumption) | (simp [go_sem]; done) | ((simp only [go_sem]); (with_reducible assumption)) | ((refine keep_cell ?_ (by with_reducible assumption)); go_grown; done) | (simp [go_sem, *]; done)), (by first | (with_reducible assumption) | (simp [go_sem]; done) | ((simp only [go_sem]); (with_reducible assumption)) | ((refine keep_cell ?_ (by with_reducible assumption)); go_grown; done) | (simp [go_sem, *]; done)), (by first | (with_reducible assumption) | (simp [go_sem]; done) | ((simp only [go_sem]); (with_reducible assumption)) | ((refine keep_cell ?_ (by with_reducible assumption)); go_grown; done) | (simp [go_sem, *]; done)), (by first | (with_reducible assumption) | (simp [go_sem]; done) | ((simp only [go_sem]); (with_reducible assumption)) | ((refine keep_cell ?_ (by with_reducible assumption)); go_grown; done) | (simp [go_sem, *]; done)), (by first | (with_reducible assumption) | (simp [go_sem]; done) | ((simp only [go_sem]); (with_reducible assumption)) | ((refine keep_cell ?_ (by with_reducible assumption)); go_grown; done) | (simp [go_sem, *]; done)), (by first | (with_reducible assumption) | (simp [go_sem]; done) | ((simp only [go_sem]); (with_reducible assumption)) | ((refine keep_cell ?_ (by with_reducible assumption)); go_grown; done) | (simp [go_sem, *]; done)), (by first | (with_reducible assumption) | (simp [go_sem]; done) | ((simp only [go_sem]); (with_reducible assumption)) | ((refine keep_cell ?_ (by with_reducible assumption)); go_grown; done) | (simp [go_sem, *]; done)), (by first | (with_reducible assumption) | (simp [go_sem]; done) | ((simp only [go_sem]); (with_reducible assumption)) | ((refine keep_cell ?_ (by with_reducible assumption)); go_grown; done) | (simp [go_sem, *]; done)), (by first | (with_reducible assumption) | (simp [go_sem]; done) | ((simp only [go_sem]); (with_reducible assumption)) | ((refine keep_cell ?_ (by with_reducible assumption)); go_grown; done) | (simp [go_sem, *]; done)), (by first | (with_reducible assumption) | (simp [go_sem]; done) | ((simp only [go_sem]); (with_reducible assumption)) | ((refine keep_cell ?_ (by with_reducible assumption)); go_grown; done) | (simp [go_sem, *]; done)), (by go_grown)⟩)) hb⟩
      (try clear hS)
      have hS := hT
      clear hT
      have hB := hS.2.2.2.2.2.2.2.2.2.2.2.2.2.2.2.2.2.2.2
      have hzw : w.heap.size ≤ w67.heap.size := hB.size
      have hz1 : w65.heap.size < w67.heap.size := World.block_lt_of_cell? w67 _ (hS.2.1)
      have hz2 : w63.heap.size < w67.heap.size := World.block_lt_of_cell? w67 _ (hS.2.2.2.1)
      have hz3 : w7.heap.size < w67.heap.size := World.block_lt_of_cell? w67 _ (hS.2.2.2.2.2.1)
      have hz4 : w3.heap.size < w67.heap.size := World.block_lt_of_cell? w67 _ (hS.2.2.2.2.2.2.2.2.1)
      have hz5 : w1.heap.size < w67.heap.size := World.block_lt_of_cell? w67 _ (hS.2.2.2.2.2.2.2.2.2.2.2.1)
      have hz6 : U < w67.heap.size := World.block_lt_of_cell? w67 _ (hS.2.2.2.2.2.2.2.2.2.2.2.2.2.1)
      have hz7 : V < w67.heap.size := World.block_lt_of_cell? w67 _ (hS.2.2.2.2.2.2.2.2.2.2.2.2.2.2.2.2.1)
      clear hb
      obtain ⟨g9, hA9, hg90, hg91⟩ := own_at (hS.1) (by omega)
      subst hA9
      obtain ⟨ux, uy⟩ := own_pt (l := [(x, y)]) (hS.1) (k := 0) (by simp)
      have hS5 : w67.cell? ⟨g9, 0, none⟩ = some (.int .i64 x) ∧ w67.cell? ⟨g9, 1, none⟩ = some (.int .i64 y) ∧ w67.cell? ⟨w65.heap.size, 0, none⟩ = some (.int .i64 x) ∧ w67.cell? ⟨w65.heap.size, 1, none⟩ = some (.int .i64 y) ∧ w67.cell? ⟨w63.heap.size, 0, none⟩ = some (.int .i64 x) ∧ w67.cell? ⟨w63.heap.size, 1, none⟩ = some (.int .i64 y) ∧ w67.cell? ⟨w1.heap.size, 0, none⟩ = some (.int .i64 x) ∧ w67.cell? ⟨w1.heap.size, 1, none⟩ = some (.int .i64 y) ∧ Below w.heap.size w w67 := ⟨ux, uy, hS.2.1, hS.2.2.1, hS.2.2.2.1, hS.2.2.2.2.1, hS.2.2.2.2.2.2.2.2.2.2.2.1, hS.2.2.2.2.2.2.2.2.2.2.2.2.1, hS.2.2.2.2.2.2.2.2.2.2.2.2.2.2.2.2.2.2.2⟩
      clear hS
      have hS := hS5
      clear hS5
      go_wp2
      refine wp_region_det (fun w' => w'.cell? ⟨g9, 0, none⟩ = some (.int .i64 x) ∧ w'.cell? ⟨g9, 1, none⟩ = some (.int .i64 y) ∧ w'.cell? ⟨w65.heap.size, 0, none⟩ = some (.int .i64 x) ∧ w'.cell? ⟨w65.heap.size, 1, none⟩ = some (.int .i64 y) ∧ w'.cell? ⟨w63.heap.size, 0, none⟩ = some (.int .i64 x) ∧ w'.cell? ⟨w63.heap.size, 1, none⟩ = some (.int .i64 y) ∧ w'.cell? ⟨w1.heap.size, 0, none⟩ = some (.int .i64 x) ∧ w'.cell? ⟨w1.heap.size, 1, none⟩ = some (.int .i64 y) ∧ Below w.heap.size w w') (by kernel_rfl) (by kernel_rfl) (by first | (with_reducible assumption) | (exact hS) | (exact ⟨hS.1, hS.2.1, hS.2.2.1, hS.2.2.2.1, hS.2.2.2.2.1, hS.2.2.2.2.2.1, hS.2.2.2.2.2.2.1, hS.2.2.2.2.2.2.2.1, (by go_grown)⟩) | (exact ⟨(by first | (with_reducible assumption) | (simp [go_sem]; done) | ((simp only [go_sem]); (with_reducible assumption)) | ((refine keep_cell ?_ (by with_reducible assumption)); go_grown; done) | (simp [go_sem, *]; done)), (by first | (with_reducible assumption) | (simp [go_sem]; done) | ((simp only [go_sem]); (with_reducible assumption)) | ((refine keep_cell ?_ (by with_reducible assumption)); go_grown; done) | (simp [go_sem, *]; done)), (by first | (with_reducible assumption) | (simp [go_sem]; done) | ((simp only [go_sem]); (with_reducible assumption)) | ((refine keep_cell ?_ (by with_reducible assumption)); go_grown; done) | (simp [go_sem, *]; done)), (by first | (with_reducible assumption) | (simp [go_sem]; done) | ((simp only [go_sem]); (with_reducible assumption)) | ((refine keep_cell ?_ (by with_reducible assumption)); go_grown; done) | (simp [go_sem, *]; done)), (by first | (with_reducible assumption) | (simp [go_sem]; done) | ((simp only [go_sem]); (with_reducible assumption)) | ((refine keep_cell ?_ (by with_reducible assumption)); go_grown; done) | (simp [go_sem, *]; done)), (by first | (with_reducible assumption) | (simp [go_sem]; done) | ((simp only [go_sem]); (with_reducible assumption)) | ((refine keep_cell ?_ (by with_reducible assumption)); go_grown; done) | (simp [go_sem, *]; done)), (by first | (with_reducible assumption) | (simp [go_sem]; done) | ((simp only [go_sem]); (with_reducible assumption)) | ((refine keep_cell ?_ (by with_reducible assumption)); go_grown; done) | (simp [go_sem, *]; done)), (by first | (with_reducible assumption) | (simp [go_sem]; done) | ((simp only [go_sem]); (with_reducible assumption)) | ((refine keep_cell ?_ (by with_reducible assumption)); go_grown; done) | (simp [go_sem, *]; done)), (by go_grown)⟩)) ?_
      repeat (first
        | ((refine wpDet_skip (by rfl) ?_); simp only [Act.put, List.setIfInBounds_toArray, List.set_cons_zero, List.set_cons_succ])
        | ((refine wpDet_val (v := ?_) (by rfl) (fun w hS => ?_) ?_); rotate_left; (focus ((try dsimp only at hS); go_simp; (try (with_reducible rfl)); done)); simp only [Act.put, List.setIfInBounds_toArray, List.set_cons_zero, List.set_cons_succ]))
      refine wpDet_nil ?_
      intro wz hS
      have hT : wz.cell? ⟨g9, 0, none⟩ = some (.int .i64 x) ∧ wz.cell? ⟨g9, 1, none⟩ = some (.int .i64 y) ∧ wz.cell? ⟨w65.heap.size, 0, none⟩ = some (.int .i64 x) ∧ wz.cell? ⟨w65.heap.size, 1, none⟩ = some (.int .i64 y) ∧ wz.cell? ⟨w63.heap.size, 0, none⟩ = some (.int .i64 x) ∧ wz.cell? ⟨w63.heap.size, 1, none⟩ = some (.int .i64 y) ∧ wz.cell? ⟨w1.heap.size, 0, none⟩ = some (.int .i64 x) ∧ wz.cell? ⟨w1.heap.size, 1, none⟩ = some (.int .i64 y) ∧ Below w.heap.size w wz := hS
      clear hS
      have hS := hT
      obtain ⟨c0, c1, c2, c3, c4, c5, c6, c7, hB⟩ := hT
      have hzw : w.heap.size ≤ wz.heap.size := hB.size
      have hz1 : g9 < wz.heap.size := World.block_lt_of_cell? wz _ (hS.1)
      have hz2 : w65.heap.size < wz.heap.size := World.block_lt_of_cell? wz _ (hS.2.2.1)
      have hz3 : w63.heap.size < wz.heap.size := World.block_lt_of_cell? wz _ (hS.2.2.2.2.1)
      have hz4 : w1.heap.size < wz.heap.size := World.block_lt_of_cell? wz _ (hS.2.2.2.2.2.2.1)
      go_wp2_with fail
      go_meet
      case rel => go_grown
  have hB : Below w.heap.size w wc := hcut
  clear hcut
  (try clear hS)
  have hzw : w.heap.size ≤ wc.heap.size := hB.size
  go_wp2_with fail
  refine (drawMoved_c A n c _ (hide (h1.out.below (by go_grown))) HN.out).mono ?_
  rintro e w7 ⟨o1, k1, m1, o2, k2, m2, dr, rfl, hb⟩
  have hT : Below w.heap.size w w7 := (fun W h hb => below_via h (hb) : ∀ W : World, (Below w.heap.size w W) → Below W.heap.size W w7 → (Below w.heap.size w w7)) _ (by first | (with_reducible assumption) | go_grown) hb
  (try clear hS)
  have hS := hT
  clear hT
  have hB := hS
  have hzw : w.heap.size ≤ w7.heap.size := hB.size
  clear hb
  go_wp2_with fail
  obtain ⟨w8, hww8⟩ : ∃ W, W = (w7.alloc (.cells #[.bool o1, .int .i64 k1, .int .i64 m1] 31)).alloc (.cells #[.bool o2, .int .i64 k2, .int .i64 m2] 31) := ⟨_, rfl⟩
  have hT : w8.cell? ⟨w7.heap.size, 0, none⟩ = some (.bool o1) ∧ w8.cell? ⟨w7.heap.size, 1, none⟩ = some (.int .i64 k1) ∧ w8.cell? ⟨w7.heap.size, 2, none⟩ = some (.int .i64 m1) ∧ w8.cell? ⟨w7.heap.size + 1, 0, none⟩ = some (.bool o2) ∧ w8.cell? ⟨w7.heap.size + 1, 1, none⟩ = some (.int .i64 k2) ∧ w8.cell? ⟨w7.heap.size + 1, 2, none⟩ = some (.int .i64 m2) ∧ Below w.heap.size w w8 := by
    rw [hww8]
    exact ⟨by simp [go_sem], by simp [go_sem], by simp [go_sem], by simp [go_sem], by simp [go_sem], by simp [go_sem], below_via hS (by go_grown)⟩
  rw [← hww8]
  clear hS hww8
  have hS := hT
  clear hT
  (try clear hB hzw)
  have hB := hS.2.2.2.2.2.2
  have hzw : w.heap.size ≤ w8.heap.size := hB.size
  have hz1 : w7.heap.size < w8.heap.size := World.block_lt_of_cell? w8 _ (hS.1)
  have hz2 : w7.heap.size + 1 < w8.heap.size := World.block_lt_of_cell? w8 _ (hS.2.2.2.1)
  have HPM := hide (fun p (h : p ∈ mvV o1 k1 m1 o2 k2 m2 dr) => mv_round h)
  have hvl := mvV_len o1 k1 m1 o2 k2 m2 dr
  obtain ⟨F, hF0⟩ : ∃ q, mvV o1 k1 m1 o2 k2 m2 dr = q := ⟨_, rfl⟩
  have HFV := hide hF0
  rw [hF0] at HPM hvl
  clear hF0
  obtain ⟨K4, HK40⟩ : ∃ q, (mvK o1 k1 m1 o2 k2 m2 dr) = q := ⟨_, rfl⟩
  have HK4 := hide HK40
  clear HK40
  go_wp2_with fail
  refine (DecodeMoved_c o1 k1 m1 o2 k2 m2 dr _).mono ?_
  rw [HFV.out, HK4.out]
  rintro e w9 ⟨A1, c1, rfl, ho1, hb⟩
  obtain ⟨b1, ho1, hbk1⟩ := own_based ho1 (m := w8.heap.size) (by first | omega | (simp; done) | (simp; omega))
  have hT : w9.ownsRow (b1) 25 2 (.slice A1 F.length c1) (F.length) (flat F) ∧ w9.cell? ⟨w7.heap.size, 0, none⟩ = some (.bool o1) ∧ w9.cell? ⟨w7.heap.size, 1, none⟩ = some (.int .i64 k1) ∧ w9.cell? ⟨w7.heap.size, 2, none⟩ = some (.int .i64 m1) ∧ w9.cell? ⟨w7.heap.size + 1, 0, none⟩ = some (.bool o2) ∧ w9.cell? ⟨w7.heap.size + 1, 1, none⟩ = some (.int .i64 k2) ∧ w9.cell? ⟨w7.heap.size + 1, 2, none⟩ = some (.int .i64 m2) ∧ Below w.heap.size w w9 := ⟨ho1, (fun W h hb => ⟨keep_cell (hb) h.1, keep_cell (hb) h.2.1, keep_cell (hb) h.2.2.1, keep_cell (hb) h.2.2.2.1, keep_cell (hb) h.2.2.2.2.1, keep_cell (hb) h.2.2.2.2.2.1, below_via h.2.2.2.2.2.2 (hb)⟩ : ∀ W : World, (W.cell? ⟨w7.heap.size, 0, none⟩ = some (.bool o1) ∧ W.cell? ⟨w7.heap.size, 1, none⟩ = some (.int .i64 k1) ∧ W.cell? ⟨w7.heap.size, 2, none⟩ = some (.int .i64 m1) ∧ W.cell? ⟨w7.heap.size + 1, 0, none⟩ = some (.bool o2) ∧ W.cell? ⟨w7.heap.size + 1, 1, none⟩ = some (.int .i64 k2) ∧ W.cell? ⟨w7.heap.size + 1, 2, none⟩ = some (.int .i64 m2) ∧ Below w.heap.size w W) → Below W.heap.size W w9 → (w9.cell? ⟨w7.heap.size, 0, none⟩ = some (.bool o1) ∧ w9.cell? ⟨w7.heap.size, 1, none⟩ = some (.int .i64 k1) ∧ w9.cell? ⟨w7.heap.size, 2, none⟩ = some (.int .i64 m1) ∧ w9.cell? ⟨w7.heap.size + 1, 0, none⟩ = some (.bool o2) ∧ w9.cell? ⟨w7.heap.size + 1, 1, none⟩ = some (.int .i64 k2) ∧ w9.cell? ⟨w7.heap.size + 1, 2, none⟩ = some (.int .i64 m2) ∧ Below w.heap.size w w9)) _ (by first | (with_reducible assumption) | (exact hS) | (exact ⟨hS.1, hS.2.1, hS.2.2.1, hS.2.2.2.1, hS.2.2.2.2.1, hS.2.2.2.2.2.1, (by go_grown)⟩) | (exact ⟨(by first | (with_reducible assumption) | (simp [go_sem]; done) | ((simp only [go_sem]); (with_reducible assumption)) | ((refine keep_cell ?_ (by with_reducible assumption)); go_grown; done) | (simp [go_sem, *]; done)), (by first | (with_reducible assumption) | (simp [go_sem]; done) | ((simp only [go_sem]); (with_reducible assumption)) | ((refine keep_cell ?_ (by with_reducible assumption)); go_grown; done) | (simp [go_sem, *]; done)), (by first | (with_reducible assumption) | (simp [go_sem]; done) | ((simp only [go_sem]); (with_reducible assumption)) | ((refine keep_cell ?_ (by with_reducible assumption)); go_grown; done) | (simp [go_sem, *]; done)), (by first | (with_reducible assumption) | (simp [go_sem]; done) | ((simp only [go_sem]); (with_reducible assumption)) | ((refine keep_cell ?_ (by with_reducible assumption)); go_grown; done) | (simp [go_sem, *]; done)), (by first | (with_reducible assumption) | (simp [go_sem]; done) | ((simp only [go_sem]); (with_reducible assumption)) | ((refine keep_cell ?_ (by with_reducible assumption)); go_grown; done) | (simp [go_sem, *]; done)), (by first | (with_reducible assumption) | (simp [go_sem]; done) | ((simp only [go_sem]); (with_reducible assumption)) | ((refine keep_cell ?_ (by with_reducible assumption)); go_grown; done) | (simp [go_sem, *]; done)), (by go_grown)⟩)) hb⟩
  (try clear hS)
  have hS := hT
  clear hT
  have hB := hS.2.2.2.2.2.2.2
  have hzw : w.heap.size ≤ w9.heap.size := hB.size
  have hz1 : w7.heap.size < w9.heap.size := World.block_lt_of_cell? w9 _ (hS.2.1)
  have hz2 : w7.heap.size + 1 < w9.heap.size := World.block_lt_of_cell? w9 _ (hS.2.2.2.2.1)
  clear hb
  have hP := hS
  go_wp2_with fail
  refine (sDecodeMoved_c o1 k1 m1 o2 k2 m2 dr _).mono ?_
  rw [HFV.out, HK4.out]
  rintro e w10 ⟨A2, c2, rfl, ho2, hb⟩
  obtain ⟨b2, ho2, hbk2⟩ := own_based ho2 (m := w9.heap.size) (by first | omega | (simp; done) | (simp; omega))
  have ne1_2 := own_ne (hP.1) ho2 hbk2
  clear hP
  have hT : w10.ownsRow (b2) 25 2 (.slice A2 F.length c2) (F.length) (flat F) ∧ w10.ownsRow (b1) 25 2 (.slice A1 F.length c1) (F.length) (flat F) ∧ w10.cell? ⟨w7.heap.size, 0, none⟩ = some (.bool o1) ∧ w10.cell? ⟨w7.heap.size, 1, none⟩ = some (.int .i64 k1) ∧ w10.cell? ⟨w7.heap.size, 2, none⟩ = some (.int .i64 m1) ∧ w10.cell? ⟨w7.heap.size + 1, 0, none⟩ = some (.bool o2) ∧ w10.cell? ⟨w7.heap.size + 1, 1, none⟩ = some (.int .i64 k2) ∧ w10.cell? ⟨w7.heap.size + 1, 2, none⟩ = some (.int .i64 m2) ∧ Below w.heap.size w w10 := ⟨ho2, (fun W h hb => ⟨own_below h.1 (hb), keep_cell (hb) h.2.1, keep_cell (hb) h.2.2.1, keep_cell (hb) h.2.2.2.1, keep_cell (hb) h.2.2.2.2.1, keep_cell (hb) h.2.2.2.2.2.1, keep_cell (hb) h.2.2.2.2.2.2.1, below_via h.2.2.2.2.2.2.2 (hb)⟩ : ∀ W : World, (W.ownsRow (b1) 25 2 (.slice A1 F.length c1) (F.length) (flat F) ∧ W.cell? ⟨w7.heap.size, 0, none⟩ = some (.bool o1) ∧ W.cell? ⟨w7.heap.size, 1, none⟩ = some (.int .i64 k1) ∧ W.cell? ⟨w7.heap.size, 2, none⟩ = some (.int .i64 m1) ∧ W.cell? ⟨w7.heap.size + 1, 0, none⟩ = some (.bool o2) ∧ W.cell? ⟨w7.heap.size + 1, 1, none⟩ = some (.int .i64 k2) ∧ W.cell? ⟨w7.heap.size + 1, 2, none⟩ = some (.int .i64 m2) ∧ Below w.heap.size w W) → Below W.heap.size W w10 → (w10.ownsRow (b1) 25 2 (.slice A1 F.length c1) (F.length) (flat F) ∧ w10.cell? ⟨w7.heap.size, 0, none⟩ = some (.bool o1) ∧ w10.cell? ⟨w7.heap.size, 1, none⟩ = some (.int .i64 k1) ∧ w10.cell? ⟨w7.heap.size, 2, none⟩ = some (.int .i64 m1) ∧ w10.cell? ⟨w7.heap.size + 1, 0, none⟩ = some (.bool o2) ∧ w10.cell? ⟨w7.heap.size + 1, 1, none⟩ = some (.int .i64 k2) ∧ w10.cell? ⟨w7.heap.size + 1, 2, none⟩ = some (.int .i64 m2) ∧ Below w.heap.size w w10)) _ (by first | (with_reducible assumption) | (exact hS) | (exact ⟨hS.1, hS.2.1, hS.2.2.1, hS.2.2.2.1, hS.2.2.2.2.1, hS.2.2.2.2.2.1, hS.2.2.2.2.2.2.1, (by go_grown)⟩) | (exact ⟨(by first | (with_reducible assumption) | (exact World.ownsRow.alloc (by with_reducible assumption) _) | ((refine own_below (by with_reducible assumption) ?_); go_grown)), (by first | (with_reducible assumption) | (simp [go_sem]; done) | ((simp only [go_sem]); (with_reducible assumption)) | ((refine keep_cell ?_ (by with_reducible assumption)); go_grown; done) | (simp [go_sem, *]; done)), (by first | (with_reducible assumption) | (simp [go_sem]; done) | ((simp only [go_sem]); (with_reducible assumption)) | ((refine keep_cell ?_ (by with_reducible assumption)); go_grown; done) | (simp [go_sem, *]; done)), (by first | (with_reducible assumption) | (simp [go_sem]; done) | ((simp only [go_sem]); (with_reducible assumption)) | ((refine keep_cell ?_ (by with_reducible assumption)); go_grown; done) | (simp [go_sem, *]; done)), (by first | (with_reducible assumption) | (simp [go_sem]; done) | ((simp only [go_sem]); (with_reducible assumption)) | ((refine keep_cell ?_ (by with_reducible assumption)); go_grown; done) | (simp [go_sem, *]; done)), (by first | (with_reducible assumption) | (simp [go_sem]; done) | ((simp only [go_sem]); (with_reducible assumption)) | ((refine keep_cell ?_ (by with_reducible assumption)); go_grown; done) | (simp [go_sem, *]; done)), (by first | (with_reducible assumption) | (simp [go_sem]; done) | ((simp only [go_sem]); (with_reducible assumption)) | ((refine keep_cell ?_ (by with_reducible assumption)); go_grown; done) | (simp [go_sem, *]; done)), (by go_grown)⟩)) hb⟩
  (try clear hS)
  have hS := hT
  clear hT
  have hB := hS.2.2.2.2.2.2.2.2
  have hzw : w.heap.size ≤ w10.heap.size := hB.size
  have hz1 : w7.heap.size < w10.heap.size := World.block_lt_of_cell? w10 _ (hS.2.2.1)
  have hz2 : w7.heap.size + 1 < w10.heap.size := World.block_lt_of_cell? w10 _ (hS.2.2.2.2.2.1)
  clear hb
  go_wp2_with fail
  refine (vPlaces_c _ _ _ _ F F _ (hide (own_reads (hS.2.1))) (hide (own_reads (hS.1))) (by omega) (by omega)).mono ?_
  rw [decide_eq_true (show F = F from rfl)]
  rintro e w11 ⟨rfl, hb⟩
  have hT : w11.ownsRow (b2) 25 2 (.slice A2 F.length c2) (F.length) (flat F) ∧ w11.ownsRow (b1) 25 2 (.slice A1 F.length c1) (F.length) (flat F) ∧ w11.cell? ⟨w7.heap.size, 0, none⟩ = some (.bool o1) ∧ w11.cell? ⟨w7.heap.size, 1, none⟩ = some (.int .i64 k1) ∧ w11.cell? ⟨w7.heap.size, 2, none⟩ = some (.int .i64 m1) ∧ w11.cell? ⟨w7.heap.size + 1, 0, none⟩ = some (.bool o2) ∧ w11.cell? ⟨w7.heap.size + 1, 1, none⟩ = some (.int .i64 k2) ∧ w11.cell? ⟨w7.heap.size + 1, 2, none⟩ = some (.int .i64 m2) ∧ Below w.heap.size w w11 := (fun W h hb => ⟨own_below h.1 (hb), own_below h.2.1 (hb), keep_cell (hb) h.2.2.1, keep_cell (hb) h.2.2.2.1, keep_cell (hb) h.2.2.2.2.1, keep_cell (hb) h.2.2.2.2.2.1, keep_cell (hb) h.2.2.2.2.2.2.1, keep_cell (hb) h.2.2.2.2.2.2.2.1, below_via h.2.2.2.2.2.2.2.2 (hb)⟩ : ∀ W : World, (W.ownsRow (b2) 25 2 (.slice A2 F.length c2) (F.length) (flat F) ∧ W.ownsRow (b1) 25 2 (.slice A1 F.length c1) (F.length) (flat F) ∧ W.cell? ⟨w7.heap.size, 0, none⟩ = some (.bool o1) ∧ W.cell? ⟨w7.heap.size, 1, none⟩ = some (.int .i64 k1) ∧ W.cell? ⟨w7.heap.size, 2, none⟩ = some (.int .i64 m1) ∧ W.cell? ⟨w7.heap.size + 1, 0, none⟩ = some (.bool o2) ∧ W.cell? ⟨w7.heap.size + 1, 1, none⟩ = some (.int .i64 k2) ∧ W.cell? ⟨w7.heap.size + 1, 2, none⟩ = some (.int .i64 m2) ∧ Below w.heap.size w W) → Below W.heap.size W w11 → (w11.ownsRow (b2) 25 2 (.slice A2 F.length c2) (F.length) (flat F) ∧ w11.ownsRow (b1) 25 2 (.slice A1 F.length c1) (F.length) (flat F) ∧ w11.cell? ⟨w7.heap.size, 0, none⟩ = some (.bool o1) ∧ w11.cell? ⟨w7.heap.size, 1, none⟩ = some (.int .i64 k1) ∧ w11.cell? ⟨w7.heap.size, 2, none⟩ = some (.int .i64 m1) ∧ w11.cell? ⟨w7.heap.size + 1, 0, none⟩ = some (.bool o2) ∧ w11.cell? ⟨w7.heap.size + 1, 1, none⟩ = some (.int .i64 k2) ∧ w11.cell? ⟨w7.heap.size + 1, 2, none⟩ = some (.int .i64 m2) ∧ Below w.heap.size w w11)) _ (by first | (with_reducible assumption) | (exact hS) | (exact ⟨hS.1, hS.2.1, hS.2.2.1, hS.2.2.2.1, hS.2.2.2.2.1, hS.2.2.2.2.2.1, hS.2.2.2.2.2.2.1, hS.2.2.2.2.2.2.2.1, (by go_grown)⟩) | (exact ⟨(by first | (with_reducible assumption) | (exact World.ownsRow.alloc (by with_reducible assumption) _) | ((refine own_below (by with_reducible assumption) ?_); go_grown)), (by first | (with_reducible assumption) | (exact World.ownsRow.alloc (by with_reducible assumption) _) | ((refine own_below (by with_reducible assumption) ?_); go_grown)), (by first | (with_reducible assumption) | (simp [go_sem]; done) | ((simp only [go_sem]); (with_reducible assumption)) | ((refine keep_cell ?_ (by with_reducible assumption)); go_grown; done) | (simp [go_sem, *]; done)), (by first | (with_reducible assumption) | (simp [go_sem]; done) | ((simp only [go_sem]); (with_reducible assumption)) | ((refine keep_cell ?_ (by with_reducible assumption)); go_grown; done) | (simp [go_sem, *]; done)), (by first | (with_reducible assumption) | (simp [go_sem]; done) | ((simp only [go_sem]); (with_reducible assumption)) | ((refine keep_cell ?_ (by with_reducible assumption)); go_grown; done) | (simp [go_sem, *]; done)), (by first | (with_reducible assumption) | (simp [go_sem]; done) | ((simp only [go_sem]); (with_reducible assumption)) | ((refine keep_cell ?_ (by with_reducible assumption)); go_grown; done) | (simp [go_sem, *]; done)), (by first | (with_reducible assumption) | (simp [go_sem]; done) | ((simp only [go_sem]); (with_reducible assumption)) | ((refine keep_cell ?_ (by with_reducible assumption)); go_grown; done) | (simp [go_sem, *]; done)), (by first | (with_reducible assumption) | (simp [go_sem]; done) | ((simp only [go_sem]); (with_reducible assumption)) | ((refine keep_cell ?_ (by with_reducible assumption)); go_grown; done) | (simp [go_sem, *]; done)), (by go_grown)⟩)) hb
  (try clear hS)
  have hS := hT
  clear hT
  have hB := hS.2.2.2.2.2.2.2.2
  have hzw : w.heap.size ≤ w11.heap.size := hB.size
  have hz1 : w7.heap.size < w11.heap.size := World.block_lt_of_cell? w11 _ (hS.2.2.1)
  have hz2 : w7.heap.size + 1 < w11.heap.size := World.block_lt_of_cell? w11 _ (hS.2.2.2.2.2.1)
  clear hb
  have hS3 : w11.ownsRow (b1) 25 2 (.slice A1 F.length c1) (F.length) (flat F) ∧ w11.cell? ⟨w7.heap.size, 0, none⟩ = some (.bool o1) ∧ w11.cell? ⟨w7.heap.size, 1, none⟩ = some (.int .i64 k1) ∧ w11.cell? ⟨w7.heap.size, 2, none⟩ = some (.int .i64 m1) ∧ w11.cell? ⟨w7.heap.size + 1, 0, none⟩ = some (.bool o2) ∧ w11.cell? ⟨w7.heap.size + 1, 1, none⟩ = some (.int .i64 k2) ∧ w11.cell? ⟨w7.heap.size + 1, 2, none⟩ = some (.int .i64 m2) ∧ Below w.heap.size w w11 := ⟨hS.2.1, hS.2.2.1, hS.2.2.2.1, hS.2.2.2.2.1, hS.2.2.2.2.2.1, hS.2.2.2.2.2.2.1, hS.2.2.2.2.2.2.2.1, hS.2.2.2.2.2.2.2.2⟩
  clear hS
  have hS := hS3
  clear hS3
  obtain ⟨Z, hZ⟩ : ∃ q, w7.heap.size = q := ⟨_, rfl⟩
  rw [hZ] at hS ⊢
  go_upto_region 24 with fail
  go_wp2
  go_loopw [26] (fun iv wr => ∃ i : Nat, i ≤ F.length ∧ iv = .int .i64 i ∧ (wr.ownsRow (b1) 25 2 (.slice A1 F.length c1) (F.length) (flat F) ∧ wr.cell? ⟨Z, 0, none⟩ = some (.bool o1) ∧ wr.cell? ⟨Z, 1, none⟩ = some (.int .i64 k1) ∧ wr.cell? ⟨Z, 2, none⟩ = some (.int .i64 m1) ∧ wr.cell? ⟨Z + 1, 0, none⟩ = some (.bool o2) ∧ wr.cell? ⟨Z + 1, 1, none⟩ = some (.int .i64 k2) ∧ wr.cell? ⟨Z + 1, 2, none⟩ = some (.int .i64 m2) ∧ Below w.heap.size w wr)) (fun iv _ => F.length - (intOf iv).toNat)
  case atStart => exact ⟨0, by omega, rfl, hS⟩
  case round => as_aux_lemma =>
    obtain ⟨i, hi, rfl, hS⟩ := hrel
    have hB := hS.2.2.2.2.2.2.2
    have hzw : w.heap.size ≤ wr.heap.size := hB.size
    by_cases hlt : i < F.length
    rotate_left
    · have hSx := hS
      clear hS
      have hS := hSx.2.2.2.2.2.2.2
      go_wp2_with fail
      refine (drawPair_c A n c _ (hide (h1.out.below (by go_grown))) HN.out).mono ?_
      rintro e w201 ⟨o5, a5, b5, o6, a6, b6, rfl, hb⟩
      have hT : Below w.heap.size w w201 := (fun W h hb => below_via h (hb) : ∀ W : World, (Below w.heap.size w W) → Below W.heap.size W w201 → (Below w.heap.size w w201)) _ (by first | (with_reducible assumption) | go_grown) hb
      (try clear hS)
      have hS := hT
      clear hT
      have hB := hS
      have hzw : w.heap.size ≤ w201.heap.size := hB.size
      clear hb
      go_wp2_with fail
      obtain ⟨w202, hww202⟩ : ∃ W, W = (w201.alloc (.cells #[.bool o5, .int .i64 a5, .int .i64 b5] 31)).alloc (.cells #[.bool o6, .int .i64 a6, .int .i64 b6] 31) := ⟨_, rfl⟩
      have hT : w202.cell? ⟨w201.heap.size, 0, none⟩ = some (.bool o5) ∧ w202.cell? ⟨w201.heap.size, 1, none⟩ = some (.int .i64 a5) ∧ w202.cell? ⟨w201.heap.size, 2, none⟩ = some (.int .i64 b5) ∧ w202.cell? ⟨w201.heap.size + 1, 0, none⟩ = some (.bool o6) ∧ w202.cell? ⟨w201.heap.size + 1, 1, none⟩ = some (.int .i64 a6) ∧ w202.cell? ⟨w201.heap.size + 1, 2, none⟩ = some (.int .i64 b6) ∧ Below w.heap.size w w202 := by
        rw [hww202]
        exact ⟨by simp [go_sem], by simp [go_sem], by simp [go_sem], by simp [go_sem], by simp [go_sem], by simp [go_sem], below_via hS (by go_grown)⟩
      rw [← hww202]
      clear hS hww202
      have hS := hT
      clear hT
      (try clear hB hzw)
      have hB := hS.2.2.2.2.2.2
      have hzw : w.heap.size ≤ w202.heap.size := hB.size
      have hz1 : w201.heap.size < w202.heap.size := World.block_lt_of_cell? w202 _ (hS.1)
      have hz2 : w201.heap.size + 1 < w202.heap.size := World.block_lt_of_cell? w202 _ (hS.2.2.2.1)
      obtain ⟨K7, HK70⟩ : ∃ q, (dpK o5 a5 b5 o6 a6 b6) = q := ⟨_, rfl⟩
      have HK7 := hide HK70
      clear HK70
      obtain ⟨X7, HX70⟩ : ∃ q, (dpX o5 a5 b5 o6 a6 b6) = q := ⟨_, rfl⟩
      have HX7 := hide HX70
      clear HX70
      obtain ⟨Y7, HY70⟩ : ∃ q, (dpY o5 a5 b5 o6 a6 b6) = q := ⟨_, rfl⟩
      have HY7 := hide HY70
      clear HY70
      go_wp2_with fail
      refine (decodePair_c o5 a5 b5 o6 a6 b6 _).mono ?_
      rw [HX7.out, HY7.out, HK7.out]
      rintro e w203 ⟨rfl, hb⟩
      have hT : w203.cell? ⟨w201.heap.size, 0, none⟩ = some (.bool o5) ∧ w203.cell? ⟨w201.heap.size, 1, none⟩ = some (.int .i64 a5) ∧ w203.cell? ⟨w201.heap.size, 2, none⟩ = some (.int .i64 b5) ∧ w203.cell? ⟨w201.heap.size + 1, 0, none⟩ = some (.bool o6) ∧ w203.cell? ⟨w201.heap.size + 1, 1, none⟩ = some (.int .i64 a6) ∧ w203.cell? ⟨w201.heap.size + 1, 2, none⟩ = some (.int .i64 b6) ∧ Below w.heap.size w w203 := (fun W h hb => ⟨keep_cell (hb) h.1, keep_cell (hb) h.2.1, keep_cell (hb) h.2.2.1, keep_cell (hb) h.2.2.2.1, keep_cell (hb) h.2.2.2.2.1, keep_cell (hb) h.2.2.2.2.2.1, below_via h.2.2.2.2.2.2 (hb)⟩ : ∀ W : World, (W.cell? ⟨w201.heap.size, 0, none⟩ = some (.bool o5) ∧ W.cell? ⟨w201.heap.size, 1, none⟩ = some (.int .i64 a5) ∧ W.cell? ⟨w201.heap.size, 2, none⟩ = some (.int .i64 b5) ∧ W.cell? ⟨w201.heap.size + 1, 0, none⟩ = some (.bool o6) ∧ W.cell? ⟨w201.heap.size + 1, 1, none⟩ = some (.int .i64 a6) ∧ W.cell? ⟨w201.heap.size + 1, 2, none⟩ = some (.int .i64 b6) ∧ Below w.heap.size w W) → Below W.heap.size W w203 → (w203.cell? ⟨w201.heap.size, 0, none⟩ = some (.bool o5) ∧ w203.cell? ⟨w201.heap.size, 1, none⟩ = some (.int .i64 a5) ∧ w203.cell? ⟨w201.heap.size, 2, none⟩ = some (.int .i64 b5) ∧ w203.cell? ⟨w201.heap.size + 1, 0, none⟩ = some (.bool o6) ∧ w203.cell? ⟨w201.heap.size + 1, 1, none⟩ = some (.int .i64 a6) ∧ w203.cell? ⟨w201.heap.size + 1, 2, none⟩ = some (.int .i64 b6) ∧ Below w.heap.size w w203)) _ (by first | (with_reducible assumption) | (exact hS) | (exact ⟨hS.1, hS.2.1, hS.2.2.1, hS.2.2.2.1, hS.2.2.2.2.1, hS.2.2.2.2.2.1, (by go_grown)⟩) | (exact ⟨(by first | (with_reducible assumption) | (simp [go_sem]; done) | ((simp only [go_sem]); (with_reducible assumption)) | ((refine keep_cell ?_ (by with_reducible assumption)); go_grown; done) | (simp [go_sem, *]; done)), (by first | (with_reducible assumption) | (simp [go_sem]; done) | ((simp only [go_sem]); (with_reducible assumption)) | ((refine keep_cell ?_ (by with_reducible assumption)); go_grown; done) | (simp [go_sem, *]; done)), (by first | (with_reducible assumption) | (simp [go_sem]; done) | ((simp only [go_sem]); (with_reducible assumption)) | ((refine keep_cell ?_ (by with_reducible assumption)); go_grown; done) | (simp [go_sem, *]; done)), (by first | (with_reducible assumption) | (simp [go_sem]; done) | ((simp only [go_sem]); (with_reducible assumption)) | ((refine keep_cell ?_ (by with_reducible assumption)); go_grown; done) | (simp [go_sem, *]; done)), (by first | (with_reducible assumption) | (simp [go_sem]; done) | ((simp only [go_sem]); (with_reducible assumption)) | ((refine keep_cell ?_ (by with_reducible assumption)); go_grown; done) | (simp [go_sem, *]; done)), (by first | (with_reducible assumption) | (simp [go_sem]; done) | ((simp only [go_sem]); (with_reducible assumption)) | ((refine keep_cell ?_ (by with_reducible assumption)); go_grown; done) | (simp [go_sem, *]; done)), (by go_grown)⟩)) hb
      (try clear hS)
      have hS := hT
      clear hT
      have hB := hS.2.2.2.2.2.2
      have hzw : w.heap.size ≤ w203.heap.size := hB.size
      have hz1 : w201.heap.size < w203.heap.size := World.block_lt_of_cell? w203 _ (hS.1)
      have hz2 : w201.heap.size + 1 < w203.heap.size := World.block_lt_of_cell? w203 _ (hS.2.2.2.1)
      clear hb
      go_wp2_with fail
      obtain ⟨w204, hww204⟩ : ∃ W, W = w203.alloc (.cells #[.int .i64 X7, .int .i64 Y7] 25) := ⟨_, rfl⟩
      have hT : w204.cell? ⟨w203.heap.size, 0, none⟩ = some (.int .i64 X7) ∧ w204.cell? ⟨w203.heap.size, 1, none⟩ = some (.int .i64 Y7) ∧ w204.cell? ⟨w201.heap.size, 0, none⟩ = some (.bool o5) ∧ w204.cell? ⟨w201.heap.size, 1, none⟩ = some (.int .i64 a5) ∧ w204.cell? ⟨w201.heap.size, 2, none⟩ = some (.int .i64 b5) ∧ w204.cell? ⟨w201.heap.size + 1, 0, none⟩ = some (.bool o6) ∧ w204.cell? ⟨w201.heap.size + 1, 1, none⟩ = some (.int .i64 a6) ∧ w204.cell? ⟨w201.heap.size + 1, 2, none⟩ = some (.int .i64 b6) ∧ Below w.heap.size w w204 := by
        rw [hww204]
        exact ⟨by simp [go_sem], by simp [go_sem], keep_cell (by go_grown) hS.1, keep_cell (by go_grown) hS.2.1, keep_cell (by go_grown) hS.2.2.1, keep_cell (by go_grown) hS.2.2.2.1, keep_cell (by go_grown) hS.2.2.2.2.1, keep_cell (by go_grown) hS.2.2.2.2.2.1, below_via hS.2.2.2.2.2.2 (by go_grown)⟩
      rw [← hww204]
      clear hS hww204
      have hS := hT
      clear hT
      (try clear hB hzw)
      have hB := hS.2.2.2.2.2.2.2.2
      have hzw : w.heap.size ≤ w204.heap.size := hB.size
      have hz1 : w203.heap.size < w204.heap.size := World.block_lt_of_cell? w204 _ (hS.1)
      have hz2 : w201.heap.size < w204.heap.size := World.block_lt_of_cell? w204 _ (hS.2.2.1)
      have hz3 : w201.heap.size + 1 < w204.heap.size := World.block_lt_of_cell? w204 _ (hS.2.2.2.2.2.1)
      go_wp2_with fail
      refine (sDecodePair_c o5 a5 b5 o6 a6 b6 _).mono ?_
      rw [HX7.out, HY7.out, HK7.out]
      rintro e w205 ⟨rfl, hb⟩
      have hT : w205.cell? ⟨w203.heap.size, 0, none⟩ = some (.int .i64 X7) ∧ w205.cell? ⟨w203.heap.size, 1, none⟩ = some (.int .i64 Y7) ∧ w205.cell? ⟨w201.heap.size, 0, none⟩ = some (.bool o5) ∧ w205.cell? ⟨w201.heap.size, 1, none⟩ = some (.int .i64 a5) ∧ w205.cell? ⟨w201.heap.size, 2, none⟩ = some (.int .i64 b5) ∧ w205.cell? ⟨w201.heap.size + 1, 0, none⟩ = some (.bool o6) ∧ w205.cell? ⟨w201.heap.size + 1, 1, none⟩ = some (.int .i64 a6) ∧ w205.cell? ⟨w201.heap.size + 1, 2, none⟩ = some (.int .i64 b6) ∧ Below w.heap.size w w205 := (fun W h hb => ⟨keep_cell (hb) h.1, keep_cell (hb) h.2.1, keep_cell (hb) h.2.2.1, keep_cell (hb) h.2.2.2.1, keep_cell (hb) h.2.2.2.2.1, keep_cell (hb) h.2.2.2.2.2.1, keep_cell (hb) h.2.2.2.2.2.2.1, keep_cell (hb) h.2.2.2.2.2.2.2.1, below_via h.2.2.2.2.2.2.2.2 (hb)⟩ : ∀ W : World, (W.cell? ⟨w203.heap.size, 0, none⟩ = some (.int .i64 X7) ∧ W.cell? ⟨w203.heap.size, 1, none⟩ = some (.int .i64 Y7) ∧ W.cell? ⟨w201.heap.size, 0, none⟩ = some (.bool o5) ∧ W.cell? ⟨w201.heap.size, 1, none⟩ = some (.int .i64 a5) ∧ W.cell? ⟨w201.heap.size, 2, none⟩ = some (.int .i64 b5) ∧ W.cell? ⟨w201.heap.size + 1, 0, none⟩ = some (.bool o6) ∧ W.cell? ⟨w201.heap.size + 1, 1, none⟩ = some (.int .i64 a6) ∧ W.cell? ⟨w201.heap.size + 1, 2, none⟩ = some (.int .i64 b6) ∧ Below w.heap.size w W) → Below W.heap.size W w205 → (w205.cell? ⟨w203.heap.size, 0, none⟩ = some (.int .i64 X7) ∧ w205.cell? ⟨w203.heap.size, 1, none⟩ = some (.int .i64 Y7) ∧ w205.cell? ⟨w201.heap.size, 0, none⟩ = some (.bool o5) ∧ w205.cell? ⟨w201.heap.size, 1, none⟩ = some (.int .i64 a5) ∧ w205.cell? ⟨w201.heap.size, 2, none⟩ = some (.int .i64 b5) ∧ w205.cell? ⟨w201.heap.size + 1, 0, none⟩ = some (.bool o6) ∧ w205.cell? ⟨w201.heap.size + 1, 1, none⟩ = some (.int .i64 a6) ∧ w205.cell? ⟨w201.heap.size + 1, 2, none⟩ = some (.int .i64 b6) ∧ Below w.heap.size w w205)) _ (by first | (with_reducible assumption) | (exact hS) | (exact ⟨hS.1, hS.2.1, hS.2.2.1, hS.2.2.2.1, hS.2.2.2.2.1, hS.2.2.2.2.2.1, hS.2.2.2.2.2.2.1, hS.2.2.2.2.2.2.2.1, (by go_grown)⟩) | (exact ⟨(by first | (with_reducible assumption) | (simp [go_sem]; done) | ((simp only [go_sem]); (with_reducible assumption)) | ((refine keep_cell ?_ (by with_reducible assumption)); go_grown; done) | (simp [go_sem, *]; done)), (by first | (with_reducible assumption) | (simp [go_sem]; done) | ((simp only [go_sem]); (with_reducible assumption)) | ((refine keep_cell ?_ (by with_reducible assumption)); go_grown; done) | (simp [go_sem, *]; done)), (by first | (with_reducible assumption) | (simp [go_sem]; done) | ((simp only [go_sem]); (with_reducible assumption)) | ((refine keep_cell ?_ (by with_reducible assumption)); go_grown; done) | (simp [go_sem, *]; done)), (by first | (with_reducible assumption) | (simp [go_sem]; done) | ((simp only [go_sem]); (with_reducible assumption)) | ((refine keep_cell ?_ (by with_reducible assumption)); go_grown; done) | (simp [go_sem, *]; done)), (by first | (with_reducible assumption) | (simp [go_sem]; done) | ((simp only [go_sem]); (with_reducible assumption)) | ((refine keep_cell ?_ (by with_reducible assumption)); go_grown; done) | (simp [go_sem, *]; done)), (by first | (with_reducible assumption) | (simp [go_sem]; done) | ((simp only [go_sem]); (with_reducible assumption)) | ((refine keep_cell ?_ (by with_reducible assumption)); go_grown; done) | (simp [go_sem, *]; done)), (by first | (with_reducible assumption) | (simp [go_sem]; done) | ((simp only [go_sem]); (with_reducible assumption)) | ((refine keep_cell ?_ (by with_reducible assumption)); go_grown; done) | (simp [go_sem, *]; done)), (by first | (with_reducible assumption) | (simp [go_sem]; done) | ((simp only [go_sem]); (with_reducible assumption)) | ((refine keep_cell ?_ (by with_reducible assumption)); go_grown; done) | (simp [go_sem, *]; done)), (by go_grown)⟩)) hb
      (try clear hS)
      have hS := hT
      clear hT
      have hB := hS.2.2.2.2.2.2.2.2
      have hzw : w.heap.size ≤ w205.heap.size := hB.size
      have hz1 : w203.heap.size < w205.heap.size := World.block_lt_of_cell? w205 _ (hS.1)
      have hz2 : w201.heap.size < w205.heap.size := World.block_lt_of_cell? w205 _ (hS.2.2.1)
      have hz3 : w201.heap.size + 1 < w205.heap.size := World.block_lt_of_cell? w205 _ (hS.2.2.2.2.2.1)
      clear hb
      go_wp2
      go_returns
      exact ⟨ret_eq (by simp), by go_grown⟩
    obtain ⟨g9, hA6, hg90, hg91⟩ := own_at (hS.1) (by omega)
    subst hA6
    obtain ⟨ux, uy⟩ := own_pt (hS.1) hlt
    obtain ⟨⟨f1, f2, f3, f4⟩, f5, ⟨ewx, ewy⟩, ⟨⟨g1, g2⟩, g3, g4⟩, tx, ty⟩ := HPM.out _ (px_mem hlt)
    simp only at f1 f2 f3 f4 f5 ewx ewy g1 g2 g3 g4 tx ty
    obtain ⟨fx, hfx⟩ : ∃ q, px F i = q := ⟨_, rfl⟩
    obtain ⟨fy, hfy⟩ : ∃ q, py F i = q := ⟨_, rfl⟩
    rw [hfx] at ux
    rw [hfy] at uy
    rw [hfx, hfy] at f1 f2 f3 f4 f5 ewx ewy g1 g2 g3 g4 tx ty
    clear hfx hfy
    have HC := hide (fun W : World => (reportOf_c fx fy o2 W))
    rw [f1, f2, f3, f4] at HC
    have HD := hide (fun W : World => (decodeNear_c o1 k1 m1 fx fy W))
    obtain ⟨X, hX⟩ : ∃ q, dnX o1 k1 m1 fx fy = q := ⟨_, rfl⟩
    obtain ⟨Y, hY⟩ : ∃ q, dnY o1 k1 m1 fx fy = q := ⟨_, rfl⟩
    rw [hX, hY, f5] at HD
    rw [hX] at ewx g1 g2 tx
    rw [hY] at ewy g3 g4 ty
    clear f1 f2 f3 f4 f5 hX hY
    have HVX := hide (vAbs_c (X - fx) g1 g2)
    have HVY := hide (vAbs_c (Y - fy) g3 g4)
    obtain ⟨VX, hVX⟩ : ∃ q, ab (X - fx) = q := ⟨_, rfl⟩
    obtain ⟨VY, hVY⟩ : ∃ q, ab (Y - fy) = q := ⟨_, rfl⟩
    rw [hVX] at HVX tx
    rw [hVY] at HVY ty
    clear hVX hVY g1 g2 g3 g4
    have hS3 : wr.cell? ⟨g9, i * 2, none⟩ = some (.int .i64 fx) ∧ wr.cell? ⟨g9, i * 2 + 1, none⟩ = some (.int .i64 fy) ∧ wr.ownsRow (b1) 25 2 (.slice (some ⟨g9, 0, none⟩) F.length c1) (F.length) (flat F) ∧ wr.cell? ⟨Z, 0, none⟩ = some (.bool o1) ∧ wr.cell? ⟨Z, 1, none⟩ = some (.int .i64 k1) ∧ wr.cell? ⟨Z, 2, none⟩ = some (.int .i64 m1) ∧ wr.cell? ⟨Z + 1, 0, none⟩ = some (.bool o2) ∧ wr.cell? ⟨Z + 1, 1, none⟩ = some (.int .i64 k2) ∧ wr.cell? ⟨Z + 1, 2, none⟩ = some (.int .i64 m2) ∧ Below w.heap.size w wr := ⟨ux, uy, hS.1, hS.2.1, hS.2.2.1, hS.2.2.2.1, hS.2.2.2.2.1, hS.2.2.2.2.2.1, hS.2.2.2.2.2.2.1, hS.2.2.2.2.2.2.2⟩
    clear hS
    have hS := hS3
    clear hS3
    go_upto_region 27 with fail
    have hS2 := hS
    obtain ⟨q0, q1, q2, q3, q4, q5, q6, q7, q8, hF⟩ := hS2
    have hzw : w.heap.size ≤ wr.heap.size := hF.size
    have hB := hF
    have hz1 : g9 < wr.heap.size := World.block_lt_of_cell? wr _ q0
    have hz2 : Z < wr.heap.size := World.block_lt_of_cell? wr _ q3
    have hz3 : Z + 1 < wr.heap.size := World.block_lt_of_cell? wr _ q6
    go_cut [27, 28] (fun s t wx => ∃ U : Nat, s = .pointer (some ⟨U, 0, none⟩) ∧ t = .bool true ∧ (wx.cell? ⟨g9, i * 2, none⟩ = some (.int .i64 fx) ∧ wx.cell? ⟨g9, i * 2 + 1, none⟩ = some (.int .i64 fy) ∧ wx.ownsRow (b1) 25 2 (.slice (some ⟨g9, 0, none⟩) F.length c1) (F.length) (flat F) ∧ wx.cell? ⟨Z, 0, none⟩ = some (.bool o1) ∧ wx.cell? ⟨Z, 1, none⟩ = some (.int .i64 k1) ∧ wx.cell? ⟨Z, 2, none⟩ = some (.int .i64 m1) ∧ wx.cell? ⟨Z + 1, 0, none⟩ = some (.bool o2) ∧ wx.cell? ⟨Z + 1, 1, none⟩ = some (.int .i64 k2) ∧ wx.cell? ⟨Z + 1, 2, none⟩ = some (.int .i64 m2) ∧ wx.cell? ⟨U, 0, none⟩ = some (.bool o2) ∧ wx.cell? ⟨U, 1, none⟩ = some (.int .i64 k2) ∧ wx.cell? ⟨U, 2, none⟩ = some (.int .i64 m2) ∧ Below w.heap.size w wx))
    case first => as_aux_lemma =>
      refine wp_region_all (by kernel_rfl) ?_
      obtain ⟨w401, hwq⟩ : ∃ W, World.drew wr = W := ⟨_, rfl⟩
      have hb : Below wr.heap.size wr w401 := by rw [← hwq]; go_grown
      rw [hwq]
      have hT := ai (kc hb q0) <| ai (kc hb q1) <| ai (own_below q2 hb) <| ai (kc hb q3) <| ai (kc hb q4) <| ai (kc hb q5) <| ai (kc hb q6) <| ai (kc hb q7) <| ai (kc hb q8) <| below_via hF hb
      clear hS hb hwq
      have hS := hT
      clear hT
      have hS2 := hS
      obtain ⟨q0, q1, q2, q3, q4, q5, q6, q7, q8, hF⟩ := hS2
      have hzw : w.heap.size ≤ w401.heap.size := hF.size
      have hB := hF
      have hz1 : g9 < w401.heap.size := World.block_lt_of_cell? w401 _ q0
      have hz2 : Z < w401.heap.size := World.block_lt_of_cell? w401 _ q3
      have hz3 : Z + 1 < w401.heap.size := World.block_lt_of_cell? w401 _ q6
      have HK9 := hide hS
      have hT : w401.cell? ⟨g9, i * 2, none⟩ = some (.int .i64 fx) ∧ w401.cell? ⟨g9, i * 2 + 1, none⟩ = some (.int .i64 fy) ∧ w401.cell? ⟨Z + 1, 0, none⟩ = some (.bool o2) ∧ Below w401.heap.size w401 w401 ∧ Below w.heap.size w w401 := ⟨hS.1, hS.2.1, hS.2.2.2.2.2.2.1, Below.refl _ _, hS.2.2.2.2.2.2.2.2.2⟩
      clear hS
      have hS := hT
      clear hT
      have hS2 := hS
      obtain ⟨q0, q1, q2, q3, hF⟩ := hS2
      have hzw : w.heap.size ≤ w401.heap.size := hF.size
      have hB := hF
      have hz1 : g9 < w401.heap.size := World.block_lt_of_cell? w401 _ q0
      have hz2 : Z + 1 < w401.heap.size := World.block_lt_of_cell? w401 _ q2
      have hzk401 : w401.heap.size ≤ w401.heap.size := q3.size
      refine all_split 10 6 (by decide) ?_ ?_
      · refine all_seq_core [0, 1, 2, 3, 4, 5, 10, 6, 7, 8, 9, 11, 12] (fun W => W.cell? ⟨g9, i * 2, none⟩ = some (.int .i64 fx) ∧ W.cell? ⟨g9, i * 2 + 1, none⟩ = some (.int .i64 fy) ∧ W.cell? ⟨Z + 1, 0, none⟩ = some (.bool o2) ∧ Below w.heap.size w W) (addE_core 10 6 _) (by kernel_rfl) ⟨hS.1, hS.2.1, hS.2.2.1, hS.2.2.2.2⟩ ?_
        simp only [byNum, List.getElem?_cons_zero, List.getElem?_cons_succ]
        repeat (first
          | ((refine seq_skip (by rfl) (by rfl) ?_); simp only [Act.put, List.setIfInBounds_toArray, List.set_cons_zero, List.set_cons_succ])
          | ((refine seq_val (v := ?_) (by rfl) (by rfl) (fun w hS => ?_) ?_); rotate_left; (focus ((try dsimp only at hS); go_simp; (try (with_reducible rfl)); done)); simp only [Act.put, List.setIfInBounds_toArray, List.set_cons_zero, List.set_cons_succ]))
        refine seq_deed (v := ?_) (w' := ?_) (by rfl) (by rfl) ?_ ?_
        rotate_left
        rotate_left
        focus (go_simp; (constructor <;> (with_reducible rfl)); done)
        generalize hgw402 : World.alloc w401 _ = w402
        have hb : Below w401.heap.size w401 w402 := by rw [← hgw402]; go_grown
        obtain ⟨n9, n0, n1, n2⟩ := al3 hgw402
        have hT := ai (kc hb q0) <| ai (kc hb q1) <| ai (kc hb q2) <| ai (below_via q3 hb) <| ai (n9) <| ai (n0) <| ai (n1) <| ai (n2) <| below_via (hS.2.2.2.2) hb
        clear n9 n0 n1 n2
        clear hS hb hgw402
        have hS := hT
        clear hT
        have hS2 := hS
        obtain ⟨q0, q1, q2, q3, ⟨f4, fr4⟩, q5, q6, q7, hF⟩ := hS2
        have hzw : w.heap.size ≤ w402.heap.size := hF.size
        have hB := hF
        have hz1 : g9 < w402.heap.size := World.block_lt_of_cell? w402 _ q0
        have hz2 : Z + 1 < w402.heap.size := World.block_lt_of_cell? w402 _ q2
        have hzk402 : w401.heap.size ≤ w402.heap.size := q3.size
        have hz3 : w401.heap.size < w402.heap.size := World.block_lt_of_cell? w402 _ q5
        refine ⟨(fun W => W.cell? ⟨g9, i * 2, none⟩ = some (.int .i64 fx) ∧ W.cell? ⟨g9, i * 2 + 1, none⟩ = some (.int .i64 fy) ∧ W.cell? ⟨Z + 1, 0, none⟩ = some (.bool o2) ∧ Below w.heap.size w W), ⟨hS.1, hS.2.1, hS.2.2.1, hS.2.2.2.2.2.2.2.2⟩, (fun W h => h), ?_⟩
        simp only [Act.put, List.setIfInBounds_toArray, List.set_cons_zero, List.set_cons_succ]
        repeat (first
          | ((refine seq_skip (by rfl) (by rfl) ?_); simp only [Act.put, List.setIfInBounds_toArray, List.set_cons_zero, List.set_cons_succ])
          | ((refine seq_val (v := ?_) (by rfl) (by rfl) (fun w hS => ?_) ?_); rotate_left; (focus ((try dsimp only at hS); go_simp; (try (with_reducible rfl)); done)); simp only [Act.put, List.setIfInBounds_toArray, List.set_cons_zero, List.set_cons_succ]))
        refine seq_call (f := ?_) (args := ?_) (by rfl) (by rfl) ?_ ?_
        rotate_left
        rotate_left
        focus (go_simp; (constructor <;> (with_reducible rfl)); done)
        refine (HC.out _).mono ?_
        rintro e w403 ⟨rfl, hb⟩
        have hT := ai (kc hb q0) <| ai (kc hb q1) <| ai (kc hb q2) <| ai (below_via q3 hb) <| ai (kf hb f4 fr4) <| ai (kc hb q5) <| ai (kc hb q6) <| ai (kc hb q7) <| below_via hF hb
        clear hS hb
        have hS := hT
        clear hT
        have hS2 := hS
        obtain ⟨q0, q1, q2, q3, ⟨f4, fr4⟩, q5, q6, q7, hF⟩ := hS2
        have hzw : w.heap.size ≤ w403.heap.size := hF.size
        have hB := hF
        have hz1 : g9 < w403.heap.size := World.block_lt_of_cell? w403 _ q0
        have hz2 : Z + 1 < w403.heap.size := World.block_lt_of_cell? w403 _ q2
        have hzk403 : w401.heap.size ≤ w403.heap.size := q3.size
        have hz3 : w401.heap.size < w403.heap.size := World.block_lt_of_cell? w403 _ q5
        refine ⟨_, rfl, (fun W => W.cell? ⟨g9, i * 2, none⟩ = some (.int .i64 fx) ∧ W.cell? ⟨g9, i * 2 + 1, none⟩ = some (.int .i64 fy) ∧ W.cell? ⟨Z + 1, 0, none⟩ = some (.bool o2) ∧ Below w.heap.size w W), ⟨hS.1, hS.2.1, hS.2.2.1, hS.2.2.2.2.2.2.2.2⟩, (fun W h => h), ?_⟩
        simp only [Act.put, List.setIfInBounds_toArray, List.set_cons_zero, List.set_cons_succ]
        repeat (first
          | ((refine seq_skip (by rfl) (by rfl) ?_); simp only [Act.put, List.setIfInBounds_toArray, List.set_cons_zero, List.set_cons_succ])
          | ((refine seq_val (v := ?_) (by rfl) (by rfl) (fun w hS => ?_) ?_); rotate_left; (focus ((try dsimp only at hS); go_simp; (try (with_reducible rfl)); done)); simp only [Act.put, List.setIfInBounds_toArray, List.set_cons_zero, List.set_cons_succ]))
        obtain ⟨w404, hw404⟩ : ∃ W, W = ((w403.setCell ⟨w401.heap.size, 0, none⟩ (.bool o2)).setCell ⟨w401.heap.size, 1, none⟩ (.int .i64 k2)).setCell ⟨w401.heap.size, 2, none⟩ (.int .i64 m2) := ⟨_, rfl⟩
        obtain ⟨dd0, dd1, dd2, dd3, dd4⟩ := box3_sets q5 q6 q7 (.bool o2) (.int .i64 k2) (.int .i64 m2)
        refine seq_store (w' := w404) (by rfl) (by rfl) (by rw [hw404]; go_simp; (try (with_reducible rfl)); done) ?_
        obtain ⟨dw0, dw1, dw2⟩ := s3w hw404 q5 q6 q7
        have hT := ai (s3o hw404 (by omega) q0) <| ai (s3o hw404 (by omega) q1) <| ai (s3o hw404 (by omega) q2) <| ai (s3b hw404 (by omega) q3) <| ai (s3f hw404 f4 fr4) <| ai (dw0) <| ai (dw1) <| ai (dw2) <| s3b hw404 (by omega) hF
        clear dw0 dw1 dw2
        (try clear hS)
        have hS := hT
        clear hT dd0 dd1 dd2 dd3 dd4 hw404
        have hS2 := hS
        obtain ⟨q0, q1, q2, q3, ⟨f4, fr4⟩, q5, q6, q7, hF⟩ := hS2
        have hzw : w.heap.size ≤ w404.heap.size := hF.size
        have hB := hF
        have hz1 : g9 < w404.heap.size := World.block_lt_of_cell? w404 _ q0
        have hz2 : Z + 1 < w404.heap.size := World.block_lt_of_cell? w404 _ q2
        have hzk404 : w401.heap.size ≤ w404.heap.size := q3.size
        have hz3 : w401.heap.size < w404.heap.size := World.block_lt_of_cell? w404 _ q5
        refine ⟨(fun W => W.cell? ⟨g9, i * 2, none⟩ = some (.int .i64 fx) ∧ W.cell? ⟨g9, i * 2 + 1, none⟩ = some (.int .i64 fy) ∧ W.cell? ⟨Z + 1, 0, none⟩ = some (.bool o2) ∧ Below w.heap.size w W), ⟨hS.1, hS.2.1, hS.2.2.1, hS.2.2.2.2.2.2.2.2⟩, (fun W h => h), ?_⟩
        simp only [Act.put, List.setIfInBounds_toArray, List.set_cons_zero, List.set_cons_succ]
        repeat (first
          | ((refine seq_skip (by rfl) (by rfl) ?_); simp only [Act.put, List.setIfInBounds_toArray, List.set_cons_zero, List.set_cons_succ])
          | ((refine seq_val (v := ?_) (by rfl) (by rfl) (fun w hS => ?_) ?_); rotate_left; (focus ((try dsimp only at hS); go_simp; (try (with_reducible rfl)); done)); simp only [Act.put, List.setIfInBounds_toArray, List.set_cons_zero, List.set_cons_succ]))
        refine seq_nil ?_
        go_wp2_with fail
        go_meet
        case rel => exact ⟨w401.heap.size, rfl, rfl, hS.1, hS.2.1, own_below (HK9.out.2.2.1) (hS.2.2.2.1), kc (hS.2.2.2.1) (HK9.out.2.2.2.1), kc (hS.2.2.2.1) (HK9.out.2.2.2.2.1), kc (hS.2.2.2.1) (HK9.out.2.2.2.2.2.1), hS.2.2.1, kc (hS.2.2.2.1) (HK9.out.2.2.2.2.2.2.2.1), kc (hS.2.2.2.1) (HK9.out.2.2.2.2.2.2.2.2.1), hS.2.2.2.2.2.1, hS.2.2.2.2.2.2.1, hS.2.2.2.2.2.2.2.1, hS.2.2.2.2.2.2.2.2⟩
      · refine all_seq_core [0, 1, 2, 3, 4, 5, 6, 7, 8, 9, 10, 11, 12] (fun W => W.cell? ⟨g9, i * 2, none⟩ = some (.int .i64 fx) ∧ W.cell? ⟨g9, i * 2 + 1, none⟩ = some (.int .i64 fy) ∧ W.cell? ⟨Z + 1, 0, none⟩ = some (.bool o2) ∧ Below w.heap.size w W) (addE_core 6 10 _) (by kernel_rfl) ⟨hS.1, hS.2.1, hS.2.2.1, hS.2.2.2.2⟩ ?_
        simp only [byNum, List.getElem?_cons_zero, List.getElem?_cons_succ]
        repeat (first
          | ((refine seq_skip (by rfl) (by rfl) ?_); simp only [Act.put, List.setIfInBounds_toArray, List.set_cons_zero, List.set_cons_succ])
          | ((refine seq_val (v := ?_) (by rfl) (by rfl) (fun w hS => ?_) ?_); rotate_left; (focus ((try dsimp only at hS); go_simp; (try (with_reducible rfl)); done)); simp only [Act.put, List.setIfInBounds_toArray, List.set_cons_zero, List.set_cons_succ]))
        refine seq_call (f := ?_) (args := ?_) (by rfl) (by rfl) ?_ ?_
        rotate_left
        rotate_left
        focus (go_simp; (constructor <;> (with_reducible rfl)); done)
        refine (HC.out _).mono ?_
        rintro e w402 ⟨rfl, hb⟩
        have hT := ai (kc hb q0) <| ai (kc hb q1) <| ai (kc hb q2) <| ai (below_via q3 hb) <| below_via hF hb
        clear hS hb
        have hS := hT
        clear hT
        have hS2 := hS
        obtain ⟨q0, q1, q2, q3, hF⟩ := hS2
        have hzw : w.heap.size ≤ w402.heap.size := hF.size
        have hB := hF
        have hz1 : g9 < w402.heap.size := World.block_lt_of_cell? w402 _ q0
        have hz2 : Z + 1 < w402.heap.size := World.block_lt_of_cell? w402 _ q2
        have hzk402 : w401.heap.size ≤ w402.heap.size := q3.size
        refine ⟨_, rfl, (fun W => W.cell? ⟨g9, i * 2, none⟩ = some (.int .i64 fx) ∧ W.cell? ⟨g9, i * 2 + 1, none⟩ = some (.int .i64 fy) ∧ W.cell? ⟨Z + 1, 0, none⟩ = some (.bool o2) ∧ Below w.heap.size w W), ⟨hS.1, hS.2.1, hS.2.2.1, hS.2.2.2.2⟩, (fun W h => h), ?_⟩
        simp only [Act.put, List.setIfInBounds_toArray, List.set_cons_zero, List.set_cons_succ]
        repeat (first
          | ((refine seq_skip (by rfl) (by rfl) ?_); simp only [Act.put, List.setIfInBounds_toArray, List.set_cons_zero, List.set_cons_succ])
          | ((refine seq_val (v := ?_) (by rfl) (by rfl) (fun w hS => ?_) ?_); rotate_left; (focus ((try dsimp only at hS); go_simp; (try (with_reducible rfl)); done)); simp only [Act.put, List.setIfInBounds_toArray, List.set_cons_zero, List.set_cons_succ]))
        refine seq_deed (v := ?_) (w' := ?_) (by rfl) (by rfl) ?_ ?_
        rotate_left
        rotate_left
        focus (go_simp; (constructor <;> (with_reducible rfl)); done)
        generalize hgw403 : World.alloc w402 _ = w403
        have hb : Below w402.heap.size w402 w403 := by rw [← hgw403]; go_grown
        obtain ⟨n9, n0, n1, n2⟩ := al3 hgw403
        have hT := ai (kc hb q0) <| ai (kc hb q1) <| ai (kc hb q2) <| ai (below_via q3 hb) <| ai (n9) <| ai (n0) <| ai (n1) <| ai (n2) <| below_via (hS.2.2.2.2) hb
        clear n9 n0 n1 n2
        clear hS hb hgw403
        have hS := hT
        clear hT
        have hS2 := hS
        obtain ⟨q0, q1, q2, q3, ⟨f4, fr4⟩, q5, q6, q7, hF⟩ := hS2
        have hzw : w.heap.size ≤ w403.heap.size := hF.size
        have hB := hF
        have hz1 : g9 < w403.heap.size := World.block_lt_of_cell? w403 _ q0
        have hz2 : Z + 1 < w403.heap.size := World.block_lt_of_cell? w403 _ q2
        have hzk403 : w401.heap.size ≤ w403.heap.size := q3.size
        have hz3 : w402.heap.size < w403.heap.size := World.block_lt_of_cell? w403 _ q5
        refine ⟨(fun W => W.cell? ⟨g9, i * 2, none⟩ = some (.int .i64 fx) ∧ W.cell? ⟨g9, i * 2 + 1, none⟩ = some (.int .i64 fy) ∧ W.cell? ⟨Z + 1, 0, none⟩ = some (.bool o2) ∧ Below w.heap.size w W), ⟨hS.1, hS.2.1, hS.2.2.1, hS.2.2.2.2.2.2.2.2⟩, (fun W h => h), ?_⟩
        simp only [Act.put, List.setIfInBounds_toArray, List.set_cons_zero, List.set_cons_succ]
        repeat (first
          | ((refine seq_skip (by rfl) (by rfl) ?_); simp only [Act.put, List.setIfInBounds_toArray, List.set_cons_zero, List.set_cons_succ])
          | ((refine seq_val (v := ?_) (by rfl) (by rfl) (fun w hS => ?_) ?_); rotate_left; (focus ((try dsimp only at hS); go_simp; (try (with_reducible rfl)); done)); simp only [Act.put, List.setIfInBounds_toArray, List.set_cons_zero, List.set_cons_succ]))
        obtain ⟨w404, hw404⟩ : ∃ W, W = ((w403.setCell ⟨w402.heap.size, 0, none⟩ (.bool o2)).setCell ⟨w402.heap.size, 1, none⟩ (.int .i64 k2)).setCell ⟨w402.heap.size, 2, none⟩ (.int .i64 m2) := ⟨_, rfl⟩
        obtain ⟨dd0, dd1, dd2, dd3, dd4⟩ := box3_sets q5 q6 q7 (.bool o2) (.int .i64 k2) (.int .i64 m2)
        refine seq_store (w' := w404) (by rfl) (by rfl) (by rw [hw404]; go_simp; (try (with_reducible rfl)); done) ?_
        obtain ⟨dw0, dw1, dw2⟩ := s3w hw404 q5 q6 q7
        have hT := ai (s3o hw404 (by omega) q0) <| ai (s3o hw404 (by omega) q1) <| ai (s3o hw404 (by omega) q2) <| ai (s3b hw404 (by omega) q3) <| ai (s3f hw404 f4 fr4) <| ai (dw0) <| ai (dw1) <| ai (dw2) <| s3b hw404 (by omega) hF
        clear dw0 dw1 dw2
        (try clear hS)
        have hS := hT
        clear hT dd0 dd1 dd2 dd3 dd4 hw404
        have hS2 := hS
        obtain ⟨q0, q1, q2, q3, ⟨f4, fr4⟩, q5, q6, q7, hF⟩ := hS2
        have hzw : w.heap.size ≤ w404.heap.size := hF.size
        have hB := hF
        have hz1 : g9 < w404.heap.size := World.block_lt_of_cell? w404 _ q0
        have hz2 : Z + 1 < w404.heap.size := World.block_lt_of_cell? w404 _ q2
        have hzk404 : w401.heap.size ≤ w404.heap.size := q3.size
        have hz3 : w402.heap.size < w404.heap.size := World.block_lt_of_cell? w404 _ q5
        refine ⟨(fun W => W.cell? ⟨g9, i * 2, none⟩ = some (.int .i64 fx) ∧ W.cell? ⟨g9, i * 2 + 1, none⟩ = some (.int .i64 fy) ∧ W.cell? ⟨Z + 1, 0, none⟩ = some (.bool o2) ∧ Below w.heap.size w W), ⟨hS.1, hS.2.1, hS.2.2.1, hS.2.2.2.2.2.2.2.2⟩, (fun W h => h), ?_⟩
        simp only [Act.put, List.setIfInBounds_toArray, List.set_cons_zero, List.set_cons_succ]
        repeat (first
          | ((refine seq_skip (by rfl) (by rfl) ?_); simp only [Act.put, List.setIfInBounds_toArray, List.set_cons_zero, List.set_cons_succ])
          | ((refine seq_val (v := ?_) (by rfl) (by rfl) (fun w hS => ?_) ?_); rotate_left; (focus ((try dsimp only at hS); go_simp; (try (with_reducible rfl)); done)); simp only [Act.put, List.setIfInBounds_toArray, List.set_cons_zero, List.set_cons_succ]))
        refine seq_nil ?_
        go_wp2_with fail
        go_meet
        case rel => exact ⟨w402.heap.size, rfl, rfl, hS.1, hS.2.1, own_below (HK9.out.2.2.1) (hS.2.2.2.1), kc (hS.2.2.2.1) (HK9.out.2.2.2.1), kc (hS.2.2.2.1) (HK9.out.2.2.2.2.1), kc (hS.2.2.2.1) (HK9.out.2.2.2.2.2.1), hS.2.2.1, kc (hS.2.2.2.1) (HK9.out.2.2.2.2.2.2.2.1), kc (hS.2.2.2.1) (HK9.out.2.2.2.2.2.2.2.2.1), hS.2.2.2.2.2.1, hS.2.2.2.2.2.2.1, hS.2.2.2.2.2.2.2.1, hS.2.2.2.2.2.2.2.2⟩
    obtain ⟨U, rfl, rfl, hS3⟩ := hcut
    (try clear hS)
    have hS := hS3
    clear hS3
    have hS2 := hS
    obtain ⟨q0, q1, q2, q3, q4, q5, q6, q7, q8, q9, q10, q11, hF⟩ := hS2
    have hzw : w.heap.size ≤ wc.heap.size := hF.size
    have hB := hF
    have hz1 : g9 < wc.heap.size := World.block_lt_of_cell? wc _ q0
    have hz2 : Z < wc.heap.size := World.block_lt_of_cell? wc _ q3
    have hz3 : Z + 1 < wc.heap.size := World.block_lt_of_cell? wc _ q6
    have hz4 : U < wc.heap.size := World.block_lt_of_cell? wc _ q9
    go_upto_region 28 with fail
    go_cut [29, 30] (fun s t wx => ∃ V : Nat, s = .pointer (some ⟨V, 0, none⟩) ∧ t = .bool true ∧ (wx.cell? ⟨g9, i * 2, none⟩ = some (.int .i64 fx) ∧ wx.cell? ⟨g9, i * 2 + 1, none⟩ = some (.int .i64 fy) ∧ wx.ownsRow (b1) 25 2 (.slice (some ⟨g9, 0, none⟩) F.length c1) (F.length) (flat F) ∧ wx.cell? ⟨Z, 0, none⟩ = some (.bool o1) ∧ wx.cell? ⟨Z, 1, none⟩ = some (.int .i64 k1) ∧ wx.cell? ⟨Z, 2, none⟩ = some (.int .i64 m1) ∧ wx.cell? ⟨Z + 1, 0, none⟩ = some (.bool o2) ∧ wx.cell? ⟨Z + 1, 1, none⟩ = some (.int .i64 k2) ∧ wx.cell? ⟨Z + 1, 2, none⟩ = some (.int .i64 m2) ∧ wx.cell? ⟨U, 0, none⟩ = some (.bool o2) ∧ wx.cell? ⟨U, 1, none⟩ = some (.int .i64 k2) ∧ wx.cell? ⟨U, 2, none⟩ = some (.int .i64 m2) ∧ wx.cell? ⟨V, 0, none⟩ = some (.int .i64 X) ∧ wx.cell? ⟨V, 1, none⟩ = some (.int .i64 Y) ∧ Below w.heap.size w wx))
    case first => as_aux_lemma =>
      refine wp_region_all (by kernel_rfl) ?_
      obtain ⟨w401, hwq⟩ : ∃ W, World.drew wc = W := ⟨_, rfl⟩
      have hb : Below wc.heap.size wc w401 := by rw [← hwq]; go_grown
      rw [hwq]
      have hT := ai (kc hb q0) <| ai (kc hb q1) <| ai (own_below q2 hb) <| ai (kc hb q3) <| ai (kc hb q4) <| ai (kc hb q5) <| ai (kc hb q6) <| ai (kc hb q7) <| ai (kc hb q8) <| ai (kc hb q9) <| ai (kc hb q10) <| ai (kc hb q11) <| below_via hF hb
      clear hS hb hwq
      have hS := hT
      clear hT
      have hS2 := hS
      obtain ⟨q0, q1, q2, q3, q4, q5, q6, q7, q8, q9, q10, q11, hF⟩ := hS2
      have hzw : w.heap.size ≤ w401.heap.size := hF.size
      have hB := hF
      have hz1 : g9 < w401.heap.size := World.block_lt_of_cell? w401 _ q0
      have hz2 : Z < w401.heap.size := World.block_lt_of_cell? w401 _ q3
      have hz3 : Z + 1 < w401.heap.size := World.block_lt_of_cell? w401 _ q6
      have hz4 : U < w401.heap.size := World.block_lt_of_cell? w401 _ q9
      have HK9 := hide hS
      have hT : w401.cell? ⟨g9, i * 2, none⟩ = some (.int .i64 fx) ∧ w401.cell? ⟨g9, i * 2 + 1, none⟩ = some (.int .i64 fy) ∧ w401.cell? ⟨Z, 0, none⟩ = some (.bool o1) ∧ w401.cell? ⟨Z, 1, none⟩ = some (.int .i64 k1) ∧ w401.cell? ⟨Z, 2, none⟩ = some (.int .i64 m1) ∧ Below w401.heap.size w401 w401 ∧ Below w.heap.size w w401 := ⟨hS.1, hS.2.1, hS.2.2.2.1, hS.2.2.2.2.1, hS.2.2.2.2.2.1, Below.refl _ _, hS.2.2.2.2.2.2.2.2.2.2.2.2⟩
      clear hS
      have hS := hT
      clear hT
      have hS2 := hS
      obtain ⟨q0, q1, q2, q3, q4, q5, hF⟩ := hS2
      have hzw : w.heap.size ≤ w401.heap.size := hF.size
      have hB := hF
      have hz1 : g9 < w401.heap.size := World.block_lt_of_cell? w401 _ q0
      have hz2 : Z < w401.heap.size := World.block_lt_of_cell? w401 _ q2
      have hzk401 : w401.heap.size ≤ w401.heap.size := q5.size
      refine all_split 9 5 (by decide) ?_ ?_
      · refine all_seq_core [0, 1, 2, 3, 4, 9, 5, 6, 7, 8, 10, 11] (fun W => W.cell? ⟨g9, i * 2, none⟩ = some (.int .i64 fx) ∧ W.cell? ⟨g9, i * 2 + 1, none⟩ = some (.int .i64 fy) ∧ W.cell? ⟨Z, 0, none⟩ = some (.bool o1) ∧ W.cell? ⟨Z, 1, none⟩ = some (.int .i64 k1) ∧ W.cell? ⟨Z, 2, none⟩ = some (.int .i64 m1) ∧ Below w.heap.size w W) (addE_core 9 5 _) (by kernel_rfl) ⟨hS.1, hS.2.1, hS.2.2.1, hS.2.2.2.1, hS.2.2.2.2.1, hS.2.2.2.2.2.2⟩ ?_
        simp only [byNum, List.getElem?_cons_zero, List.getElem?_cons_succ]
        repeat (first
          | ((refine seq_skip (by rfl) (by rfl) ?_); simp only [Act.put, List.setIfInBounds_toArray, List.set_cons_zero, List.set_cons_succ])
          | ((refine seq_val (v := ?_) (by rfl) (by rfl) (fun w hS => ?_) ?_); rotate_left; (focus ((try dsimp only at hS); go_simp; (try (with_reducible rfl)); done)); simp only [Act.put, List.setIfInBounds_toArray, List.set_cons_zero, List.set_cons_succ]))
        refine seq_deed (v := ?_) (w' := ?_) (by rfl) (by rfl) ?_ ?_
        rotate_left
        rotate_left
        focus (go_simp; (constructor <;> (with_reducible rfl)); done)
        generalize hgw402 : World.alloc w401 _ = w402
        have hb : Below w401.heap.size w401 w402 := by rw [← hgw402]; go_grown
        obtain ⟨n9, n0, n1⟩ := al2 hgw402
        have hT := ai (kc hb q0) <| ai (kc hb q1) <| ai (kc hb q2) <| ai (kc hb q3) <| ai (kc hb q4) <| ai (below_via q5 hb) <| ai (n9) <| ai (n0) <| ai (n1) <| below_via (hS.2.2.2.2.2.2) hb
        clear n9 n0 n1
        clear hS hb hgw402
        have hS := hT
        clear hT
        have hS2 := hS
        obtain ⟨q0, q1, q2, q3, q4, q5, ⟨f6, fr6⟩, q7, q8, hF⟩ := hS2
        have hzw : w.heap.size ≤ w402.heap.size := hF.size
        have hB := hF
        have hz1 : g9 < w402.heap.size := World.block_lt_of_cell? w402 _ q0
        have hz2 : Z < w402.heap.size := World.block_lt_of_cell? w402 _ q2
        have hzk402 : w401.heap.size ≤ w402.heap.size := q5.size
        have hz3 : w401.heap.size < w402.heap.size := World.block_lt_of_cell? w402 _ q7
        refine ⟨(fun W => W.cell? ⟨g9, i * 2, none⟩ = some (.int .i64 fx) ∧ W.cell? ⟨g9, i * 2 + 1, none⟩ = some (.int .i64 fy) ∧ W.cell? ⟨Z, 0, none⟩ = some (.bool o1) ∧ W.cell? ⟨Z, 1, none⟩ = some (.int .i64 k1) ∧ W.cell? ⟨Z, 2, none⟩ = some (.int .i64 m1) ∧ Below w.heap.size w W), ⟨hS.1, hS.2.1, hS.2.2.1, hS.2.2.2.1, hS.2.2.2.2.1, hS.2.2.2.2.2.2.2.2.2⟩, (fun W h => h), ?_⟩
        simp only [Act.put, List.setIfInBounds_toArray, List.set_cons_zero, List.set_cons_succ]
        repeat (first
          | ((refine seq_skip (by rfl) (by rfl) ?_); simp only [Act.put, List.setIfInBounds_toArray, List.set_cons_zero, List.set_cons_succ])
          | ((refine seq_val (v := ?_) (by rfl) (by rfl) (fun w hS => ?_) ?_); rotate_left; (focus ((try dsimp only at hS); go_simp; (try (with_reducible rfl)); done)); simp only [Act.put, List.setIfInBounds_toArray, List.set_cons_zero, List.set_cons_succ]))
        refine seq_call (f := ?_) (args := ?_) (by rfl) (by rfl) ?_ ?_
        rotate_left
        rotate_left
        focus (go_simp; (constructor <;> (with_reducible rfl)); done)
        refine (HD.out _).mono ?_
        rintro e w403 ⟨rfl, hb⟩
        have hT := ai (kc hb q0) <| ai (kc hb q1) <| ai (kc hb q2) <| ai (kc hb q3) <| ai (kc hb q4) <| ai (below_via q5 hb) <| ai (kf hb f6 fr6) <| ai (kc hb q7) <| ai (kc hb q8) <| below_via hF hb
        clear hS hb
        have hS := hT
        clear hT
        have hS2 := hS
        obtain ⟨q0, q1, q2, q3, q4, q5, ⟨f6, fr6⟩, q7, q8, hF⟩ := hS2
        have hzw : w.heap.size ≤ w403.heap.size := hF.size
        have hB := hF
        have hz1 : g9 < w403.heap.size := World.block_lt_of_cell? w403 _ q0
        have hz2 : Z < w403.heap.size := World.block_lt_of_cell? w403 _ q2
        have hzk403 : w401.heap.size ≤ w403.heap.size := q5.size
        have hz3 : w401.heap.size < w403.heap.size := World.block_lt_of_cell? w403 _ q7
        refine ⟨_, rfl, (fun W => W.cell? ⟨g9, i * 2, none⟩ = some (.int .i64 fx) ∧ W.cell? ⟨g9, i * 2 + 1, none⟩ = some (.int .i64 fy) ∧ W.cell? ⟨Z, 0, none⟩ = some (.bool o1) ∧ W.cell? ⟨Z, 1, none⟩ = some (.int .i64 k1) ∧ W.cell? ⟨Z, 2, none⟩ = some (.int .i64 m1) ∧ Below w.heap.size w W), ⟨hS.1, hS.2.1, hS.2.2.1, hS.2.2.2.1, hS.2.2.2.2.1, hS.2.2.2.2.2.2.2.2.2⟩, (fun W h => h), ?_⟩
        simp only [Act.put, List.setIfInBounds_toArray, List.set_cons_zero, List.set_cons_succ]
        repeat (first
          | ((refine seq_skip (by rfl) (by rfl) ?_); simp only [Act.put, List.setIfInBounds_toArray, List.set_cons_zero, List.set_cons_succ])
          | ((refine seq_val (v := ?_) (by rfl) (by rfl) (fun w hS => ?_) ?_); rotate_left; (focus ((try dsimp only at hS); go_simp; (try (with_reducible rfl)); done)); simp only [Act.put, List.setIfInBounds_toArray, List.set_cons_zero, List.set_cons_succ]))
        obtain ⟨w404, hw404⟩ : ∃ W, W = (w403.setCell ⟨w401.heap.size, 0, none⟩ (.int .i64 X)).setCell ⟨w401.heap.size, 1, none⟩ (.int .i64 Y) := ⟨_, rfl⟩
        obtain ⟨dd0, dd1, dd2, dd3⟩ := box2_sets q7 q8 (.int .i64 X) (.int .i64 Y)
        refine seq_store (w' := w404) (by rfl) (by rfl) (by rw [hw404]; go_simp; (try (with_reducible rfl)); done) ?_
        obtain ⟨dw0, dw1⟩ := s2w hw404 q7 q8
        have hT := ai (s2o hw404 (by omega) q0) <| ai (s2o hw404 (by omega) q1) <| ai (s2o hw404 (by omega) q2) <| ai (s2o hw404 (by omega) q3) <| ai (s2o hw404 (by omega) q4) <| ai (s2b hw404 (by omega) q5) <| ai (s2f hw404 f6 fr6) <| ai (dw0) <| ai (dw1) <| s2b hw404 (by omega) hF
        clear dw0 dw1
        (try clear hS)
        have hS := hT
        clear hT dd0 dd1 dd2 dd3 hw404
        have hS2 := hS
        obtain ⟨q0, q1, q2, q3, q4, q5, ⟨f6, fr6⟩, q7, q8, hF⟩ := hS2
        have hzw : w.heap.size ≤ w404.heap.size := hF.size
        have hB := hF
        have hz1 : g9 < w404.heap.size := World.block_lt_of_cell? w404 _ q0
        have hz2 : Z < w404.heap.size := World.block_lt_of_cell? w404 _ q2
        have hzk404 : w401.heap.size ≤ w404.heap.size := q5.size
        have hz3 : w401.heap.size < w404.heap.size := World.block_lt_of_cell? w404 _ q7
        refine ⟨(fun W => W.cell? ⟨g9, i * 2, none⟩ = some (.int .i64 fx) ∧ W.cell? ⟨g9, i * 2 + 1, none⟩ = some (.int .i64 fy) ∧ W.cell? ⟨Z, 0, none⟩ = some (.bool o1) ∧ W.cell? ⟨Z, 1, none⟩ = some (.int .i64 k1) ∧ W.cell? ⟨Z, 2, none⟩ = some (.int .i64 m1) ∧ Below w.heap.size w W), ⟨hS.1, hS.2.1, hS.2.2.1, hS.2.2.2.1, hS.2.2.2.2.1, hS.2.2.2.2.2.2.2.2.2⟩, (fun W h => h), ?_⟩
        simp only [Act.put, List.setIfInBounds_toArray, List.set_cons_zero, List.set_cons_succ]
        repeat (first
          | ((refine seq_skip (by rfl) (by rfl) ?_); simp only [Act.put, List.setIfInBounds_toArray, List.set_cons_zero, List.set_cons_succ])
          | ((refine seq_val (v := ?_) (by rfl) (by rfl) (fun w hS => ?_) ?_); rotate_left; (focus ((try dsimp only at hS); go_simp; (try (with_reducible rfl)); done)); simp only [Act.put, List.setIfInBounds_toArray, List.set_cons_zero, List.set_cons_succ]))
        refine seq_nil ?_
        go_wp2_with fail
        go_meet
        case rel => exact ⟨w401.heap.size, rfl, rfl, hS.1, hS.2.1, own_below (HK9.out.2.2.1) (hS.2.2.2.2.2.1), hS.2.2.1, hS.2.2.2.1, hS.2.2.2.2.1, kc (hS.2.2.2.2.2.1) (HK9.out.2.2.2.2.2.2.1), kc (hS.2.2.2.2.2.1) (HK9.out.2.2.2.2.2.2.2.1), kc (hS.2.2.2.2.2.1) (HK9.out.2.2.2.2.2.2.2.2.1), kc (hS.2.2.2.2.2.1) (HK9.out.2.2.2.2.2.2.2.2.2.1), kc (hS.2.2.2.2.2.1) (HK9.out.2.2.2.2.2.2.2.2.2.2.1), kc (hS.2.2.2.2.2.1) (HK9.out.2.2.2.2.2.2.2.2.2.2.2.1), hS.2.2.2.2.2.2.2.1, hS.2.2.2.2.2.2.2.2.1, hS.2.2.2.2.2.2.2.2.2⟩
      · refine all_seq_core [0, 1, 2, 3, 4, 5, 6, 7, 8, 9, 10, 11] (fun W => W.cell? ⟨g9, i * 2, none⟩ = some (.int .i64 fx) ∧ W.cell? ⟨g9, i * 2 + 1, none⟩ = some (.int .i64 fy) ∧ W.cell? ⟨Z, 0, none⟩ = some (.bool o1) ∧ W.cell? ⟨Z, 1, none⟩ = some (.int .i64 k1) ∧ W.cell? ⟨Z, 2, none⟩ = some (.int .i64 m1) ∧ Below w.heap.size w W) (addE_core 5 9 _) (by kernel_rfl) ⟨hS.1, hS.2.1, hS.2.2.1, hS.2.2.2.1, hS.2.2.2.2.1, hS.2.2.2.2.2.2⟩ ?_
        simp only [byNum, List.getElem?_cons_zero, List.getElem?_cons_succ]
        repeat (first
          | ((refine seq_skip (by rfl) (by rfl) ?_); simp only [Act.put, List.setIfInBounds_toArray, List.set_cons_zero, List.set_cons_succ])
          | ((refine seq_val (v := ?_) (by rfl) (by rfl) (fun w hS => ?_) ?_); rotate_left; (focus ((try dsimp only at hS); go_simp; (try (with_reducible rfl)); done)); simp only [Act.put, List.setIfInBounds_toArray, List.set_cons_zero, List.set_cons_succ]))
        refine seq_call (f := ?_) (args := ?_) (by rfl) (by rfl) ?_ ?_
        rotate_left
        rotate_left
        focus (go_simp; (constructor <;> (with_reducible rfl)); done)
        refine (HD.out _).mono ?_
        rintro e w402 ⟨rfl, hb⟩
        have hT := ai (kc hb q0) <| ai (kc hb q1) <| ai (kc hb q2) <| ai (kc hb q3) <| ai (kc hb q4) <| ai (below_via q5 hb) <| below_via hF hb
        clear hS hb
        have hS := hT
        clear hT
        have hS2 := hS
        obtain ⟨q0, q1, q2, q3, q4, q5, hF⟩ := hS2
        have hzw : w.heap.size ≤ w402.heap.size := hF.size
        have hB := hF
        have hz1 : g9 < w402.heap.size := World.block_lt_of_cell? w402 _ q0
        have hz2 : Z < w402.heap.size := World.block_lt_of_cell? w402 _ q2
        have hzk402 : w401.heap.size ≤ w402.heap.size := q5.size
        refine ⟨_, rfl, (fun W => W.cell? ⟨g9, i * 2, none⟩ = some (.int .i64 fx) ∧ W.cell? ⟨g9, i * 2 + 1, none⟩ = some (.int .i64 fy) ∧ W.cell? ⟨Z, 0, none⟩ = some (.bool o1) ∧ W.cell? ⟨Z, 1, none⟩ = some (.int .i64 k1) ∧ W.cell? ⟨Z, 2, none⟩ = some (.int .i64 m1) ∧ Below w.heap.size w W), ⟨hS.1, hS.2.1, hS.2.2.1, hS.2.2.2.1, hS.2.2.2.2.1, hS.2.2.2.2.2.2⟩, (fun W h => h), ?_⟩
        simp only [Act.put, List.setIfInBounds_toArray, List.set_cons_zero, List.set_cons_succ]
        repeat (first
          | ((refine seq_skip (by rfl) (by rfl) ?_); simp only [Act.put, List.setIfInBounds_toArray, List.set_cons_zero, List.set_cons_succ])
          | ((refine seq_val (v := ?_) (by rfl) (by rfl) (fun w hS => ?_) ?_); rotate_left; (focus ((try dsimp only at hS); go_simp; (try (with_reducible rfl)); done)); simp only [Act.put, List.setIfInBounds_toArray, List.set_cons_zero, List.set_cons_succ]))
        refine seq_deed (v := ?_) (w' := ?_) (by rfl) (by rfl) ?_ ?_
        rotate_left
        rotate_left
        focus (go_simp; (constructor <;> (with_reducible rfl)); done)
        generalize hgw403 : World.alloc w402 _ = w403
        have hb : Below w402.heap.size w402 w403 := by rw [← hgw403]; go_grown
        obtain ⟨n9, n0, n1⟩ := al2 hgw403
        have hT := ai (kc hb q0) <| ai (kc hb q1) <| ai (kc hb q2) <| ai (kc hb q3) <| ai (kc hb q4) <| ai (below_via q5 hb) <| ai (n9) <| ai (n0) <| ai (n1) <| below_via (hS.2.2.2.2.2.2) hb
        clear n9 n0 n1
        clear hS hb hgw403
        have hS := hT
        clear hT
        have hS2 := hS
        obtain ⟨q0, q1, q2, q3, q4, q5, ⟨f6, fr6⟩, q7, q8, hF⟩ := hS2
        have hzw : w.heap.size ≤ w403.heap.size := hF.size
        have hB := hF
        have hz1 : g9 < w403.heap.size := World.block_lt_of_cell? w403 _ q0
        have hz2 : Z < w403.heap.size := World.block_lt_of_cell? w403 _ q2
        have hzk403 : w401.heap.size ≤ w403.heap.size := q5.size
        have hz3 : w402.heap.size < w403.heap.size := World.block_lt_of_cell? w403 _ q7
        refine ⟨(fun W => W.cell? ⟨g9, i * 2, none⟩ = some (.int .i64 fx) ∧ W.cell? ⟨g9, i * 2 + 1, none⟩ = some (.int .i64 fy) ∧ W.cell? ⟨Z, 0, none⟩ = some (.bool o1) ∧ W.cell? ⟨Z, 1, none⟩ = some (.int .i64 k1) ∧ W.cell? ⟨Z, 2, none⟩ = some (.int .i64 m1) ∧ Below w.heap.size w W), ⟨hS.1, hS.2.1, hS.2.2.1, hS.2.2.2.1, hS.2.2.2.2.1, hS.2.2.2.2.2.2.2.2.2⟩, (fun W h => h), ?_⟩
        simp only [Act.put, List.setIfInBounds_toArray, List.set_cons_zero, List.set_cons_succ]
        repeat (first
          | ((refine seq_skip (by rfl) (by rfl) ?_); simp only [Act.put, List.setIfInBounds_toArray, List.set_cons_zero, List.set_cons_succ])
          | ((refine seq_val (v := ?_) (by rfl) (by rfl) (fun w hS => ?_) ?_); rotate_left; (focus ((try dsimp only at hS); go_simp; (try (with_reducible rfl)); done)); simp only [Act.put, List.setIfInBounds_toArray, List.set_cons_zero, List.set_cons_succ]))
        obtain ⟨w404, hw404⟩ : ∃ W, W = (w403.setCell ⟨w402.heap.size, 0, none⟩ (.int .i64 X)).setCell ⟨w402.heap.size, 1, none⟩ (.int .i64 Y) := ⟨_, rfl⟩
        obtain ⟨dd0, dd1, dd2, dd3⟩ := box2_sets q7 q8 (.int .i64 X) (.int .i64 Y)
        refine seq_store (w' := w404) (by rfl) (by rfl) (by rw [hw404]; go_simp; (try (with_reducible rfl)); done) ?_
        obtain ⟨dw0, dw1⟩ := s2w hw404 q7 q8
        have hT := ai (s2o hw404 (by omega) q0) <| ai (s2o hw404 (by omega) q1) <| ai (s2o hw404 (by omega) q2) <| ai (s2o hw404 (by omega) q3) <| ai (s2o hw404 (by omega) q4) <| ai (s2b hw404 (by omega) q5) <| ai (s2f hw404 f6 fr6) <| ai (dw0) <| ai (dw1) <| s2b hw404 (by omega) hF
        clear dw0 dw1
        (try clear hS)
        have hS := hT
        clear hT dd0 dd1 dd2 dd3 hw404
        have hS2 := hS
        obtain ⟨q0, q1, q2, q3, q4, q5, ⟨f6, fr6⟩, q7, q8, hF⟩ := hS2
        have hzw : w.heap.size ≤ w404.heap.size := hF.size
        have hB := hF
        have hz1 : g9 < w404.heap.size := World.block_lt_of_cell? w404 _ q0
        have hz2 : Z < w404.heap.size := World.block_lt_of_cell? w404 _ q2
        have hzk404 : w401.heap.size ≤ w404.heap.size := q5.size
        have hz3 : w402.heap.size < w404.heap.size := World.block_lt_of_cell? w404 _ q7
        refine ⟨(fun W => W.cell? ⟨g9, i * 2, none⟩ = some (.int .i64 fx) ∧ W.cell? ⟨g9, i * 2 + 1, none⟩ = some (.int .i64 fy) ∧ W.cell? ⟨Z, 0, none⟩ = some (.bool o1) ∧ W.cell? ⟨Z, 1, none⟩ = some (.int .i64 k1) ∧ W.cell? ⟨Z, 2, none⟩ = some (.int .i64 m1) ∧ Below w.heap.size w W), ⟨hS.1, hS.2.1, hS.2.2.1, hS.2.2.2.1, hS.2.2.2.2.1, hS.2.2.2.2.2.2.2.2.2⟩, (fun W h => h), ?_⟩
        simp only [Act.put, List.setIfInBounds_toArray, List.set_cons_zero, List.set_cons_succ]
        repeat (first
          | ((refine seq_skip (by rfl) (by rfl) ?_); simp only [Act.put, List.setIfInBounds_toArray, List.set_cons_zero, List.set_cons_succ])
          | ((refine seq_val (v := ?_) (by rfl) (by rfl) (fun w hS => ?_) ?_); rotate_left; (focus ((try dsimp only at hS); go_simp; (try (with_reducible rfl)); done)); simp only [Act.put, List.setIfInBounds_toArray, List.set_cons_zero, List.set_cons_succ]))
        refine seq_nil ?_
        go_wp2_with fail
        go_meet
        case rel => exact ⟨w402.heap.size, rfl, rfl, hS.1, hS.2.1, own_below (HK9.out.2.2.1) (hS.2.2.2.2.2.1), hS.2.2.1, hS.2.2.2.1, hS.2.2.2.2.1, kc (hS.2.2.2.2.2.1) (HK9.out.2.2.2.2.2.2.1), kc (hS.2.2.2.2.2.1) (HK9.out.2.2.2.2.2.2.2.1), kc (hS.2.2.2.2.2.1) (HK9.out.2.2.2.2.2.2.2.2.1), kc (hS.2.2.2.2.2.1) (HK9.out.2.2.2.2.2.2.2.2.2.1), kc (hS.2.2.2.2.2.1) (HK9.out.2.2.2.2.2.2.2.2.2.2.1), kc (hS.2.2.2.2.2.1) (HK9.out.2.2.2.2.2.2.2.2.2.2.2.1), hS.2.2.2.2.2.2.2.1, hS.2.2.2.2.2.2.2.2.1, hS.2.2.2.2.2.2.2.2.2⟩
    obtain ⟨V, rfl, rfl, hS3⟩ := hcut
    (try clear hS)
    have hS := hS3
    clear hS3
    have hS2 := hS
    obtain ⟨q0, q1, q2, q3, q4, q5, q6, q7, q8, q9, q10, q11, q12, q13, hF⟩ := hS2
    have hzw : w.heap.size ≤ wc.heap.size := hF.size
    have hB := hF
    have hz1 : g9 < wc.heap.size := World.block_lt_of_cell? wc _ q0
    have hz2 : Z < wc.heap.size := World.block_lt_of_cell? wc _ q3
    have hz3 : Z + 1 < wc.heap.size := World.block_lt_of_cell? wc _ q6
    have hz4 : U < wc.heap.size := World.block_lt_of_cell? wc _ q9
    have hz5 : V < wc.heap.size := World.block_lt_of_cell? wc _ q12
    have hB := hS.2.2.2.2.2.2.2.2.2.2.2.2.2.2
    (try clear hzw)
    have hzw : w.heap.size ≤ wc.heap.size := hB.size
    have hz1 : g9 < wc.heap.size := World.block_lt_of_cell? wc _ (hS.1)
    have hz2 : Z < wc.heap.size := World.block_lt_of_cell? wc _ (hS.2.2.2.1)
    have hz3 : Z + 1 < wc.heap.size := World.block_lt_of_cell? wc _ (hS.2.2.2.2.2.2.1)
    have hz4 : U < wc.heap.size := World.block_lt_of_cell? wc _ (hS.2.2.2.2.2.2.2.2.2.1)
    have hz5 : V < wc.heap.size := World.block_lt_of_cell? wc _ (hS.2.2.2.2.2.2.2.2.2.2.2.2.1)
    have HS := hide hS
    have hS3 : wc.cell? ⟨g9, i * 2, none⟩ = some (.int .i64 fx) ∧ wc.cell? ⟨g9, i * 2 + 1, none⟩ = some (.int .i64 fy) ∧ wc.cell? ⟨Z, 0, none⟩ = some (.bool o1) ∧ wc.cell? ⟨Z, 1, none⟩ = some (.int .i64 k1) ∧ wc.cell? ⟨Z, 2, none⟩ = some (.int .i64 m1) ∧ wc.cell? ⟨Z + 1, 0, none⟩ = some (.bool o2) ∧ wc.cell? ⟨Z + 1, 1, none⟩ = some (.int .i64 k2) ∧ wc.cell? ⟨Z + 1, 2, none⟩ = some (.int .i64 m2) ∧ wc.cell? ⟨U, 0, none⟩ = some (.bool o2) ∧ wc.cell? ⟨U, 1, none⟩ = some (.int .i64 k2) ∧ wc.cell? ⟨U, 2, none⟩ = some (.int .i64 m2) ∧ wc.cell? ⟨V, 0, none⟩ = some (.int .i64 X) ∧ wc.cell? ⟨V, 1, none⟩ = some (.int .i64 Y) ∧ Below w.heap.size w wc := ⟨hS.1, hS.2.1, hS.2.2.2.1, hS.2.2.2.2.1, hS.2.2.2.2.2.1, hS.2.2.2.2.2.2.1, hS.2.2.2.2.2.2.2.1, hS.2.2.2.2.2.2.2.2.1, hS.2.2.2.2.2.2.2.2.2.1, hS.2.2.2.2.2.2.2.2.2.2.1, hS.2.2.2.2.2.2.2.2.2.2.2.1, hS.2.2.2.2.2.2.2.2.2.2.2.2.1, hS.2.2.2.2.2.2.2.2.2.2.2.2.2.1, hS.2.2.2.2.2.2.2.2.2.2.2.2.2.2⟩
    clear hS
    have hS := hS3
    clear hS3
    have hS4 : wc.ownsRow (b1) 25 2 (.slice (some ⟨g9, 0, none⟩) F.length c1) (F.length) (flat F) ∧ wc.cell? ⟨g9, i * 2, none⟩ = some (.int .i64 fx) ∧ wc.cell? ⟨g9, i * 2 + 1, none⟩ = some (.int .i64 fy) ∧ wc.cell? ⟨Z, 0, none⟩ = some (.bool o1) ∧ wc.cell? ⟨Z, 1, none⟩ = some (.int .i64 k1) ∧ wc.cell? ⟨Z, 2, none⟩ = some (.int .i64 m1) ∧ wc.cell? ⟨Z + 1, 0, none⟩ = some (.bool o2) ∧ wc.cell? ⟨Z + 1, 1, none⟩ = some (.int .i64 k2) ∧ wc.cell? ⟨Z + 1, 2, none⟩ = some (.int .i64 m2) ∧ wc.cell? ⟨U, 0, none⟩ = some (.bool o2) ∧ wc.cell? ⟨U, 1, none⟩ = some (.int .i64 k2) ∧ wc.cell? ⟨U, 2, none⟩ = some (.int .i64 m2) ∧ wc.cell? ⟨V, 0, none⟩ = some (.int .i64 X) ∧ wc.cell? ⟨V, 1, none⟩ = some (.int .i64 Y) ∧ Below w.heap.size w wc := ⟨HS.out.2.2.1, hS⟩
    clear hS
    have hS := hS4
    clear hS4
    go_upto_region 29 with fail
    refine wp_region_det (fun w' => w'.ownsRow (b1) 25 2 (.slice (some ⟨g9, 0, none⟩) F.length c1) (F.length) (flat F) ∧ w'.cell? ⟨g9, i * 2, none⟩ = some (.int .i64 fx) ∧ w'.cell? ⟨g9, i * 2 + 1, none⟩ = some (.int .i64 fy) ∧ w'.cell? ⟨Z, 0, none⟩ = some (.bool o1) ∧ w'.cell? ⟨Z, 1, none⟩ = some (.int .i64 k1) ∧ w'.cell? ⟨Z, 2, none⟩ = some (.int .i64 m1) ∧ w'.cell? ⟨Z + 1, 0, none⟩ = some (.bool o2) ∧ w'.cell? ⟨Z + 1, 1, none⟩ = some (.int .i64 k2) ∧ w'.cell? ⟨Z + 1, 2, none⟩ = some (.int .i64 m2) ∧ w'.cell? ⟨U, 0, none⟩ = some (.bool o2) ∧ w'.cell? ⟨U, 1, none⟩ = some (.int .i64 k2) ∧ w'.cell? ⟨U, 2, none⟩ = some (.int .i64 m2) ∧ w'.cell? ⟨V, 0, none⟩ = some (.int .i64 X) ∧ w'.cell? ⟨V, 1, none⟩ = some (.int .i64 Y) ∧ Below w.heap.size w w') (by kernel_rfl) (by kernel_rfl) (by first | (with_reducible assumption) | (exact hS) | (exact ⟨hS.1, hS.2.1, hS.2.2.1, hS.2.2.2.1, hS.2.2.2.2.1, hS.2.2.2.2.2.1, hS.2.2.2.2.2.2.1, hS.2.2.2.2.2.2.2.1, hS.2.2.2.2.2.2.2.2.1, hS.2.2.2.2.2.2.2.2.2.1, hS.2.2.2.2.2.2.2.2.2.2.1, hS.2.2.2.2.2.2.2.2.2.2.2.1, hS.2.2.2.2.2.2.2.2.2.2.2.2.1, hS.2.2.2.2.2.2.2.2.2.2.2.2.2.1, (by go_grown)⟩) | (exact ⟨(by first | (with_reducible assumption) | (exact World.ownsRow.alloc (by with_reducible assumption) _) | ((refine own_below (by with_reducible assumption) ?_); go_grown)), (by first | (with_reducible assumption) | (simp [go_sem]; done) | ((simp only [go_sem]); (with_reducible assumption)) | ((refine keep_cell ?_ (by with_reducible assumption)); go_grown; done) | (simp [go_sem, *]; done)), (by first | (with_reducible assumption) | (simp [go_sem]; done) | ((simp only [go_sem]); (with_reducible assumption)) | ((refine keep_cell ?_ (by with_reducible assumption)); go_grown; done) | (simp [go_sem, *]; done)), (by first | (with_reducible assumption) | (simp [go_sem]; done) | ((simp only [go_sem]); (with_reducible assumption)) | ((refine keep_cell ?_ (by with_reducible assumption)); go_grown; done) | (simp [go_sem, *]; done)), (by first | (with_reducible assumption) | (simp [go_sem]; done) | ((simp only [go_sem]); (with_reducible assumption)) | ((refine keep_cell ?_ (by with_reducible assumption)); go_grown; done) | (simp [go_sem, *]; done)), (by first | (with_reducible assumption) | (simp [go_sem]; done) | ((simp only [go_sem]); (with_reducible assumption)) | ((refine keep_cell ?_ (by with_reducible assumption)); go_grown; done) | (simp [go_sem, *]; done)), (by first | (with_reducible assumption) | (simp [go_sem]; done) | ((simp only [go_sem]); (with_reducible assumption)) | ((refine keep_cell ?_ (by with_reducible assumption)); go_grown; done) | (simp [go_sem, *]; done)), (by first | (with_reducible assumption) | (simp [go_sem]; done) | ((simp only [go_sem]); (with_reducible assumption)) | ((refine keep_cell ?_ (by with_reducible assumption)); go_grown; done) | (simp [go_sem, *]; done)), (by first | (with_reducible assumption) | (simp [go_sem]; done) | ((simp only [go_sem]); (with_reducible assumption)) | ((refine keep_cell ?_ (by with_reducible assumption)); go_grown; done) | (simp [go_sem, *]; done)), (by first | (with_reducible assumption) | (simp [go_sem]; done) | ((simp only [go_sem]); (with_reducible assumption)) | ((refine keep_cell ?_ (by with_reducible assumption)); go_grown; done) | (simp [go_sem, *]; done)), (by first | (with_reducible assumption) | (simp [go_sem]; done) | ((simp only [go_sem]); (with_reducible assumption)) | ((refine keep_cell ?_ (by with_reducible assumption)); go_grown; done) | (simp [go_sem, *]; done)), (by first | (with_reducible assumption) | (simp [go_sem]; done) | ((simp only [go_sem]); (with_reducible assumption)) | ((refine keep_cell ?_ (by with_reducible assumption)); go_grown; done) | (simp [go_sem, *]; done)), (by first | (with_reducible assumption) | (simp [go_sem]; done) | ((simp only [go_sem]); (with_reducible assumption)) | ((refine keep_cell ?_ (by with_reducible assumption)); go_grown; done) | (simp [go_sem, *]; done)), (by first | (with_reducible assumption) | (simp [go_sem]; done) | ((simp only [go_sem]); (with_reducible assumption)) | ((refine keep_cell ?_ (by with_reducible assumption)); go_grown; done) | (simp [go_sem, *]; done)), (by go_grown)⟩)) ?_
    repeat (first
      | ((refine wpDet_skip (by rfl) ?_); simp only [Act.put, List.setIfInBounds_toArray, List.set_cons_zero, List.set_cons_succ])
      | ((refine wpDet_val (v := ?_) (by rfl) (fun w hS => ?_) ?_); rotate_left; (focus ((try dsimp only at hS); go_simp; (try (with_reducible rfl)); done)); simp only [Act.put, List.setIfInBounds_toArray, List.set_cons_zero, List.set_cons_succ])
      | ((refine wpDet_call (v := ?_) (f := ?_) (args := ?_) (by rfl) (fun w => ?_) (fun w hS => ?_) ?_); rotate_left; rotate_left; rotate_left; (focus (go_simp; (constructor <;> (with_reducible rfl)); done)); (focus (first | (go_at_call 30; with_reducible refine (HVX.out _).mono ?_; intro e w' h; refine ⟨h.1.trans ?_, h.2 ▸ hS⟩; with_reducible rfl) | (go_at_call 30; with_reducible refine (HVY.out _).mono ?_; intro e w' h; refine ⟨h.1.trans ?_, h.2 ▸ hS⟩; with_reducible rfl))); simp only [Act.put, List.setIfInBounds_toArray, List.set_cons_zero, List.set_cons_succ]))
    refine wpDet_nil ?_
    intro wz hS
    have hT : wz.ownsRow (b1) 25 2 (.slice (some ⟨g9, 0, none⟩) F.length c1) (F.length) (flat F) ∧ wz.cell? ⟨g9, i * 2, none⟩ = some (.int .i64 fx) ∧ wz.cell? ⟨g9, i * 2 + 1, none⟩ = some (.int .i64 fy) ∧ wz.cell? ⟨Z, 0, none⟩ = some (.bool o1) ∧ wz.cell? ⟨Z, 1, none⟩ = some (.int .i64 k1) ∧ wz.cell? ⟨Z, 2, none⟩ = some (.int .i64 m1) ∧ wz.cell? ⟨Z + 1, 0, none⟩ = some (.bool o2) ∧ wz.cell? ⟨Z + 1, 1, none⟩ = some (.int .i64 k2) ∧ wz.cell? ⟨Z + 1, 2, none⟩ = some (.int .i64 m2) ∧ wz.cell? ⟨U, 0, none⟩ = some (.bool o2) ∧ wz.cell? ⟨U, 1, none⟩ = some (.int .i64 k2) ∧ wz.cell? ⟨U, 2, none⟩ = some (.int .i64 m2) ∧ wz.cell? ⟨V, 0, none⟩ = some (.int .i64 X) ∧ wz.cell? ⟨V, 1, none⟩ = some (.int .i64 Y) ∧ Below w.heap.size w wz := hS
    clear hS
    have hS := hT
    obtain ⟨c0, c1, c2, c3, c4, c5, c6, c7, c8, c9, c10, c11, c12, c13, hB⟩ := hT
    have hzw : w.heap.size ≤ wz.heap.size := hB.size
    have hz1 : g9 < wz.heap.size := World.block_lt_of_cell? wz _ (hS.2.1)
    have hz2 : Z < wz.heap.size := World.block_lt_of_cell? wz _ (hS.2.2.2.1)
    have hz3 : Z + 1 < wz.heap.size := World.block_lt_of_cell? wz _ (hS.2.2.2.2.2.2.1)
    have hz4 : U < wz.heap.size := World.block_lt_of_cell? wz _ (hS.2.2.2.2.2.2.2.2.2.1)
    have hz5 : V < wz.heap.size := World.block_lt_of_cell? wz _ (hS.2.2.2.2.2.2.2.2.2.2.2.2.1)
    go_wp2
    go_roundw
    case rel => exact ⟨i + 1, by omega, by go_num, hS.1, hS.2.2.2.1, hS.2.2.2.2.1, hS.2.2.2.2.2.1, hS.2.2.2.2.2.2.1, hS.2.2.2.2.2.2.2.1, hS.2.2.2.2.2.2.2.2.1, hB⟩
    case measure => simp [intOf]; omega
end Go.Proofs.Ytpabfkodlgglcaa
