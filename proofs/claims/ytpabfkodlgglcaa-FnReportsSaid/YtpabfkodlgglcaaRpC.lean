/- Law: reports. -/
import Derived.Deep.DeepCutAuto
import Derived.Deep.RegionWith
import Derived.Test.YtpabfkodlgglcaaRpV
import Derived.Test.YtpabfkodlgglcaaRpMath
import Derived.Test.YtpabfkodlgglcaaRpA
import Derived.Test.YtpabfkodlgglcaaPoG
import Derived.Test.YtpabfkodlgglcaaPwB
import Derived.Test.YtpabfkodlgglcaaPwC
import Derived.Test.YtpabfkodlgglcaaRpB
namespace Go.Proofs.Ytpabfkodlgglcaa
open Go.RowKit

def bigB (n : Nat) : Bool := decide (65536 < n)
theorem bigB_no {n : Nat} (h : bigB n = false) : n ≤ 65536 := by have := of_decide_eq_false h; omega

theorem vBig_c (A : Option Addr) (n c : Nat)  (w : World) : Calls Try.prog 20 #[.slice A n c] w fun e w' => e = .returned (.bool (bigB n)) ∧ w = w' := by
  by_cases h : 65536 < n
  all_goals
    go_enter Try.func20, Try.ntmps20
    go_wp2
    all_goals (go_returns; exact ⟨ret_eq (by unfold bigB; simp [h]; (try omega)), rfl⟩)

attribute [local go_sem ↓] neRep_self nePla_self

set_option maxRecDepth 100000 in
set_option maxHeartbeats 8000000 in
theorem fnReports (A : Option Addr) (n c : Nat) (w : World) (h1 : Hid (CodeOk w A n))  : Calls Try.prog 13 #[.slice A n c] w (Gives w (.bool true)) := by
  rcases kb : bigB n with _ | _
  rotate_left
  · have HKB := hide kb
    clear kb
    go_enter Try.func13, Try.ntmps13
    go_wp2_with (first | (go_at_call 20; refine (vBig_c _ _ _ _).mono ?_; rintro e w1 ⟨rfl, rfl⟩; rw [HKB.out]))
    go_returns
    exact ⟨ret_eq rfl, by go_grown⟩
  have HKB := hide kb
  have HN := hide (bigB_no kb)
  clear kb
  go_enter Try.func13, Try.ntmps13
  go_wp2_with fail
  refine (vBig_c _ _ _ _).mono ?_
  rintro e wz ⟨rfl, rfl⟩
  rw [HKB.out]
  go_wp2_with fail
  refine (drawPack_c A n c _ (hide (h1.out.below (by go_grown))) HN.out).mono ?_
  rintro e w1 ⟨o, a, b, rfl, hb⟩
  have hT : Below w.heap.size w w1 := (fun W h hb => below_via h (hb) : ∀ W : World, (Below w.heap.size w W) → Below W.heap.size W w1 → (Below w.heap.size w w1)) _ (by first | (with_reducible assumption) | go_grown) hb
  (try clear hS)
  have hS := hT
  clear hT
  have hB := hS
  have hzw : w.heap.size ≤ w1.heap.size := hB.size
  clear hb
  go_wp2_with fail
  obtain ⟨w2, hww2⟩ : ∃ W, W = w1.alloc (.cells #[.bool o, .int .i64 a, .int .i64 b] 31) := ⟨_, rfl⟩
  have hT : w2.cell? ⟨w1.heap.size, 0, none⟩ = some (.bool o) ∧ w2.cell? ⟨w1.heap.size, 1, none⟩ = some (.int .i64 a) ∧ w2.cell? ⟨w1.heap.size, 2, none⟩ = some (.int .i64 b) ∧ Below w.heap.size w w2 := by
    rw [hww2]
    exact ⟨by simp [go_sem], by simp [go_sem], by simp [go_sem], below_via hS (by go_grown)⟩
  rw [← hww2]
  clear hS hww2
  have hS := hT
  clear hT
  (try clear hB hzw)
  have hB := hS.2.2.2
  have hzw : w.heap.size ≤ w2.heap.size := hB.size
  have hz1 : w1.heap.size < w2.heap.size := World.block_lt_of_cell? w2 _ (hS.1)
  have HUP := hide (fun (h : vR o a b = true) => pk_up h)
  obtain ⟨K, HK0⟩ : ∃ q, (vR o a b) = q := ⟨_, rfl⟩
  have HK := hide HK0
  (try rw [HK0] at HUP)
  clear HK0
  obtain ⟨P, HP0⟩ : ∃ q, (pkV o a b) = q := ⟨_, rfl⟩
  have HP := hide HP0
  (try rw [HP0] at HUP)
  clear HP0
  obtain ⟨UK, HUK0⟩ : ∃ q, (upK P) = q := ⟨_, rfl⟩
  have HUK := hide HUK0
  (try rw [HUK0] at HUP)
  clear HUK0
  obtain ⟨UO, HUO0⟩ : ∃ q, (upO P) = q := ⟨_, rfl⟩
  have HUO := hide HUO0
  (try rw [HUO0] at HUP)
  clear HUO0
  obtain ⟨UA, HUA0⟩ : ∃ q, (upA P) = q := ⟨_, rfl⟩
  have HUA := hide HUA0
  (try rw [HUA0] at HUP)
  clear HUA0
  obtain ⟨UB, HUB0⟩ : ∃ q, (upB P) = q := ⟨_, rfl⟩
  have HUB := hide HUB0
  (try rw [HUB0] at HUP)
  clear HUB0
  go_wp2_with fail
  refine (pack_c o a b _).mono ?_
  rw [HP.out, HK.out]
  rintro e w3 ⟨rfl, hb⟩
  have hT : w3.cell? ⟨w1.heap.size, 0, none⟩ = some (.bool o) ∧ w3.cell? ⟨w1.heap.size, 1, none⟩ = some (.int .i64 a) ∧ w3.cell? ⟨w1.heap.size, 2, none⟩ = some (.int .i64 b) ∧ Below w.heap.size w w3 := (fun W h hb => ⟨keep_cell (hb) h.1, keep_cell (hb) h.2.1, keep_cell (hb) h.2.2.1, below_via h.2.2.2 (hb)⟩ : ∀ W : World, (W.cell? ⟨w1.heap.size, 0, none⟩ = some (.bool o) ∧ W.cell? ⟨w1.heap.size, 1, none⟩ = some (.int .i64 a) ∧ W.cell? ⟨w1.heap.size, 2, none⟩ = some (.int .i64 b) ∧ Below w.heap.size w W) → Below W.heap.size W w3 → (w3.cell? ⟨w1.heap.size, 0, none⟩ = some (.bool o) ∧ w3.cell? ⟨w1.heap.size, 1, none⟩ = some (.int .i64 a) ∧ w3.cell? ⟨w1.heap.size, 2, none⟩ = some (.int .i64 b) ∧ Below w.heap.size w w3)) _ (by first | (with_reducible assumption) | (exact hS) | (exact ⟨hS.1, hS.2.1, hS.2.2.1, (by go_grown)⟩) | (exact ⟨(by first | (with_reducible assumption) | (simp [go_sem]; done) | ((simp only [go_sem]); (with_reducible assumption)) | ((refine keep_cell ?_ (by with_reducible assumption)); go_grown; done) | (simp [go_sem, *]; done)), (by first | (with_reducible assumption) | (simp [go_sem]; done) | ((simp only [go_sem]); (with_reducible assumption)) | ((refine keep_cell ?_ (by with_reducible assumption)); go_grown; done) | (simp [go_sem, *]; done)), (by first | (with_reducible assumption) | (simp [go_sem]; done) | ((simp only [go_sem]); (with_reducible assumption)) | ((refine keep_cell ?_ (by with_reducible assumption)); go_grown; done) | (simp [go_sem, *]; done)), (by go_grown)⟩)) hb
  (try clear hS)
  have hS := hT
  clear hT
  have hB := hS.2.2.2
  have hzw : w.heap.size ≤ w3.heap.size := hB.size
  have hz1 : w1.heap.size < w3.heap.size := World.block_lt_of_cell? w3 _ (hS.1)
  clear hb
  go_wp2_with fail
  refine (unpack_c P _).mono ?_
  rw [HUO.out, HUA.out, HUB.out, HUK.out]
  rintro e w4 ⟨rfl, hb⟩
  have hT : w4.cell? ⟨w1.heap.size, 0, none⟩ = some (.bool o) ∧ w4.cell? ⟨w1.heap.size, 1, none⟩ = some (.int .i64 a) ∧ w4.cell? ⟨w1.heap.size, 2, none⟩ = some (.int .i64 b) ∧ Below w.heap.size w w4 := (fun W h hb => ⟨keep_cell (hb) h.1, keep_cell (hb) h.2.1, keep_cell (hb) h.2.2.1, below_via h.2.2.2 (hb)⟩ : ∀ W : World, (W.cell? ⟨w1.heap.size, 0, none⟩ = some (.bool o) ∧ W.cell? ⟨w1.heap.size, 1, none⟩ = some (.int .i64 a) ∧ W.cell? ⟨w1.heap.size, 2, none⟩ = some (.int .i64 b) ∧ Below w.heap.size w W) → Below W.heap.size W w4 → (w4.cell? ⟨w1.heap.size, 0, none⟩ = some (.bool o) ∧ w4.cell? ⟨w1.heap.size, 1, none⟩ = some (.int .i64 a) ∧ w4.cell? ⟨w1.heap.size, 2, none⟩ = some (.int .i64 b) ∧ Below w.heap.size w w4)) _ (by first | (with_reducible assumption) | (exact hS) | (exact ⟨hS.1, hS.2.1, hS.2.2.1, (by go_grown)⟩) | (exact ⟨(by first | (with_reducible assumption) | (simp [go_sem]; done) | ((simp only [go_sem]); (with_reducible assumption)) | ((refine keep_cell ?_ (by with_reducible assumption)); go_grown; done) | (simp [go_sem, *]; done)), (by first | (with_reducible assumption) | (simp [go_sem]; done) | ((simp only [go_sem]); (with_reducible assumption)) | ((refine keep_cell ?_ (by with_reducible assumption)); go_grown; done) | (simp [go_sem, *]; done)), (by first | (with_reducible assumption) | (simp [go_sem]; done) | ((simp only [go_sem]); (with_reducible assumption)) | ((refine keep_cell ?_ (by with_reducible assumption)); go_grown; done) | (simp [go_sem, *]; done)), (by go_grown)⟩)) hb
  (try clear hS)
  have hS := hT
  clear hT
  have hB := hS.2.2.2
  have hzw : w.heap.size ≤ w4.heap.size := hB.size
  have hz1 : w1.heap.size < w4.heap.size := World.block_lt_of_cell? w4 _ (hS.1)
  clear hb
  go_wp2_with fail
  obtain ⟨w5, hww5⟩ : ∃ W, W = w4.alloc (.cells #[.bool UO, .int .i64 UA, .int .i64 UB] 31) := ⟨_, rfl⟩
  have hT : w5.cell? ⟨w4.heap.size, 0, none⟩ = some (.bool UO) ∧ w5.cell? ⟨w4.heap.size, 1, none⟩ = some (.int .i64 UA) ∧ w5.cell? ⟨w4.heap.size, 2, none⟩ = some (.int .i64 UB) ∧ w5.cell? ⟨w1.heap.size, 0, none⟩ = some (.bool o) ∧ w5.cell? ⟨w1.heap.size, 1, none⟩ = some (.int .i64 a) ∧ w5.cell? ⟨w1.heap.size, 2, none⟩ = some (.int .i64 b) ∧ Below w.heap.size w w5 := by
    rw [hww5]
    exact ⟨by simp [go_sem], by simp [go_sem], by simp [go_sem], keep_cell (by go_grown) hS.1, keep_cell (by go_grown) hS.2.1, keep_cell (by go_grown) hS.2.2.1, below_via hS.2.2.2 (by go_grown)⟩
  rw [← hww5]
  clear hS hww5
  have hS := hT
  clear hT
  (try clear hB hzw)
  have hB := hS.2.2.2.2.2.2
  have hzw : w.heap.size ≤ w5.heap.size := hB.size
  have hz1 : w4.heap.size < w5.heap.size := World.block_lt_of_cell? w5 _ (hS.1)
  have hz2 : w1.heap.size < w5.heap.size := World.block_lt_of_cell? w5 _ (hS.2.2.2.1)
  go_wp2_with fail
  refine (sPack_c o a b _).mono ?_
  rw [HP.out, HK.out]
  rintro e w6 ⟨rfl, hb⟩
  have hT : w6.cell? ⟨w4.heap.size, 0, none⟩ = some (.bool UO) ∧ w6.cell? ⟨w4.heap.size, 1, none⟩ = some (.int .i64 UA) ∧ w6.cell? ⟨w4.heap.size, 2, none⟩ = some (.int .i64 UB) ∧ w6.cell? ⟨w1.heap.size, 0, none⟩ = some (.bool o) ∧ w6.cell? ⟨w1.heap.size, 1, none⟩ = some (.int .i64 a) ∧ w6.cell? ⟨w1.heap.size, 2, none⟩ = some (.int .i64 b) ∧ Below w.heap.size w w6 := (fun W h hb => ⟨keep_cell (hb) h.1, keep_cell (hb) h.2.1, keep_cell (hb) h.2.2.1, keep_cell (hb) h.2.2.2.1, keep_cell (hb) h.2.2.2.2.1, keep_cell (hb) h.2.2.2.2.2.1, below_via h.2.2.2.2.2.2 (hb)⟩ : ∀ W : World, (W.cell? ⟨w4.heap.size, 0, none⟩ = some (.bool UO) ∧ W.cell? ⟨w4.heap.size, 1, none⟩ = some (.int .i64 UA) ∧ W.cell? ⟨w4.heap.size, 2, none⟩ = some (.int .i64 UB) ∧ W.cell? ⟨w1.heap.size, 0, none⟩ = some (.bool o) ∧ W.cell? ⟨w1.heap.size, 1, none⟩ = some (.int .i64 a) ∧ W.cell? ⟨w1.heap.size, 2, none⟩ = some (.int .i64 b) ∧ Below w.heap.size w W) → Below W.heap.size W w6 → (w6.cell? ⟨w4.heap.size, 0, none⟩ = some (.bool UO) ∧ w6.cell? ⟨w4.heap.size, 1, none⟩ = some (.int .i64 UA) ∧ w6.cell? ⟨w4.heap.size, 2, none⟩ = some (.int .i64 UB) ∧ w6.cell? ⟨w1.heap.size, 0, none⟩ = some (.bool o) ∧ w6.cell? ⟨w1.heap.size, 1, none⟩ = some (.int .i64 a) ∧ w6.cell? ⟨w1.heap.size, 2, none⟩ = some (.int .i64 b) ∧ Below w.heap.size w w6)) _ (by first | (with_reducible assumption) | (exact hS) | (exact ⟨hS.1, hS.2.1, hS.2.2.1, hS.2.2.2.1, hS.2.2.2.2.1, hS.2.2.2.2.2.1, (by go_grown)⟩) | (exact ⟨(by first | (with_reducible assumption) | (simp [go_sem]; done) | ((simp only [go_sem]); (with_reducible assumption)) | ((refine keep_cell ?_ (by with_reducible assumption)); go_grown; done) | (simp [go_sem, *]; done)), (by first | (with_reducible assumption) | (simp [go_sem]; done) | ((simp only [go_sem]); (with_reducible assumption)) | ((refine keep_cell ?_ (by with_reducible assumption)); go_grown; done) | (simp [go_sem, *]; done)), (by first | (with_reducible assumption) | (simp [go_sem]; done) | ((simp only [go_sem]); (with_reducible assumption)) | ((refine keep_cell ?_ (by with_reducible assumption)); go_grown; done) | (simp [go_sem, *]; done)), (by first | (with_reducible assumption) | (simp [go_sem]; done) | ((simp only [go_sem]); (with_reducible assumption)) | ((refine keep_cell ?_ (by with_reducible assumption)); go_grown; done) | (simp [go_sem, *]; done)), (by first | (with_reducible assumption) | (simp [go_sem]; done) | ((simp only [go_sem]); (with_reducible assumption)) | ((refine keep_cell ?_ (by with_reducible assumption)); go_grown; done) | (simp [go_sem, *]; done)), (by first | (with_reducible assumption) | (simp [go_sem]; done) | ((simp only [go_sem]); (with_reducible assumption)) | ((refine keep_cell ?_ (by with_reducible assumption)); go_grown; done) | (simp [go_sem, *]; done)), (by go_grown)⟩)) hb
  (try clear hS)
  have hS := hT
  clear hT
  have hB := hS.2.2.2.2.2.2
  have hzw : w.heap.size ≤ w6.heap.size := hB.size
  have hz1 : w4.heap.size < w6.heap.size := World.block_lt_of_cell? w6 _ (hS.1)
  have hz2 : w1.heap.size < w6.heap.size := World.block_lt_of_cell? w6 _ (hS.2.2.2.1)
  clear hb
  go_upto_region 7 with fail
  go_cut [81] (fun s wx => s = .bool false ∧ Below w.heap.size w wx)
  case first =>
    cases K
    · go_wp2_with fail
      refine (validRep_c o a b _).mono ?_
      rw [HK.out]
      rintro e w7 ⟨rfl, hb⟩
      have hT : w7.cell? ⟨w4.heap.size, 0, none⟩ = some (.bool UO) ∧ w7.cell? ⟨w4.heap.size, 1, none⟩ = some (.int .i64 UA) ∧ w7.cell? ⟨w4.heap.size, 2, none⟩ = some (.int .i64 UB) ∧ w7.cell? ⟨w1.heap.size, 0, none⟩ = some (.bool o) ∧ w7.cell? ⟨w1.heap.size, 1, none⟩ = some (.int .i64 a) ∧ w7.cell? ⟨w1.heap.size, 2, none⟩ = some (.int .i64 b) ∧ Below w.heap.size w w7 := (fun W h hb => ⟨keep_cell (hb) h.1, keep_cell (hb) h.2.1, keep_cell (hb) h.2.2.1, keep_cell (hb) h.2.2.2.1, keep_cell (hb) h.2.2.2.2.1, keep_cell (hb) h.2.2.2.2.2.1, below_via h.2.2.2.2.2.2 (hb)⟩ : ∀ W : World, (W.cell? ⟨w4.heap.size, 0, none⟩ = some (.bool UO) ∧ W.cell? ⟨w4.heap.size, 1, none⟩ = some (.int .i64 UA) ∧ W.cell? ⟨w4.heap.size, 2, none⟩ = some (.int .i64 UB) ∧ W.cell? ⟨w1.heap.size, 0, none⟩ = some (.bool o) ∧ W.cell? ⟨w1.heap.size, 1, none⟩ = some (.int .i64 a) ∧ W.cell? ⟨w1.heap.size, 2, none⟩ = some (.int .i64 b) ∧ Below w.heap.size w W) → Below W.heap.size W w7 → (w7.cell? ⟨w4.heap.size, 0, none⟩ = some (.bool UO) ∧ w7.cell? ⟨w4.heap.size, 1, none⟩ = some (.int .i64 UA) ∧ w7.cell? ⟨w4.heap.size, 2, none⟩ = some (.int .i64 UB) ∧ w7.cell? ⟨w1.heap.size, 0, none⟩ = some (.bool o) ∧ w7.cell? ⟨w1.heap.size, 1, none⟩ = some (.int .i64 a) ∧ w7.cell? ⟨w1.heap.size, 2, none⟩ = some (.int .i64 b) ∧ Below w.heap.size w w7)) _ (by first | (with_reducible assumption) | (exact hS) | (exact ⟨hS.1, hS.2.1, hS.2.2.1, hS.2.2.2.1, hS.2.2.2.2.1, hS.2.2.2.2.2.1, (by go_grown)⟩) | (exact ⟨(by first | (with_reducible assumption) | (simp [go_sem]; done) | ((simp only [go_sem]); (with_reducible assumption)) | ((refine keep_cell ?_ (by with_reducible assumption)); go_grown; done) | (simp [go_sem, *]; done)), (by first | (with_reducible assumption) | (simp [go_sem]; done) | ((simp only [go_sem]); (with_reducible assumption)) | ((refine keep_cell ?_ (by with_reducible assumption)); go_grown; done) | (simp [go_sem, *]; done)), (by first | (with_reducible assumption) | (simp [go_sem]; done) | ((simp only [go_sem]); (with_reducible assumption)) | ((refine keep_cell ?_ (by with_reducible assumption)); go_grown; done) | (simp [go_sem, *]; done)), (by first | (with_reducible assumption) | (simp [go_sem]; done) | ((simp only [go_sem]); (with_reducible assumption)) | ((refine keep_cell ?_ (by with_reducible assumption)); go_grown; done) | (simp [go_sem, *]; done)), (by first | (with_reducible assumption) | (simp [go_sem]; done) | ((simp only [go_sem]); (with_reducible assumption)) | ((refine keep_cell ?_ (by with_reducible assumption)); go_grown; done) | (simp [go_sem, *]; done)), (by first | (with_reducible assumption) | (simp [go_sem]; done) | ((simp only [go_sem]); (with_reducible assumption)) | ((refine keep_cell ?_ (by with_reducible assumption)); go_grown; done) | (simp [go_sem, *]; done)), (by go_grown)⟩)) hb
      (try clear hS)
      have hS := hT
      clear hT
      have hB := hS.2.2.2.2.2.2
      have hzw : w.heap.size ≤ w7.heap.size := hB.size
      have hz1 : w4.heap.size < w7.heap.size := World.block_lt_of_cell? w7 _ (hS.1)
      have hz2 : w1.heap.size < w7.heap.size := World.block_lt_of_cell? w7 _ (hS.2.2.2.1)
      clear hb
      go_wp2_with fail
      go_meet
      case rel => exact ⟨rfl, by go_grown⟩
    obtain ⟨e1, e2, e3, e4⟩ := HUP.out rfl
    subst e1
    have e2 := e2.symm
    have e3 := e3.symm
    have e4 := e4.symm
    subst e2 e3 e4
    go_wp2_with fail
    refine (validRep_c _ _ _ _).mono ?_
    rw [HK.out]
    rintro e w7 ⟨rfl, hb⟩
    have hT : w7.cell? ⟨w4.heap.size, 0, none⟩ = some (.bool o) ∧ w7.cell? ⟨w4.heap.size, 1, none⟩ = some (.int .i64 a) ∧ w7.cell? ⟨w4.heap.size, 2, none⟩ = some (.int .i64 b) ∧ w7.cell? ⟨w1.heap.size, 0, none⟩ = some (.bool o) ∧ w7.cell? ⟨w1.heap.size, 1, none⟩ = some (.int .i64 a) ∧ w7.cell? ⟨w1.heap.size, 2, none⟩ = some (.int .i64 b) ∧ Below w.heap.size w w7 := (fun W h hb => ⟨keep_cell (hb) h.1, keep_cell (hb) h.2.1, keep_cell (hb) h.2.2.1, keep_cell (hb) h.2.2.2.1, keep_cell (hb) h.2.2.2.2.1, keep_cell (hb) h.2.2.2.2.2.1, below_via h.2.2.2.2.2.2 (hb)⟩ : ∀ W : World, (W.cell? ⟨w4.heap.size, 0, none⟩ = some (.bool o) ∧ W.cell? ⟨w4.heap.size, 1, none⟩ = some (.int .i64 a) ∧ W.cell? ⟨w4.heap.size, 2, none⟩ = some (.int .i64 b) ∧ W.cell? ⟨w1.heap.size, 0, none⟩ = some (.bool o) ∧ W.cell? ⟨w1.heap.size, 1, none⟩ = some (.int .i64 a) ∧ W.cell? ⟨w1.heap.size, 2, none⟩ = some (.int .i64 b) ∧ Below w.heap.size w W) → Below W.heap.size W w7 → (w7.cell? ⟨w4.heap.size, 0, none⟩ = some (.bool o) ∧ w7.cell? ⟨w4.heap.size, 1, none⟩ = some (.int .i64 a) ∧ w7.cell? ⟨w4.heap.size, 2, none⟩ = some (.int .i64 b) ∧ w7.cell? ⟨w1.heap.size, 0, none⟩ = some (.bool o) ∧ w7.cell? ⟨w1.heap.size, 1, none⟩ = some (.int .i64 a) ∧ w7.cell? ⟨w1.heap.size, 2, none⟩ = some (.int .i64 b) ∧ Below w.heap.size w w7)) _ (by first | (with_reducible assumption) | (exact hS) | (exact ⟨hS.1, hS.2.1, hS.2.2.1, hS.2.2.2.1, hS.2.2.2.2.1, hS.2.2.2.2.2.1, (by go_grown)⟩) | (exact ⟨(by first | (with_reducible assumption) | (simp [go_sem]; done) | ((simp only [go_sem]); (with_reducible assumption)) | ((refine keep_cell ?_ (by with_reducible assumption)); go_grown; done) | (simp [go_sem, *]; done)), (by first | (with_reducible assumption) | (simp [go_sem]; done) | ((simp only [go_sem]); (with_reducible assumption)) | ((refine keep_cell ?_ (by with_reducible assumption)); go_grown; done) | (simp [go_sem, *]; done)), (by first | (with_reducible assumption) | (simp [go_sem]; done) | ((simp only [go_sem]); (with_reducible assumption)) | ((refine keep_cell ?_ (by with_reducible assumption)); go_grown; done) | (simp [go_sem, *]; done)), (by first | (with_reducible assumption) | (simp [go_sem]; done) | ((simp only [go_sem]); (with_reducible assumption)) | ((refine keep_cell ?_ (by with_reducible assumption)); go_grown; done) | (simp [go_sem, *]; done)), (by first | (with_reducible assumption) | (simp [go_sem]; done) | ((simp only [go_sem]); (with_reducible assumption)) | ((refine keep_cell ?_ (by with_reducible assumption)); go_grown; done) | (simp [go_sem, *]; done)), (by first | (with_reducible assumption) | (simp [go_sem]; done) | ((simp only [go_sem]); (with_reducible assumption)) | ((refine keep_cell ?_ (by with_reducible assumption)); go_grown; done) | (simp [go_sem, *]; done)), (by go_grown)⟩)) hb
    (try clear hS)
    have hS := hT
    clear hT
    have hB := hS.2.2.2.2.2.2
    have hzw : w.heap.size ≤ w7.heap.size := hB.size
    have hz1 : w4.heap.size < w7.heap.size := World.block_lt_of_cell? w7 _ (hS.1)
    have hz2 : w1.heap.size < w7.heap.size := World.block_lt_of_cell? w7 _ (hS.2.2.2.1)
    clear hb
    go_wp2_with fail
    go_meet
    case rel => exact ⟨rfl, by go_grown⟩
  obtain ⟨rfl, hB⟩ := hcut
  (try clear hS)
  have hzw : w.heap.size ≤ wc.heap.size := hB.size
  go_wp2_with fail
  refine (drawUnpack_c A n c _ (hide (h1.out.below (by go_grown))) HN.out).mono ?_
  rintro e w7 ⟨D, rfl, ⟨D0, D1⟩, hb⟩
  have hT : Below w.heap.size w w7 := (fun W h hb => below_via h (hb) : ∀ W : World, (Below w.heap.size w W) → Below W.heap.size W w7 → (Below w.heap.size w w7)) _ (by first | (with_reducible assumption) | go_grown) hb
  (try clear hS)
  have hS := hT
  clear hT
  have hB := hS
  have hzw : w.heap.size ≤ w7.heap.size := hB.size
  clear hb
  have HPK := hide (fun (h : upK D = true) => up_pk h)
  obtain ⟨VK, HVK0⟩ : ∃ q, (upK D) = q := ⟨_, rfl⟩
  have HVK := hide HVK0
  (try rw [HVK0] at HPK)
  clear HVK0
  obtain ⟨VO, HVO0⟩ : ∃ q, (upO D) = q := ⟨_, rfl⟩
  have HVO := hide HVO0
  (try rw [HVO0] at HPK)
  clear HVO0
  obtain ⟨VA, HVA0⟩ : ∃ q, (upA D) = q := ⟨_, rfl⟩
  have HVA := hide HVA0
  (try rw [HVA0] at HPK)
  clear HVA0
  obtain ⟨VB, HVB0⟩ : ∃ q, (upB D) = q := ⟨_, rfl⟩
  have HVB := hide HVB0
  (try rw [HVB0] at HPK)
  clear HVB0
  obtain ⟨M, HM0⟩ : ∃ q, (pkV VO VA VB) = q := ⟨_, rfl⟩
  have HM := hide HM0
  (try rw [HM0] at HPK)
  clear HM0
  obtain ⟨R, HR0⟩ : ∃ q, (vR VO VA VB) = q := ⟨_, rfl⟩
  have HR := hide HR0
  (try rw [HR0] at HPK)
  clear HR0
  go_wp2_with fail
  refine (unpack_c D _).mono ?_
  rw [HVO.out, HVA.out, HVB.out, HVK.out]
  rintro e w8 ⟨rfl, hb⟩
  have hT : Below w.heap.size w w8 := (fun W h hb => below_via h (hb) : ∀ W : World, (Below w.heap.size w W) → Below W.heap.size W w8 → (Below w.heap.size w w8)) _ (by first | (with_reducible assumption) | go_grown) hb
  (try clear hS)
  have hS := hT
  clear hT
  have hB := hS
  have hzw : w.heap.size ≤ w8.heap.size := hB.size
  clear hb
  go_wp2_with fail
  obtain ⟨w9, hww9⟩ : ∃ W, W = w8.alloc (.cells #[.bool VO, .int .i64 VA, .int .i64 VB] 31) := ⟨_, rfl⟩
  have hT : w9.cell? ⟨w8.heap.size, 0, none⟩ = some (.bool VO) ∧ w9.cell? ⟨w8.heap.size, 1, none⟩ = some (.int .i64 VA) ∧ w9.cell? ⟨w8.heap.size, 2, none⟩ = some (.int .i64 VB) ∧ Below w.heap.size w w9 := by
    rw [hww9]
    exact ⟨by simp [go_sem], by simp [go_sem], by simp [go_sem], below_via hS (by go_grown)⟩
  rw [← hww9]
  clear hS hww9
  have hS := hT
  clear hT
  (try clear hB hzw)
  have hB := hS.2.2.2
  have hzw : w.heap.size ≤ w9.heap.size := hB.size
  have hz1 : w8.heap.size < w9.heap.size := World.block_lt_of_cell? w9 _ (hS.1)
  go_wp2_with fail
  refine (pack_c VO VA VB _).mono ?_
  rw [HM.out, HR.out]
  rintro e w10 ⟨rfl, hb⟩
  have hT : w10.cell? ⟨w8.heap.size, 0, none⟩ = some (.bool VO) ∧ w10.cell? ⟨w8.heap.size, 1, none⟩ = some (.int .i64 VA) ∧ w10.cell? ⟨w8.heap.size, 2, none⟩ = some (.int .i64 VB) ∧ Below w.heap.size w w10 := (fun W h hb => ⟨keep_cell (hb) h.1, keep_cell (hb) h.2.1, keep_cell (hb) h.2.2.1, below_via h.2.2.2 (hb)⟩ : ∀ W : World, (W.cell? ⟨w8.heap.size, 0, none⟩ = some (.bool VO) ∧ W.cell? ⟨w8.heap.size, 1, none⟩ = some (.int .i64 VA) ∧ W.cell? ⟨w8.heap.size, 2, none⟩ = some (.int .i64 VB) ∧ Below w.heap.size w W) → Below W.heap.size W w10 → (w10.cell? ⟨w8.heap.size, 0, none⟩ = some (.bool VO) ∧ w10.cell? ⟨w8.heap.size, 1, none⟩ = some (.int .i64 VA) ∧ w10.cell? ⟨w8.heap.size, 2, none⟩ = some (.int .i64 VB) ∧ Below w.heap.size w w10)) _ (by first | (with_reducible assumption) | (exact hS) | (exact ⟨hS.1, hS.2.1, hS.2.2.1, (by go_grown)⟩) | (exact ⟨(by first | (with_reducible assumption) | (simp [go_sem]; done) | ((simp only [go_sem]); (with_reducible assumption)) | ((refine keep_cell ?_ (by with_reducible assumption)); go_grown; done) | (simp [go_sem, *]; done)), (by first | (with_reducible assumption) | (simp [go_sem]; done) | ((simp only [go_sem]); (with_reducible assumption)) | ((refine keep_cell ?_ (by with_reducible assumption)); go_grown; done) | (simp [go_sem, *]; done)), (by first | (with_reducible assumption) | (simp [go_sem]; done) | ((simp only [go_sem]); (with_reducible assumption)) | ((refine keep_cell ?_ (by with_reducible assumption)); go_grown; done) | (simp [go_sem, *]; done)), (by go_grown)⟩)) hb
  (try clear hS)
  have hS := hT
  clear hT
  have hB := hS.2.2.2
  have hzw : w.heap.size ≤ w10.heap.size := hB.size
  have hz1 : w8.heap.size < w10.heap.size := World.block_lt_of_cell? w10 _ (hS.1)
  clear hb
  go_wp2_with fail
  refine (sUnpack_c D _).mono ?_
  rw [HVO.out, HVA.out, HVB.out, HVK.out]
  rintro e w11 ⟨rfl, hb⟩
  have hT : w11.cell? ⟨w8.heap.size, 0, none⟩ = some (.bool VO) ∧ w11.cell? ⟨w8.heap.size, 1, none⟩ = some (.int .i64 VA) ∧ w11.cell? ⟨w8.heap.size, 2, none⟩ = some (.int .i64 VB) ∧ Below w.heap.size w w11 := (fun W h hb => ⟨keep_cell (hb) h.1, keep_cell (hb) h.2.1, keep_cell (hb) h.2.2.1, below_via h.2.2.2 (hb)⟩ : ∀ W : World, (W.cell? ⟨w8.heap.size, 0, none⟩ = some (.bool VO) ∧ W.cell? ⟨w8.heap.size, 1, none⟩ = some (.int .i64 VA) ∧ W.cell? ⟨w8.heap.size, 2, none⟩ = some (.int .i64 VB) ∧ Below w.heap.size w W) → Below W.heap.size W w11 → (w11.cell? ⟨w8.heap.size, 0, none⟩ = some (.bool VO) ∧ w11.cell? ⟨w8.heap.size, 1, none⟩ = some (.int .i64 VA) ∧ w11.cell? ⟨w8.heap.size, 2, none⟩ = some (.int .i64 VB) ∧ Below w.heap.size w w11)) _ (by first | (with_reducible assumption) | (exact hS) | (exact ⟨hS.1, hS.2.1, hS.2.2.1, (by go_grown)⟩) | (exact ⟨(by first | (with_reducible assumption) | (simp [go_sem]; done) | ((simp only [go_sem]); (with_reducible assumption)) | ((refine keep_cell ?_ (by with_reducible assumption)); go_grown; done) | (simp [go_sem, *]; done)), (by first | (with_reducible assumption) | (simp [go_sem]; done) | ((simp only [go_sem]); (with_reducible assumption)) | ((refine keep_cell ?_ (by with_reducible assumption)); go_grown; done) | (simp [go_sem, *]; done)), (by first | (with_reducible assumption) | (simp [go_sem]; done) | ((simp only [go_sem]); (with_reducible assumption)) | ((refine keep_cell ?_ (by with_reducible assumption)); go_grown; done) | (simp [go_sem, *]; done)), (by go_grown)⟩)) hb
  (try clear hS)
  have hS := hT
  clear hT
  have hB := hS.2.2.2
  have hzw : w.heap.size ≤ w11.heap.size := hB.size
  have hz1 : w8.heap.size < w11.heap.size := World.block_lt_of_cell? w11 _ (hS.1)
  clear hb
  go_upto_region 13 with fail
  obtain ⟨w12, hww12⟩ : ∃ W, W = w11.alloc (.cells #[.bool VO, .int .i64 VA, .int .i64 VB] 31) := ⟨_, rfl⟩
  have hT : w12.cell? ⟨w11.heap.size, 0, none⟩ = some (.bool VO) ∧ w12.cell? ⟨w11.heap.size, 1, none⟩ = some (.int .i64 VA) ∧ w12.cell? ⟨w11.heap.size, 2, none⟩ = some (.int .i64 VB) ∧ w12.cell? ⟨w8.heap.size, 0, none⟩ = some (.bool VO) ∧ w12.cell? ⟨w8.heap.size, 1, none⟩ = some (.int .i64 VA) ∧ w12.cell? ⟨w8.heap.size, 2, none⟩ = some (.int .i64 VB) ∧ Below w.heap.size w w12 := by
    rw [hww12]
    exact ⟨by simp [go_sem], by simp [go_sem], by simp [go_sem], keep_cell (by go_grown) hS.1, keep_cell (by go_grown) hS.2.1, keep_cell (by go_grown) hS.2.2.1, below_via hS.2.2.2 (by go_grown)⟩
  rw [← hww12]
  clear hS hww12
  have hS := hT
  clear hT
  (try clear hB hzw)
  have hB := hS.2.2.2.2.2.2
  have hzw : w.heap.size ≤ w12.heap.size := hB.size
  have hz1 : w11.heap.size < w12.heap.size := World.block_lt_of_cell? w12 _ (hS.1)
  have hz2 : w8.heap.size < w12.heap.size := World.block_lt_of_cell? w12 _ (hS.2.2.2.1)
  go_upto_region 13 with fail
  go_cut [118] (fun s wx => s = .bool false ∧ Below w.heap.size w wx)
  case first =>
    cases VK
    · go_wp2_with fail
      go_meet
      case rel => exact ⟨rfl, by go_grown⟩
    obtain ⟨e1, e2⟩ := HPK.out rfl
    subst e1
    have e2 := e2.symm
    subst e2
    go_wp2_with fail
    go_meet
    case rel => exact ⟨rfl, by go_grown⟩
  obtain ⟨rfl, hB⟩ := hcut
  (try clear hS)
  have hzw : w.heap.size ≤ wc.heap.size := hB.size
  go_wp2_with fail
  refine (drawNear_c A n c _ (hide (h1.out.below (by go_grown))) HN.out).mono ?_
  rintro e w13 ⟨o3, a3, b3, x, y, rfl, hb⟩
  have hT : Below w.heap.size w w13 := (fun W h hb => below_via h (hb) : ∀ W : World, (Below w.heap.size w W) → Below W.heap.size W w13 → (Below w.heap.size w w13)) _ (by first | (with_reducible assumption) | go_grown) hb
  (try clear hS)
  have hS := hT
  clear hT
  have hB := hS
  have hzw : w.heap.size ≤ w13.heap.size := hB.size
  clear hb
  go_wp2_with fail
  obtain ⟨w14, hww14⟩ : ∃ W, W = (w13.alloc (.cells #[.bool o3, .int .i64 a3, .int .i64 b3] 31)).alloc (.cells #[.int .i64 x, .int .i64 y] 25) := ⟨_, rfl⟩
  have hT : w14.cell? ⟨w13.heap.size, 0, none⟩ = some (.bool o3) ∧ w14.cell? ⟨w13.heap.size, 1, none⟩ = some (.int .i64 a3) ∧ w14.cell? ⟨w13.heap.size, 2, none⟩ = some (.int .i64 b3) ∧ w14.cell? ⟨w13.heap.size + 1, 0, none⟩ = some (.int .i64 x) ∧ w14.cell? ⟨w13.heap.size + 1, 1, none⟩ = some (.int .i64 y) ∧ Below w.heap.size w w14 := by
    rw [hww14]
    exact ⟨by simp [go_sem], by simp [go_sem], by simp [go_sem], by simp [go_sem], by simp [go_sem], below_via hS (by go_grown)⟩
  rw [← hww14]
  clear hS hww14
  have hS := hT
  clear hT
  (try clear hB hzw)
  have hB := hS.2.2.2.2.2
  have hzw : w.heap.size ≤ w14.heap.size := hB.size
  have hz1 : w13.heap.size < w14.heap.size := World.block_lt_of_cell? w14 _ (hS.1)
  have hz2 : w13.heap.size + 1 < w14.heap.size := World.block_lt_of_cell? w14 _ (hS.2.2.2.1)
  have HDN := hide (fun (h : dnK o3 a3 b3 x y = true) => dn_rep h)
  obtain ⟨K3, HK30⟩ : ∃ q, (dnK o3 a3 b3 x y) = q := ⟨_, rfl⟩
  have HK3 := hide HK30
  (try rw [HK30] at HDN)
  clear HK30
  obtain ⟨X, HX0⟩ : ∃ q, (dnX o3 a3 b3 x y) = q := ⟨_, rfl⟩
  have HX := hide HX0
  (try rw [HX0] at HDN)
  clear HX0
  obtain ⟨Y, HY0⟩ : ∃ q, (dnY o3 a3 b3 x y) = q := ⟨_, rfl⟩
  have HY := hide HY0
  (try rw [HY0] at HDN)
  clear HY0
  go_wp2_with fail
  refine (decodeNear_c o3 a3 b3 x y _).mono ?_
  rw [HX.out, HY.out, HK3.out]
  rintro e w15 ⟨rfl, hb⟩
  have hT : w15.cell? ⟨w13.heap.size, 0, none⟩ = some (.bool o3) ∧ w15.cell? ⟨w13.heap.size, 1, none⟩ = some (.int .i64 a3) ∧ w15.cell? ⟨w13.heap.size, 2, none⟩ = some (.int .i64 b3) ∧ w15.cell? ⟨w13.heap.size + 1, 0, none⟩ = some (.int .i64 x) ∧ w15.cell? ⟨w13.heap.size + 1, 1, none⟩ = some (.int .i64 y) ∧ Below w.heap.size w w15 := (fun W h hb => ⟨keep_cell (hb) h.1, keep_cell (hb) h.2.1, keep_cell (hb) h.2.2.1, keep_cell (hb) h.2.2.2.1, keep_cell (hb) h.2.2.2.2.1, below_via h.2.2.2.2.2 (hb)⟩ : ∀ W : World, (W.cell? ⟨w13.heap.size, 0, none⟩ = some (.bool o3) ∧ W.cell? ⟨w13.heap.size, 1, none⟩ = some (.int .i64 a3) ∧ W.cell? ⟨w13.heap.size, 2, none⟩ = some (.int .i64 b3) ∧ W.cell? ⟨w13.heap.size + 1, 0, none⟩ = some (.int .i64 x) ∧ W.cell? ⟨w13.heap.size + 1, 1, none⟩ = some (.int .i64 y) ∧ Below w.heap.size w W) → Below W.heap.size W w15 → (w15.cell? ⟨w13.heap.size, 0, none⟩ = some (.bool o3) ∧ w15.cell? ⟨w13.heap.size, 1, none⟩ = some (.int .i64 a3) ∧ w15.cell? ⟨w13.heap.size, 2, none⟩ = some (.int .i64 b3) ∧ w15.cell? ⟨w13.heap.size + 1, 0, none⟩ = some (.int .i64 x) ∧ w15.cell? ⟨w13.heap.size + 1, 1, none⟩ = some (.int .i64 y) ∧ Below w.heap.size w w15)) _ (by first | (with_reducible assumption) | (exact hS) | (exact ⟨hS.1, hS.2.1, hS.2.2.1, hS.2.2.2.1, hS.2.2.2.2.1, (by go_grown)⟩) | (exact ⟨(by first | (with_reducible assumption) | (simp [go_sem]; done) | ((simp only [go_sem]); (with_reducible assumption)) | ((refine keep_cell ?_ (by with_reducible assumption)); go_grown; done) | (simp [go_sem, *]; done)), (by first | (with_reducible assumption) | (simp [go_sem]; done) | ((simp only [go_sem]); (with_reducible assumption)) | ((refine keep_cell ?_ (by with_reducible assumption)); go_grown; done) | (simp [go_sem, *]; done)), (by first | (with_reducible assumption) | (simp [go_sem]; done) | ((simp only [go_sem]); (with_reducible assumption)) | ((refine keep_cell ?_ (by with_reducible assumption)); go_grown; done) | (simp [go_sem, *]; done)), (by first | (with_reducible assumption) | (simp [go_sem]; done) | ((simp only [go_sem]); (with_reducible assumption)) | ((refine keep_cell ?_ (by with_reducible assumption)); go_grown; done) | (simp [go_sem, *]; done)), (by first | (with_reducible assumption) | (simp [go_sem]; done) | ((simp only [go_sem]); (with_reducible assumption)) | ((refine keep_cell ?_ (by with_reducible assumption)); go_grown; done) | (simp [go_sem, *]; done)), (by go_grown)⟩)) hb
  (try clear hS)
  have hS := hT
  clear hT
  have hB := hS.2.2.2.2.2
  have hzw : w.heap.size ≤ w15.heap.size := hB.size
  have hz1 : w13.heap.size < w15.heap.size := World.block_lt_of_cell? w15 _ (hS.1)
  have hz2 : w13.heap.size + 1 < w15.heap.size := World.block_lt_of_cell? w15 _ (hS.2.2.2.1)
  clear hb
  go_wp2_with fail
  obtain ⟨w16, hww16⟩ : ∃ W, W = w15.alloc (.cells #[.int .i64 X, .int .i64 Y] 25) := ⟨_, rfl⟩
  have hT : w16.cell? ⟨w15.heap.size, 0, none⟩ = some (.int .i64 X) ∧ w16.cell? ⟨w15.heap.size, 1, none⟩ = some (.int .i64 Y) ∧ w16.cell? ⟨w13.heap.size, 0, none⟩ = some (.bool o3) ∧ w16.cell? ⟨w13.heap.size, 1, none⟩ = some (.int .i64 a3) ∧ w16.cell? ⟨w13.heap.size, 2, none⟩ = some (.int .i64 b3) ∧ w16.cell? ⟨w13.heap.size + 1, 0, none⟩ = some (.int .i64 x) ∧ w16.cell? ⟨w13.heap.size + 1, 1, none⟩ = some (.int .i64 y) ∧ Below w.heap.size w w16 := by
    rw [hww16]
    exact ⟨by simp [go_sem], by simp [go_sem], keep_cell (by go_grown) hS.1, keep_cell (by go_grown) hS.2.1, keep_cell (by go_grown) hS.2.2.1, keep_cell (by go_grown) hS.2.2.2.1, keep_cell (by go_grown) hS.2.2.2.2.1, below_via hS.2.2.2.2.2 (by go_grown)⟩
  rw [← hww16]
  clear hS hww16
  have hS := hT
  clear hT
  (try clear hB hzw)
  have hB := hS.2.2.2.2.2.2.2
  have hzw : w.heap.size ≤ w16.heap.size := hB.size
  have hz1 : w15.heap.size < w16.heap.size := World.block_lt_of_cell? w16 _ (hS.1)
  have hz2 : w13.heap.size < w16.heap.size := World.block_lt_of_cell? w16 _ (hS.2.2.1)
  have hz3 : w13.heap.size + 1 < w16.heap.size := World.block_lt_of_cell? w16 _ (hS.2.2.2.2.2.1)
  go_wp2_with fail
  refine (sDecodeNear_c o3 a3 b3 x y _).mono ?_
  rw [HX.out, HY.out, HK3.out]
  rintro e w17 ⟨rfl, hb⟩
  have hT : w17.cell? ⟨w15.heap.size, 0, none⟩ = some (.int .i64 X) ∧ w17.cell? ⟨w15.heap.size, 1, none⟩ = some (.int .i64 Y) ∧ w17.cell? ⟨w13.heap.size, 0, none⟩ = some (.bool o3) ∧ w17.cell? ⟨w13.heap.size, 1, none⟩ = some (.int .i64 a3) ∧ w17.cell? ⟨w13.heap.size, 2, none⟩ = some (.int .i64 b3) ∧ w17.cell? ⟨w13.heap.size + 1, 0, none⟩ = some (.int .i64 x) ∧ w17.cell? ⟨w13.heap.size + 1, 1, none⟩ = some (.int .i64 y) ∧ Below w.heap.size w w17 := (fun W h hb => ⟨keep_cell (hb) h.1, keep_cell (hb) h.2.1, keep_cell (hb) h.2.2.1, keep_cell (hb) h.2.2.2.1, keep_cell (hb) h.2.2.2.2.1, keep_cell (hb) h.2.2.2.2.2.1, keep_cell (hb) h.2.2.2.2.2.2.1, below_via h.2.2.2.2.2.2.2 (hb)⟩ : ∀ W : World, (W.cell? ⟨w15.heap.size, 0, none⟩ = some (.int .i64 X) ∧ W.cell? ⟨w15.heap.size, 1, none⟩ = some (.int .i64 Y) ∧ W.cell? ⟨w13.heap.size, 0, none⟩ = some (.bool o3) ∧ W.cell? ⟨w13.heap.size, 1, none⟩ = some (.int .i64 a3) ∧ W.cell? ⟨w13.heap.size, 2, none⟩ = some (.int .i64 b3) ∧ W.cell? ⟨w13.heap.size + 1, 0, none⟩ = some (.int .i64 x) ∧ W.cell? ⟨w13.heap.size + 1, 1, none⟩ = some (.int .i64 y) ∧ Below w.heap.size w W) → Below W.heap.size W w17 → (w17.cell? ⟨w15.heap.size, 0, none⟩ = some (.int .i64 X) ∧ w17.cell? ⟨w15.heap.size, 1, none⟩ = some (.int .i64 Y) ∧ w17.cell? ⟨w13.heap.size, 0, none⟩ = some (.bool o3) ∧ w17.cell? ⟨w13.heap.size, 1, none⟩ = some (.int .i64 a3) ∧ w17.cell? ⟨w13.heap.size, 2, none⟩ = some (.int .i64 b3) ∧ w17.cell? ⟨w13.heap.size + 1, 0, none⟩ = some (.int .i64 x) ∧ w17.cell? ⟨w13.heap.size + 1, 1, none⟩ = some (.int .i64 y) ∧ Below w.heap.size w w17)) _ (by first | (with_reducible assumption) | (exact hS) | (exact ⟨hS.1, hS.2.1, hS.2.2.1, hS.2.2.2.1, hS.2.2.2.2.1, hS.2.2.2.2.2.1, hS.2.2.2.2.2.2.1, (by go_grown)⟩) | (exact ⟨(by first | (with_reducible assumption) | (simp [go_sem]; done) | ((simp only [go_sem]); (with_reducible assumption)) | ((refine keep_cell ?_ (by with_reducible assumption)); go_grown; done) | (simp [go_sem, *]; done)), (by first | (with_reducible assumption) | (simp [go_sem]; done) | ((simp only [go_sem]); (with_reducible assumption)) | ((refine keep_cell ?_ (by with_reducible assumption)); go_grown; done) | (simp [go_sem, *]; done)), (by first | (with_reducible assumption) | (simp [go_sem]; done) | ((simp only [go_sem]); (with_reducible assumption)) | ((refine keep_cell ?_ (by with_reducible assumption)); go_grown; done) | (simp [go_sem, *]; done)), (by first | (with_reducible assumption) | (simp [go_sem]; done) | ((simp only [go_sem]); (with_reducible assumption)) | ((refine keep_cell ?_ (by with_reducible assumption)); go_grown; done) | (simp [go_sem, *]; done)), (by first | (with_reducible assumption) | (simp [go_sem]; done) | ((simp only [go_sem]); (with_reducible assumption)) | ((refine keep_cell ?_ (by with_reducible assumption)); go_grown; done) | (simp [go_sem, *]; done)), (by first | (with_reducible assumption) | (simp [go_sem]; done) | ((simp only [go_sem]); (with_reducible assumption)) | ((refine keep_cell ?_ (by with_reducible assumption)); go_grown; done) | (simp [go_sem, *]; done)), (by first | (with_reducible assumption) | (simp [go_sem]; done) | ((simp only [go_sem]); (with_reducible assumption)) | ((refine keep_cell ?_ (by with_reducible assumption)); go_grown; done) | (simp [go_sem, *]; done)), (by go_grown)⟩)) hb
  (try clear hS)
  have hS := hT
  clear hT
  have hB := hS.2.2.2.2.2.2.2
  have hzw : w.heap.size ≤ w17.heap.size := hB.size
  have hz1 : w15.heap.size < w17.heap.size := World.block_lt_of_cell? w17 _ (hS.1)
  have hz2 : w13.heap.size < w17.heap.size := World.block_lt_of_cell? w17 _ (hS.2.2.1)
  have hz3 : w13.heap.size + 1 < w17.heap.size := World.block_lt_of_cell? w17 _ (hS.2.2.2.2.2.1)
  clear hb
  go_upto_region 18 with fail
  obtain ⟨w18, hww18⟩ : ∃ W, W = w17.alloc (.cells #[.int .i64 X, .int .i64 Y] 25) := ⟨_, rfl⟩
  have hT : w18.cell? ⟨w17.heap.size, 0, none⟩ = some (.int .i64 X) ∧ w18.cell? ⟨w17.heap.size, 1, none⟩ = some (.int .i64 Y) ∧ w18.cell? ⟨w15.heap.size, 0, none⟩ = some (.int .i64 X) ∧ w18.cell? ⟨w15.heap.size, 1, none⟩ = some (.int .i64 Y) ∧ w18.cell? ⟨w13.heap.size, 0, none⟩ = some (.bool o3) ∧ w18.cell? ⟨w13.heap.size, 1, none⟩ = some (.int .i64 a3) ∧ w18.cell? ⟨w13.heap.size, 2, none⟩ = some (.int .i64 b3) ∧ w18.cell? ⟨w13.heap.size + 1, 0, none⟩ = some (.int .i64 x) ∧ w18.cell? ⟨w13.heap.size + 1, 1, none⟩ = some (.int .i64 y) ∧ Below w.heap.size w w18 := by
    rw [hww18]
    exact ⟨by simp [go_sem], by simp [go_sem], keep_cell (by go_grown) hS.1, keep_cell (by go_grown) hS.2.1, keep_cell (by go_grown) hS.2.2.1, keep_cell (by go_grown) hS.2.2.2.1, keep_cell (by go_grown) hS.2.2.2.2.1, keep_cell (by go_grown) hS.2.2.2.2.2.1, keep_cell (by go_grown) hS.2.2.2.2.2.2.1, below_via hS.2.2.2.2.2.2.2 (by go_grown)⟩
  rw [← hww18]
  clear hS hww18
  have hS := hT
  clear hT
  (try clear hB hzw)
  have hB := hS.2.2.2.2.2.2.2.2.2
  have hzw : w.heap.size ≤ w18.heap.size := hB.size
  have hz1 : w17.heap.size < w18.heap.size := World.block_lt_of_cell? w18 _ (hS.1)
  have hz2 : w15.heap.size < w18.heap.size := World.block_lt_of_cell? w18 _ (hS.2.2.1)
  have hz3 : w13.heap.size < w18.heap.size := World.block_lt_of_cell? w18 _ (hS.2.2.2.2.1)
  have hz4 : w13.heap.size + 1 < w18.heap.size := World.block_lt_of_cell? w18 _ (hS.2.2.2.2.2.2.2.1)
  go_upto_if 144 with fail
  go_cut [] (fun wx => Below w.heap.size w wx)
  case first =>
    cases K3
    · go_wp2_with fail
      go_meet
      case rel => go_grown
    obtain ⟨e1, e2, e3, e4⟩ := HDN.out rfl
    obtain ⟨f1, f2, f3⟩ := rof_of e2 e3 e4
    obtain ⟨p1, p2⟩ := pw_one e1 e2 e3 e4
    have HF1 := hide f1
    have HF2 := hide f2
    have HF3 := hide f3
    have HF4 := hide e2
    have HP1 := hide p1
    have HP2 := hide p2
    clear e1 e2 e3 e4 f1 f2 f3 p1 p2
    go_wp2_with fail
    refine (reportOf_c X Y o3 _).mono ?_
    rw [HF1.out, HF2.out, HF3.out, HF4.out]
    rintro e w19 ⟨rfl, hb⟩
    have hT : w19.cell? ⟨w17.heap.size, 0, none⟩ = some (.int .i64 X) ∧ w19.cell? ⟨w17.heap.size, 1, none⟩ = some (.int .i64 Y) ∧ w19.cell? ⟨w15.heap.size, 0, none⟩ = some (.int .i64 X) ∧ w19.cell? ⟨w15.heap.size, 1, none⟩ = some (.int .i64 Y) ∧ w19.cell? ⟨w13.heap.size, 0, none⟩ = some (.bool o3) ∧ w19.cell? ⟨w13.heap.size, 1, none⟩ = some (.int .i64 a3) ∧ w19.cell? ⟨w13.heap.size, 2, none⟩ = some (.int .i64 b3) ∧ w19.cell? ⟨w13.heap.size + 1, 0, none⟩ = some (.int .i64 x) ∧ w19.cell? ⟨w13.heap.size + 1, 1, none⟩ = some (.int .i64 y) ∧ Below w.heap.size w w19 := (fun W h hb => ⟨keep_cell (hb) h.1, keep_cell (hb) h.2.1, keep_cell (hb) h.2.2.1, keep_cell (hb) h.2.2.2.1, keep_cell (hb) h.2.2.2.2.1, keep_cell (hb) h.2.2.2.2.2.1, keep_cell (hb) h.2.2.2.2.2.2.1, keep_cell (hb) h.2.2.2.2.2.2.2.1, keep_cell (hb) h.2.2.2.2.2.2.2.2.1, below_via h.2.2.2.2.2.2.2.2.2 (hb)⟩ : ∀ W : World, (W.cell? ⟨w17.heap.size, 0, none⟩ = some (.int .i64 X) ∧ W.cell? ⟨w17.heap.size, 1, none⟩ = some (.int .i64 Y) ∧ W.cell? ⟨w15.heap.size, 0, none⟩ = some (.int .i64 X) ∧ W.cell? ⟨w15.heap.size, 1, none⟩ = some (.int .i64 Y) ∧ W.cell? ⟨w13.heap.size, 0, none⟩ = some (.bool o3) ∧ W.cell? ⟨w13.heap.size, 1, none⟩ = some (.int .i64 a3) ∧ W.cell? ⟨w13.heap.size, 2, none⟩ = some (.int .i64 b3) ∧ W.cell? ⟨w13.heap.size + 1, 0, none⟩ = some (.int .i64 x) ∧ W.cell? ⟨w13.heap.size + 1, 1, none⟩ = some (.int .i64 y) ∧ Below w.heap.size w W) → Below W.heap.size W w19 → (w19.cell? ⟨w17.heap.size, 0, none⟩ = some (.int .i64 X) ∧ w19.cell? ⟨w17.heap.size, 1, none⟩ = some (.int .i64 Y) ∧ w19.cell? ⟨w15.heap.size, 0, none⟩ = some (.int .i64 X) ∧ w19.cell? ⟨w15.heap.size, 1, none⟩ = some (.int .i64 Y) ∧ w19.cell? ⟨w13.heap.size, 0, none⟩ = some (.bool o3) ∧ w19.cell? ⟨w13.heap.size, 1, none⟩ = some (.int .i64 a3) ∧ w19.cell? ⟨w13.heap.size, 2, none⟩ = some (.int .i64 b3) ∧ w19.cell? ⟨w13.heap.size + 1, 0, none⟩ = some (.int .i64 x) ∧ w19.cell? ⟨w13.heap.size + 1, 1, none⟩ = some (.int .i64 y) ∧ Below w.heap.size w w19)) _ (by first | (with_reducible assumption) | (exact hS) | (exact ⟨hS.1, hS.2.1, hS.2.2.1, hS.2.2.2.1, hS.2.2.2.2.1, hS.2.2.2.2.2.1, hS.2.2.2.2.2.2.1, hS.2.2.2.2.2.2.2.1, hS.2.2.2.2.2.2.2.2.1, (by go_grown)⟩) | (exact ⟨(by first | (with_reducible assumption) | (simp [go_sem]; done) | ((simp only [go_sem]); (with_reducible assumption)) | ((refine keep_cell ?_ (by with_reducible assumption)); go_grown; done) | (simp [go_sem, *]; done)), (by first | (with_reducible assumption) | (simp [go_sem]; done) | ((simp only [go_sem]); (with_reducible assumption)) | ((refine keep_cell ?_ (by with_reducible assumption)); go_grown; done) | (simp [go_sem, *]; done)), (by first | (with_reducible assumption) | (simp [go_sem]; done) | ((simp only [go_sem]); (with_reducible assumption)) | ((refine keep_cell ?_ (by with_reducible assumption)); go_grown; done) | (simp [go_sem, *]; done)), (by first | (with_reducible assumption) | (simp [go_sem]; done) | ((simp only [go_sem]); (with_reducible assumption)) | ((refine keep_cell ?_ (by with_reducible assumption)); go_grown; done) | (simp [go_sem, *]; done)), (by first | (with_reducible assumption) | (simp [go_sem]; done) | ((simp only [go_sem]); (with_reducible assumption)) | ((refine keep_cell ?_ (by with_reducible assumption)); go_grown; done) | (simp [go_sem, *]; done)), (by first | (with_reducible assumption) | (simp [go_sem]; done) | ((simp only [go_sem]); (with_reducible assumption)) | ((refine keep_cell ?_ (by with_reducible assumption)); go_grown; done) | (simp [go_sem, *]; done)), (by first | (with_reducible assumption) | (simp [go_sem]; done) | ((simp only [go_sem]); (with_reducible assumption)) | ((refine keep_cell ?_ (by with_reducible assumption)); go_grown; done) | (simp [go_sem, *]; done)), (by first | (with_reducible assumption) | (simp [go_sem]; done) | ((simp only [go_sem]); (with_reducible assumption)) | ((refine keep_cell ?_ (by with_reducible assumption)); go_grown; done) | (simp [go_sem, *]; done)), (by first | (with_reducible assumption) | (simp [go_sem]; done) | ((simp only [go_sem]); (with_reducible assumption)) | ((refine keep_cell ?_ (by with_reducible assumption)); go_grown; done) | (simp [go_sem, *]; done)), (by go_grown)⟩)) hb
    (try clear hS)
    have hS := hT
    clear hT
    have hB := hS.2.2.2.2.2.2.2.2.2
    have hzw : w.heap.size ≤ w19.heap.size := hB.size
    have hz1 : w17.heap.size < w19.heap.size := World.block_lt_of_cell? w19 _ (hS.1)
    have hz2 : w15.heap.size < w19.heap.size := World.block_lt_of_cell? w19 _ (hS.2.2.1)
    have hz3 : w13.heap.size < w19.heap.size := World.block_lt_of_cell? w19 _ (hS.2.2.2.2.1)
    have hz4 : w13.heap.size + 1 < w19.heap.size := World.block_lt_of_cell? w19 _ (hS.2.2.2.2.2.2.2.1)
    clear hb
    go_wp2_with fail
    obtain ⟨w20, hww20⟩ : ∃ W, W = w19.alloc (.cells #[.bool o3, .int .i64 a3, .int .i64 b3] 31) := ⟨_, rfl⟩
    have hT : w20.cell? ⟨w19.heap.size, 0, none⟩ = some (.bool o3) ∧ w20.cell? ⟨w19.heap.size, 1, none⟩ = some (.int .i64 a3) ∧ w20.cell? ⟨w19.heap.size, 2, none⟩ = some (.int .i64 b3) ∧ w20.cell? ⟨w17.heap.size, 0, none⟩ = some (.int .i64 X) ∧ w20.cell? ⟨w17.heap.size, 1, none⟩ = some (.int .i64 Y) ∧ w20.cell? ⟨w15.heap.size, 0, none⟩ = some (.int .i64 X) ∧ w20.cell? ⟨w15.heap.size, 1, none⟩ = some (.int .i64 Y) ∧ w20.cell? ⟨w13.heap.size, 0, none⟩ = some (.bool o3) ∧ w20.cell? ⟨w13.heap.size, 1, none⟩ = some (.int .i64 a3) ∧ w20.cell? ⟨w13.heap.size, 2, none⟩ = some (.int .i64 b3) ∧ w20.cell? ⟨w13.heap.size + 1, 0, none⟩ = some (.int .i64 x) ∧ w20.cell? ⟨w13.heap.size + 1, 1, none⟩ = some (.int .i64 y) ∧ Below w.heap.size w w20 := by
      rw [hww20]
      exact ⟨by simp [go_sem], by simp [go_sem], by simp [go_sem], keep_cell (by go_grown) hS.1, keep_cell (by go_grown) hS.2.1, keep_cell (by go_grown) hS.2.2.1, keep_cell (by go_grown) hS.2.2.2.1, keep_cell (by go_grown) hS.2.2.2.2.1, keep_cell (by go_grown) hS.2.2.2.2.2.1, keep_cell (by go_grown) hS.2.2.2.2.2.2.1, keep_cell (by go_grown) hS.2.2.2.2.2.2.2.1, keep_cell (by go_grown) hS.2.2.2.2.2.2.2.2.1, below_via hS.2.2.2.2.2.2.2.2.2 (by go_grown)⟩
    rw [← hww20]
    clear hS hww20
    have hS := hT
    clear hT
    (try clear hB hzw)
    have hB := hS.2.2.2.2.2.2.2.2.2.2.2.2
    have hzw : w.heap.size ≤ w20.heap.size := hB.size
    have hz1 : w19.heap.size < w20.heap.size := World.block_lt_of_cell? w20 _ (hS.1)
    have hz2 : w17.heap.size < w20.heap.size := World.block_lt_of_cell? w20 _ (hS.2.2.2.1)
    have hz3 : w15.heap.size < w20.heap.size := World.block_lt_of_cell? w20 _ (hS.2.2.2.2.2.1)
    have hz4 : w13.heap.size < w20.heap.size := World.block_lt_of_cell? w20 _ (hS.2.2.2.2.2.2.2.1)
    have hz5 : w13.heap.size + 1 < w20.heap.size := World.block_lt_of_cell? w20 _ (hS.2.2.2.2.2.2.2.2.2.2.1)
    go_wp2_with fail
    refine (PlacesWith_c o3 a3 b3 X Y X Y _).mono ?_
    rw [HP2.out, HP1.out]
    rintro e w21 ⟨A1, c1, rfl, ho1, hb⟩
    obtain ⟨b1, ho1, hbk1⟩ := own_based ho1 (m := w20.heap.size) (by first | omega | (simp; done) | (simp; omega))
    have hT : w21.ownsRow (b1) 25 2 (.slice A1 1 c1) (1) (flat [(X, Y)]) ∧ w21.cell? ⟨w19.heap.size, 0, none⟩ = some (.bool o3) ∧ w21.cell? ⟨w19.heap.size, 1, none⟩ = some (.int .i64 a3) ∧ w21.cell? ⟨w19.heap.size, 2, none⟩ = some (.int .i64 b3) ∧ w21.cell? ⟨w17.heap.size, 0, none⟩ = some (.int .i64 X) ∧ w21.cell? ⟨w17.heap.size, 1, none⟩ = some (.int .i64 Y) ∧ w21.cell? ⟨w15.heap.size, 0, none⟩ = some (.int .i64 X) ∧ w21.cell? ⟨w15.heap.size, 1, none⟩ = some (.int .i64 Y) ∧ w21.cell? ⟨w13.heap.size, 0, none⟩ = some (.bool o3) ∧ w21.cell? ⟨w13.heap.size, 1, none⟩ = some (.int .i64 a3) ∧ w21.cell? ⟨w13.heap.size, 2, none⟩ = some (.int .i64 b3) ∧ w21.cell? ⟨w13.heap.size + 1, 0, none⟩ = some (.int .i64 x) ∧ w21.cell? ⟨w13.heap.size + 1, 1, none⟩ = some (.int .i64 y) ∧ Below w.heap.size w w21 := ⟨ho1, (fun W h hb => ⟨keep_cell (hb) h.1, keep_cell (hb) h.2.1, keep_cell (hb) h.2.2.1, keep_cell (hb) h.2.2.2.1, keep_cell (hb) h.2.2.2.2.1, keep_cell (hb) h.2.2.2.2.2.1, keep_cell (hb) h.2.2.2.2.2.2.1, keep_cell (hb) h.2.2.2.2.2.2.2.1, keep_cell (hb) h.2.2.2.2.2.2.2.2.1, keep_cell (hb) h.2.2.2.2.2.2.2.2.2.1, keep_cell (hb) h.2.2.2.2.2.2.2.2.2.2.1, keep_cell (hb) h.2.2.2.2.2.2.2.2.2.2.2.1, below_via h.2.2.2.2.2.2.2.2.2.2.2.2 (hb)⟩ : ∀ W : World, (W.cell? ⟨w19.heap.size, 0, none⟩ = some (.bool o3) ∧ W.cell? ⟨w19.heap.size, 1, none⟩ = some (.int .i64 a3) ∧ W.cell? ⟨w19.heap.size, 2, none⟩ = some (.int .i64 b3) ∧ W.cell? ⟨w17.heap.size, 0, none⟩ = some (.int .i64 X) ∧ W.cell? ⟨w17.heap.size, 1, none⟩ = some (.int .i64 Y) ∧ W.cell? ⟨w15.heap.size, 0, none⟩ = some (.int .i64 X) ∧ W.cell? ⟨w15.heap.size, 1, none⟩ = some (.int .i64 Y) ∧ W.cell? ⟨w13.heap.size, 0, none⟩ = some (.bool o3) ∧ W.cell? ⟨w13.heap.size, 1, none⟩ = some (.int .i64 a3) ∧ W.cell? ⟨w13.heap.size, 2, none⟩ = some (.int .i64 b3) ∧ W.cell? ⟨w13.heap.size + 1, 0, none⟩ = some (.int .i64 x) ∧ W.cell? ⟨w13.heap.size + 1, 1, none⟩ = some (.int .i64 y) ∧ Below w.heap.size w W) → Below W.heap.size W w21 → (w21.cell? ⟨w19.heap.size, 0, none⟩ = some (.bool o3) ∧ w21.cell? ⟨w19.heap.size, 1, none⟩ = some (.int .i64 a3) ∧ w21.cell? ⟨w19.heap.size, 2, none⟩ = some (.int .i64 b3) ∧ w21.cell? ⟨w17.heap.size, 0, none⟩ = some (.int .i64 X) ∧ w21.cell? ⟨w17.heap.size, 1, none⟩ = some (.int .i64 Y) ∧ w21.cell? ⟨w15.heap.size, 0, none⟩ = some (.int .i64 X) ∧ w21.cell? ⟨w15.heap.size, 1, none⟩ = some (.int .i64 Y) ∧ w21.cell? ⟨w13.heap.size, 0, none⟩ = some (.bool o3) ∧ w21.cell? ⟨w13.heap.size, 1, none⟩ = some (.int .i64 a3) ∧ w21.cell? ⟨w13.heap.size, 2, none⟩ = some (.int .i64 b3) ∧ w21.cell? ⟨w13.heap.size + 1, 0, none⟩ = some (.int .i64 x) ∧ w21.cell? ⟨w13.heap.size + 1, 1, none⟩ = some (.int .i64 y) ∧ Below w.heap.size w w21)) _ (by first | (with_reducible assumption) | (exact hS) | (exact ⟨hS.1, hS.2.1, hS.2.2.1, hS.2.2.2.1, hS.2.2.2.2.1, hS.2.2.2.2.2.1, hS.2.2.2.2.2.2.1, hS.2.2.2.2.2.2.2.1, hS.2.2.2.2.2.2.2.2.1, hS.2.2.2.2.2.2.2.2.2.1, hS.2.2.2.2.2.2.2.2.2.2.1, hS.2.2.2.2.2.2.2.2.2.2.2.1, (by go_grown)⟩) | (exact ⟨(by first | (with_reducible assumption) | (simp [go_sem]; done) | ((simp only [go_sem]); (with_reducible assumption)) | ((refine keep_cell ?_ (by with_reducible assumption)); go_grown; done) | (simp [go_sem, *]; done)), (by first | (with_reducible assumption) | (simp [go_sem]; done) | ((simp only [go_sem]); (with_reducible assumption)) | ((refine keep_cell ?_ (by with_reducible assumption)); go_grown; done) | (simp [go_sem, *]; done)), (by first | (with_reducible assumption) | (simp [go_sem]; done) | ((simp only [go_sem]); (with_reducible assumption)) | ((refine keep_cell ?_ (by with_reducible assumption)); go_grown; done) | (simp [go_sem, *]; done)), (by first | (with_reducible assumption) | (simp [go_sem]; done) | ((simp only [go_sem]); (with_reducible assumption)) | ((refine keep_cell ?_ (by with_reducible assumption)); go_grown; done) | (simp [go_sem, *]; done)), (by first | (with_reducible assumption) | (simp [go_sem]; done) | ((simp only [go_sem]); (with_reducible assumption)) | ((refine keep_cell ?_ (by with_reducible assumption)); go_grown; done) | (simp [go_sem, *]; done)), (by first | (with_reducible assumption) | (simp [go_sem]; done) | ((simp only [go_sem]); (with_reducible assumption)) | ((refine keep_cell ?_ (by with_reducible assumption)); go_grown; done) | (simp [go_sem, *]; done)), (by first | (with_reducible assumption) | (simp [go_sem]; done) | ((simp only [go_sem]); (with_reducible assumption)) | ((refine keep_cell ?_ (by with_reducible assumption)); go_grown; done) | (simp [go_sem, *]; done)), (by first | (with_reducible assumption) | (simp [go_sem]; done) | ((simp only [go_sem]); (with_reducible assumption)) | ((refine keep_cell ?_ (by with_reducible assumption)); go_grown; done) | (simp [go_sem, *]; done)), (by first | (with_reducible assumption) | (simp [go_sem]; done) | ((simp only [go_sem]); (with_reducible assumption)) | ((refine keep_cell ?_ (by with_reducible assumption)); go_grown; done) | (simp [go_sem, *]; done)), (by first | (with_reducible assumption) | (simp [go_sem]; done) | ((simp only [go_sem]); (with_reducible assumption)) | ((refine keep_cell ?_ (by with_reducible assumption)); go_grown; done) | (simp [go_sem, *]; done)), (by first | (with_reducible assumption) | (simp [go_sem]; done) | ((simp only [go_sem]); (with_reducible assumption)) | ((refine keep_cell ?_ (by with_reducible assumption)); go_grown; done) | (simp [go_sem, *]; done)), (by first | (with_reducible assumption) | (simp [go_sem]; done) | ((simp only [go_sem]); (with_reducible assumption)) | ((refine keep_cell ?_ (by with_reducible assumption)); go_grown; done) | (simp [go_sem, *]; done)), (by go_grown)⟩)) hb⟩
    (try clear hS)
    have hS := hT
    clear hT
    have hB := hS.2.2.2.2.2.2.2.2.2.2.2.2.2
    have hzw : w.heap.size ≤ w21.heap.size := hB.size
    have hz1 : w19.heap.size < w21.heap.size := World.block_lt_of_cell? w21 _ (hS.2.1)
    have hz2 : w17.heap.size < w21.heap.size := World.block_lt_of_cell? w21 _ (hS.2.2.2.2.1)
    have hz3 : w15.heap.size < w21.heap.size := World.block_lt_of_cell? w21 _ (hS.2.2.2.2.2.2.1)
    have hz4 : w13.heap.size < w21.heap.size := World.block_lt_of_cell? w21 _ (hS.2.2.2.2.2.2.2.2.1)
    have hz5 : w13.heap.size + 1 < w21.heap.size := World.block_lt_of_cell? w21 _ (hS.2.2.2.2.2.2.2.2.2.2.2.1)
    clear hb
    obtain ⟨g9, hA9, hg90, hg91⟩ := own_at (hS.1) (by omega)
    subst hA9
    obtain ⟨ux, uy⟩ := own_pt (l := [(X, Y)]) (hS.1) (k := 0) (by simp)
    have hS5 : w21.cell? ⟨g9, 0, none⟩ = some (.int .i64 X) ∧ w21.cell? ⟨g9, 1, none⟩ = some (.int .i64 Y) ∧ w21.cell? ⟨w19.heap.size, 0, none⟩ = some (.bool o3) ∧ w21.cell? ⟨w19.heap.size, 1, none⟩ = some (.int .i64 a3) ∧ w21.cell? ⟨w19.heap.size, 2, none⟩ = some (.int .i64 b3) ∧ w21.cell? ⟨w17.heap.size, 0, none⟩ = some (.int .i64 X) ∧ w21.cell? ⟨w17.heap.size, 1, none⟩ = some (.int .i64 Y) ∧ w21.cell? ⟨w15.heap.size, 0, none⟩ = some (.int .i64 X) ∧ w21.cell? ⟨w15.heap.size, 1, none⟩ = some (.int .i64 Y) ∧ w21.cell? ⟨w13.heap.size, 0, none⟩ = some (.bool o3) ∧ w21.cell? ⟨w13.heap.size, 1, none⟩ = some (.int .i64 a3) ∧ w21.cell? ⟨w13.heap.size, 2, none⟩ = some (.int .i64 b3) ∧ w21.cell? ⟨w13.heap.size + 1, 0, none⟩ = some (.int .i64 x) ∧ w21.cell? ⟨w13.heap.size + 1, 1, none⟩ = some (.int .i64 y) ∧ Below w.heap.size w w21 := ⟨ux, uy, hS.2.1, hS.2.2.1, hS.2.2.2.1, hS.2.2.2.2.1, hS.2.2.2.2.2.1, hS.2.2.2.2.2.2.1, hS.2.2.2.2.2.2.2.1, hS.2.2.2.2.2.2.2.2.1, hS.2.2.2.2.2.2.2.2.2.1, hS.2.2.2.2.2.2.2.2.2.2.1, hS.2.2.2.2.2.2.2.2.2.2.2.1, hS.2.2.2.2.2.2.2.2.2.2.2.2.1, hS.2.2.2.2.2.2.2.2.2.2.2.2.2⟩
    clear hS
    have hS := hS5
    clear hS5
    go_wp2
    refine wp_region_det (fun w' => w'.cell? ⟨g9, 0, none⟩ = some (.int .i64 X) ∧ w'.cell? ⟨g9, 1, none⟩ = some (.int .i64 Y) ∧ w'.cell? ⟨w19.heap.size, 0, none⟩ = some (.bool o3) ∧ w'.cell? ⟨w19.heap.size, 1, none⟩ = some (.int .i64 a3) ∧ w'.cell? ⟨w19.heap.size, 2, none⟩ = some (.int .i64 b3) ∧ w'.cell? ⟨w17.heap.size, 0, none⟩ = some (.int .i64 X) ∧ w'.cell? ⟨w17.heap.size, 1, none⟩ = some (.int .i64 Y) ∧ w'.cell? ⟨w15.heap.size, 0, none⟩ = some (.int .i64 X) ∧ w'.cell? ⟨w15.heap.size, 1, none⟩ = some (.int .i64 Y) ∧ w'.cell? ⟨w13.heap.size, 0, none⟩ = some (.bool o3) ∧ w'.cell? ⟨w13.heap.size, 1, none⟩ = some (.int .i64 a3) ∧ w'.cell? ⟨w13.heap.size, 2, none⟩ = some (.int .i64 b3) ∧ w'.cell? ⟨w13.heap.size + 1, 0, none⟩ = some (.int .i64 x) ∧ w'.cell? ⟨w13.heap.size + 1, 1, none⟩ = some (.int .i64 y) ∧ Below w.heap.size w w') (by kernel_rfl) (by kernel_rfl) (by first | (with_reducible assumption) | (exact hS) | (exact ⟨hS.1, hS.2.1, hS.2.2.1, hS.2.2.2.1, hS.2.2.2.2.1, hS.2.2.2.2.2.1, hS.2.2.2.2.2.2.1, hS.2.2.2.2.2.2.2.1, hS.2.2.2.2.2.2.2.2.1, hS.2.2.2.2.2.2.2.2.2.1, hS.2.2.2.2.2.2.2.2.2.2.1, hS.2.2.2.2.2.2.2.2.2.2.2.1, hS.2.2.2.2.2.2.2.2.2.2.2.2.1, hS.2.2.2.2.2.2.2.2.2.2.2.2.2.1, (by go_grown)⟩) | (exact ⟨(by first | (with_reducible assumption) | (simp [go_sem]; done) | ((simp only [go_sem]); (with_reducible assumption)) | ((refine keep_cell ?_ (by with_reducible assumption)); go_grown; done) | (simp [go_sem, *]; done)), (by first | (with_reducible assumption) | (simp [go_sem]; done) | ((simp only [go_sem]); (with_reducible assumption)) | ((refine keep_cell ?_ (by with_reducible assumption)); go_grown; done) | (simp [go_sem, *]; done)), (by first | (with_reducible assumption) | (simp [go_sem]; done) | ((simp only [go_sem]); (with_reducible assumption)) | ((refine keep_cell ?_ (by with_reducible assumption)); go_grown; done) | (simp [go_sem, *]; done)), (by first | (with_reducible assumption) | (simp [go_sem]; done) | ((simp only [go_sem]); (with_reducible assumption)) | ((refine keep_cell ?_ (by with_reducible assumption)); go_grown; done) | (simp [go_sem, *]; done)), (by first | (with_reducible assumption) | (simp [go_sem]; done) | ((simp only [go_sem]); (with_reducible assumption)) | ((refine keep_cell ?_ (by with_reducible assumption)); go_grown; done) | (simp [go_sem, *]; done)), (by first | (with_reducible assumption) | (simp [go_sem]; done) | ((simp only [go_sem]); (with_reducible assumption)) | ((refine keep_cell ?_ (by with_reducible assumption)); go_grown; done) | (simp [go_sem, *]; done)), (by first | (with_reducible assumption) | (simp [go_sem]; done) | ((simp only [go_sem]); (with_reducible assumption)) | ((refine keep_cell ?_ (by with_reducible assumption)); go_grown; done) | (simp [go_sem, *]; done)), (by first | (with_reducible assumption) | (simp [go_sem]; done) | ((simp only [go_sem]); (with_reducible assumption)) | ((refine keep_cell ?_ (by with_reducible assumption)); go_grown; done) | (simp [go_sem, *]; done)), (by first | (with_reducible assumption) | (simp [go_sem]; done) | ((simp only [go_sem]); (with_reducible assumption)) | ((refine keep_cell ?_ (by with_reducible assumption)); go_grown; done) | (simp [go_sem, *]; done)), (by first | (with_reducible assumption) | (simp [go_sem]; done) | ((simp only [go_sem]); (with_reducible assumption)) | ((refine keep_cell ?_ (by with_reducible assumption)); go_grown; done) | (simp [go_sem, *]; done)), (by first | (with_reducible assumption) | (simp [go_sem]; done) | ((simp only [go_sem]); (with_reducible assumption)) | ((refine keep_cell ?_ (by with_reducible assumption)); go_grown; done) | (simp [go_sem, *]; done)), (by first | (with_reducible assumption) | (simp [go_sem]; done) | ((simp only [go_sem]); (with_reducible assumption)) | ((refine keep_cell ?_ (by with_reducible assumption)); go_grown; done) | (simp [go_sem, *]; done)), (by first | (with_reducible assumption) | (simp [go_sem]; done) | ((simp only [go_sem]); (with_reducible assumption)) | ((refine keep_cell ?_ (by with_reducible assumption)); go_grown; done) | (simp [go_sem, *]; done)), (by first | (with_reducible assumption) | (simp [go_sem]; done) | ((simp only [go_sem]); (with_reducible assumption)) | ((refine keep_cell ?_ (by with_reducible assumption)); go_grown; done) | (simp [go_sem, *]; done)), (by go_grown)⟩)) ?_
    repeat (first
      | ((refine wpDet_skip (by rfl) ?_); simp only [Act.put, List.setIfInBounds_toArray, List.set_cons_zero, List.set_cons_succ])
      | ((refine wpDet_val (v := ?_) (by rfl) (fun w hS => ?_) ?_); rotate_left; (focus ((try dsimp only at hS); go_simp; (try (with_reducible rfl)); done)); simp only [Act.put, List.setIfInBounds_toArray, List.set_cons_zero, List.set_cons_succ]))
    refine wpDet_nil ?_
    intro wz hS
    have hT : wz.cell? ⟨g9, 0, none⟩ = some (.int .i64 X) ∧ wz.cell? ⟨g9, 1, none⟩ = some (.int .i64 Y) ∧ wz.cell? ⟨w19.heap.size, 0, none⟩ = some (.bool o3) ∧ wz.cell? ⟨w19.heap.size, 1, none⟩ = some (.int .i64 a3) ∧ wz.cell? ⟨w19.heap.size, 2, none⟩ = some (.int .i64 b3) ∧ wz.cell? ⟨w17.heap.size, 0, none⟩ = some (.int .i64 X) ∧ wz.cell? ⟨w17.heap.size, 1, none⟩ = some (.int .i64 Y) ∧ wz.cell? ⟨w15.heap.size, 0, none⟩ = some (.int .i64 X) ∧ wz.cell? ⟨w15.heap.size, 1, none⟩ = some (.int .i64 Y) ∧ wz.cell? ⟨w13.heap.size, 0, none⟩ = some (.bool o3) ∧ wz.cell? ⟨w13.heap.size, 1, none⟩ = some (.int .i64 a3) ∧ wz.cell? ⟨w13.heap.size, 2, none⟩ = some (.int .i64 b3) ∧ wz.cell? ⟨w13.heap.size + 1, 0, none⟩ = some (.int .i64 x) ∧ wz.cell? ⟨w13.heap.size + 1, 1, none⟩ = some (.int .i64 y) ∧ Below w.heap.size w wz := hS
    clear hS
    have hS := hT
    obtain ⟨c0, c1, c2, c3, c4, c5, c6, c7, c8, c9, c10, c11, c12, c13, hB⟩ := hT
    have hzw : w.heap.size ≤ wz.heap.size := hB.size
    have hz1 : g9 < wz.heap.size := World.block_lt_of_cell? wz _ (hS.1)
    have hz2 : w19.heap.size < wz.heap.size := World.block_lt_of_cell? wz _ (hS.2.2.1)
    have hz3 : w17.heap.size < wz.heap.size := World.block_lt_of_cell? wz _ (hS.2.2.2.2.2.1)
    have hz4 : w15.heap.size < wz.heap.size := World.block_lt_of_cell? wz _ (hS.2.2.2.2.2.2.2.1)
    have hz5 : w13.heap.size < wz.heap.size := World.block_lt_of_cell? wz _ (hS.2.2.2.2.2.2.2.2.2.1)
    have hz6 : w13.heap.size + 1 < wz.heap.size := World.block_lt_of_cell? wz _ (hS.2.2.2.2.2.2.2.2.2.2.2.2.1)
    go_wp2_with fail
    go_meet
    case rel => go_grown
  have hB : Below w.heap.size w wc := hcut
  clear hcut
  (try clear hS)
  have hzw : w.heap.size ≤ wc.heap.size := hB.size
  go_wp2_with fail
  refine (drawPW_c A n c _ (hide (h1.out.below (by go_grown))) HN.out).mono ?_
  rintro e w19 ⟨o4, a4, b4, lx, ly, hx, hy, rfl, hb⟩
  have hT : Below w.heap.size w w19 := (fun W h hb => below_via h (hb) : ∀ W : World, (Below w.heap.size w W) → Below W.heap.size W w19 → (Below w.heap.size w w19)) _ (by first | (with_reducible assumption) | go_grown) hb
  (try clear hS)
  have hS := hT
  clear hT
  have hB := hS
  have hzw : w.heap.size ≤ w19.heap.size := hB.size
  clear hb
  go_wp2_with fail
  obtain ⟨w20, hww20⟩ : ∃ W, W = ((w19.alloc (.cells #[.bool o4, .int .i64 a4, .int .i64 b4] 31)).alloc (.cells #[.int .i64 lx, .int .i64 ly] 25)).alloc (.cells #[.int .i64 hx, .int .i64 hy] 25) := ⟨_, rfl⟩
  have hT : w20.cell? ⟨w19.heap.size, 0, none⟩ = some (.bool o4) ∧ w20.cell? ⟨w19.heap.size, 1, none⟩ = some (.int .i64 a4) ∧ w20.cell? ⟨w19.heap.size, 2, none⟩ = some (.int .i64 b4) ∧ w20.cell? ⟨w19.heap.size + 1, 0, none⟩ = some (.int .i64 lx) ∧ w20.cell? ⟨w19.heap.size + 1, 1, none⟩ = some (.int .i64 ly) ∧ w20.cell? ⟨w19.heap.size + 2, 0, none⟩ = some (.int .i64 hx) ∧ w20.cell? ⟨w19.heap.size + 2, 1, none⟩ = some (.int .i64 hy) ∧ Below w.heap.size w w20 := by
    rw [hww20]
    exact ⟨by simp [go_sem], by simp [go_sem], by simp [go_sem], by simp [go_sem], by simp [go_sem], by simp [go_sem], by simp [go_sem], below_via hS (by go_grown)⟩
  rw [← hww20]
  clear hS hww20
  have hS := hT
  clear hT
  (try clear hB hzw)
  have hB := hS.2.2.2.2.2.2.2
  have hzw : w.heap.size ≤ w20.heap.size := hB.size
  have hz1 : w19.heap.size < w20.heap.size := World.block_lt_of_cell? w20 _ (hS.1)
  have hz2 : w19.heap.size + 1 < w20.heap.size := World.block_lt_of_cell? w20 _ (hS.2.2.2.1)
  have hz3 : w19.heap.size + 2 < w20.heap.size := World.block_lt_of_cell? w20 _ (hS.2.2.2.2.2.1)
  have HPM := hide (fun p (h : p ∈ pwV o4 a4 b4 lx ly hx hy) => pw_mem h)
  have hvl := pwV_len o4 a4 b4 lx ly hx hy
  obtain ⟨F, hF0⟩ : ∃ q, pwV o4 a4 b4 lx ly hx hy = q := ⟨_, rfl⟩
  have HFV := hide hF0
  rw [hF0] at HPM hvl
  clear hF0
  obtain ⟨K4, HK40⟩ : ∃ q, (pwK o4 a4 b4 lx ly hx hy) = q := ⟨_, rfl⟩
  have HK4 := hide HK40
  clear HK40
  go_wp2_with fail
  refine (PlacesWith_c o4 a4 b4 lx ly hx hy _).mono ?_
  rw [HFV.out, HK4.out]
  rintro e w21 ⟨A1, c1, rfl, ho1, hb⟩
  obtain ⟨b1, ho1, hbk1⟩ := own_based ho1 (m := w20.heap.size) (by first | omega | (simp; done) | (simp; omega))
  have hT : w21.ownsRow (b1) 25 2 (.slice A1 F.length c1) (F.length) (flat F) ∧ w21.cell? ⟨w19.heap.size, 0, none⟩ = some (.bool o4) ∧ w21.cell? ⟨w19.heap.size, 1, none⟩ = some (.int .i64 a4) ∧ w21.cell? ⟨w19.heap.size, 2, none⟩ = some (.int .i64 b4) ∧ w21.cell? ⟨w19.heap.size + 1, 0, none⟩ = some (.int .i64 lx) ∧ w21.cell? ⟨w19.heap.size + 1, 1, none⟩ = some (.int .i64 ly) ∧ w21.cell? ⟨w19.heap.size + 2, 0, none⟩ = some (.int .i64 hx) ∧ w21.cell? ⟨w19.heap.size + 2, 1, none⟩ = some (.int .i64 hy) ∧ Below w.heap.size w w21 := ⟨ho1, (fun W h hb => ⟨keep_cell (hb) h.1, keep_cell (hb) h.2.1, keep_cell (hb) h.2.2.1, keep_cell (hb) h.2.2.2.1, keep_cell (hb) h.2.2.2.2.1, keep_cell (hb) h.2.2.2.2.2.1, keep_cell (hb) h.2.2.2.2.2.2.1, below_via h.2.2.2.2.2.2.2 (hb)⟩ : ∀ W : World, (W.cell? ⟨w19.heap.size, 0, none⟩ = some (.bool o4) ∧ W.cell? ⟨w19.heap.size, 1, none⟩ = some (.int .i64 a4) ∧ W.cell? ⟨w19.heap.size, 2, none⟩ = some (.int .i64 b4) ∧ W.cell? ⟨w19.heap.size + 1, 0, none⟩ = some (.int .i64 lx) ∧ W.cell? ⟨w19.heap.size + 1, 1, none⟩ = some (.int .i64 ly) ∧ W.cell? ⟨w19.heap.size + 2, 0, none⟩ = some (.int .i64 hx) ∧ W.cell? ⟨w19.heap.size + 2, 1, none⟩ = some (.int .i64 hy) ∧ Below w.heap.size w W) → Below W.heap.size W w21 → (w21.cell? ⟨w19.heap.size, 0, none⟩ = some (.bool o4) ∧ w21.cell? ⟨w19.heap.size, 1, none⟩ = some (.int .i64 a4) ∧ w21.cell? ⟨w19.heap.size, 2, none⟩ = some (.int .i64 b4) ∧ w21.cell? ⟨w19.heap.size + 1, 0, none⟩ = some (.int .i64 lx) ∧ w21.cell? ⟨w19.heap.size + 1, 1, none⟩ = some (.int .i64 ly) ∧ w21.cell? ⟨w19.heap.size + 2, 0, none⟩ = some (.int .i64 hx) ∧ w21.cell? ⟨w19.heap.size + 2, 1, none⟩ = some (.int .i64 hy) ∧ Below w.heap.size w w21)) _ (by first | (with_reducible assumption) | (exact hS) | (exact ⟨hS.1, hS.2.1, hS.2.2.1, hS.2.2.2.1, hS.2.2.2.2.1, hS.2.2.2.2.2.1, hS.2.2.2.2.2.2.1, (by go_grown)⟩) | (exact ⟨(by first | (with_reducible assumption) | (simp [go_sem]; done) | ((simp only [go_sem]); (with_reducible assumption)) | ((refine keep_cell ?_ (by with_reducible assumption)); go_grown; done) | (simp [go_sem, *]; done)), (by first | (with_reducible assumption) | (simp [go_sem]; done) | ((simp only [go_sem]); (with_reducible assumption)) | ((refine keep_cell ?_ (by with_reducible assumption)); go_grown; done) | (simp [go_sem, *]; done)), (by first | (with_reducible assumption) | (simp [go_sem]; done) | ((simp only [go_sem]); (with_reducible assumption)) | ((refine keep_cell ?_ (by with_reducible assumption)); go_grown; done) | (simp [go_sem, *]; done)), (by first | (with_reducible assumption) | (simp [go_sem]; done) | ((simp only [go_sem]); (with_reducible assumption)) | ((refine keep_cell ?_ (by with_reducible assumption)); go_grown; done) | (simp [go_sem, *]; done)), (by first | (with_reducible assumption) | (simp [go_sem]; done) | ((simp only [go_sem]); (with_reducible assumption)) | ((refine keep_cell ?_ (by with_reducible assumption)); go_grown; done) | (simp [go_sem, *]; done)), (by first | (with_reducible assumption) | (simp [go_sem]; done) | ((simp only [go_sem]); (with_reducible assumption)) | ((refine keep_cell ?_ (by with_reducible assumption)); go_grown; done) | (simp [go_sem, *]; done)), (by first | (with_reducible assumption) | (simp [go_sem]; done) | ((simp only [go_sem]); (with_reducible assumption)) | ((refine keep_cell ?_ (by with_reducible assumption)); go_grown; done) | (simp [go_sem, *]; done)), (by go_grown)⟩)) hb⟩
  (try clear hS)
  have hS := hT
  clear hT
  have hB := hS.2.2.2.2.2.2.2.2
  have hzw : w.heap.size ≤ w21.heap.size := hB.size
  have hz1 : w19.heap.size < w21.heap.size := World.block_lt_of_cell? w21 _ (hS.2.1)
  have hz2 : w19.heap.size + 1 < w21.heap.size := World.block_lt_of_cell? w21 _ (hS.2.2.2.2.1)
  have hz3 : w19.heap.size + 2 < w21.heap.size := World.block_lt_of_cell? w21 _ (hS.2.2.2.2.2.2.1)
  clear hb
  have hP := hS
  go_wp2_with fail
  refine (sPlacesWith_c o4 a4 b4 lx ly hx hy _).mono ?_
  rw [HFV.out, HK4.out]
  rintro e w22 ⟨A2, c2, rfl, ho2, hb⟩
  obtain ⟨b2, ho2, hbk2⟩ := own_based ho2 (m := w21.heap.size) (by first | omega | (simp; done) | (simp; omega))
  have ne1_2 := own_ne (hP.1) ho2 hbk2
  clear hP
  have hT : w22.ownsRow (b2) 25 2 (.slice A2 F.length c2) (F.length) (flat F) ∧ w22.ownsRow (b1) 25 2 (.slice A1 F.length c1) (F.length) (flat F) ∧ w22.cell? ⟨w19.heap.size, 0, none⟩ = some (.bool o4) ∧ w22.cell? ⟨w19.heap.size, 1, none⟩ = some (.int .i64 a4) ∧ w22.cell? ⟨w19.heap.size, 2, none⟩ = some (.int .i64 b4) ∧ w22.cell? ⟨w19.heap.size + 1, 0, none⟩ = some (.int .i64 lx) ∧ w22.cell? ⟨w19.heap.size + 1, 1, none⟩ = some (.int .i64 ly) ∧ w22.cell? ⟨w19.heap.size + 2, 0, none⟩ = some (.int .i64 hx) ∧ w22.cell? ⟨w19.heap.size + 2, 1, none⟩ = some (.int .i64 hy) ∧ Below w.heap.size w w22 := ⟨ho2, (fun W h hb => ⟨own_below h.1 (hb), keep_cell (hb) h.2.1, keep_cell (hb) h.2.2.1, keep_cell (hb) h.2.2.2.1, keep_cell (hb) h.2.2.2.2.1, keep_cell (hb) h.2.2.2.2.2.1, keep_cell (hb) h.2.2.2.2.2.2.1, keep_cell (hb) h.2.2.2.2.2.2.2.1, below_via h.2.2.2.2.2.2.2.2 (hb)⟩ : ∀ W : World, (W.ownsRow (b1) 25 2 (.slice A1 F.length c1) (F.length) (flat F) ∧ W.cell? ⟨w19.heap.size, 0, none⟩ = some (.bool o4) ∧ W.cell? ⟨w19.heap.size, 1, none⟩ = some (.int .i64 a4) ∧ W.cell? ⟨w19.heap.size, 2, none⟩ = some (.int .i64 b4) ∧ W.cell? ⟨w19.heap.size + 1, 0, none⟩ = some (.int .i64 lx) ∧ W.cell? ⟨w19.heap.size + 1, 1, none⟩ = some (.int .i64 ly) ∧ W.cell? ⟨w19.heap.size + 2, 0, none⟩ = some (.int .i64 hx) ∧ W.cell? ⟨w19.heap.size + 2, 1, none⟩ = some (.int .i64 hy) ∧ Below w.heap.size w W) → Below W.heap.size W w22 → (w22.ownsRow (b1) 25 2 (.slice A1 F.length c1) (F.length) (flat F) ∧ w22.cell? ⟨w19.heap.size, 0, none⟩ = some (.bool o4) ∧ w22.cell? ⟨w19.heap.size, 1, none⟩ = some (.int .i64 a4) ∧ w22.cell? ⟨w19.heap.size, 2, none⟩ = some (.int .i64 b4) ∧ w22.cell? ⟨w19.heap.size + 1, 0, none⟩ = some (.int .i64 lx) ∧ w22.cell? ⟨w19.heap.size + 1, 1, none⟩ = some (.int .i64 ly) ∧ w22.cell? ⟨w19.heap.size + 2, 0, none⟩ = some (.int .i64 hx) ∧ w22.cell? ⟨w19.heap.size + 2, 1, none⟩ = some (.int .i64 hy) ∧ Below w.heap.size w w22)) _ (by first | (with_reducible assumption) | (exact hS) | (exact ⟨hS.1, hS.2.1, hS.2.2.1, hS.2.2.2.1, hS.2.2.2.2.1, hS.2.2.2.2.2.1, hS.2.2.2.2.2.2.1, hS.2.2.2.2.2.2.2.1, (by go_grown)⟩) | (exact ⟨(by first | (with_reducible assumption) | (exact World.ownsRow.alloc (by with_reducible assumption) _) | ((refine own_below (by with_reducible assumption) ?_); go_grown)), (by first | (with_reducible assumption) | (simp [go_sem]; done) | ((simp only [go_sem]); (with_reducible assumption)) | ((refine keep_cell ?_ (by with_reducible assumption)); go_grown; done) | (simp [go_sem, *]; done)), (by first | (with_reducible assumption) | (simp [go_sem]; done) | ((simp only [go_sem]); (with_reducible assumption)) | ((refine keep_cell ?_ (by with_reducible assumption)); go_grown; done) | (simp [go_sem, *]; done)), (by first | (with_reducible assumption) | (simp [go_sem]; done) | ((simp only [go_sem]); (with_reducible assumption)) | ((refine keep_cell ?_ (by with_reducible assumption)); go_grown; done) | (simp [go_sem, *]; done)), (by first | (with_reducible assumption) | (simp [go_sem]; done) | ((simp only [go_sem]); (with_reducible assumption)) | ((refine keep_cell ?_ (by with_reducible assumption)); go_grown; done) | (simp [go_sem, *]; done)), (by first | (with_reducible assumption) | (simp [go_sem]; done) | ((simp only [go_sem]); (with_reducible assumption)) | ((refine keep_cell ?_ (by with_reducible assumption)); go_grown; done) | (simp [go_sem, *]; done)), (by first | (with_reducible assumption) | (simp [go_sem]; done) | ((simp only [go_sem]); (with_reducible assumption)) | ((refine keep_cell ?_ (by with_reducible assumption)); go_grown; done) | (simp [go_sem, *]; done)), (by first | (with_reducible assumption) | (simp [go_sem]; done) | ((simp only [go_sem]); (with_reducible assumption)) | ((refine keep_cell ?_ (by with_reducible assumption)); go_grown; done) | (simp [go_sem, *]; done)), (by go_grown)⟩)) hb⟩
  (try clear hS)
  have hS := hT
  clear hT
  have hB := hS.2.2.2.2.2.2.2.2.2
  have hzw : w.heap.size ≤ w22.heap.size := hB.size
  have hz1 : w19.heap.size < w22.heap.size := World.block_lt_of_cell? w22 _ (hS.2.2.1)
  have hz2 : w19.heap.size + 1 < w22.heap.size := World.block_lt_of_cell? w22 _ (hS.2.2.2.2.2.1)
  have hz3 : w19.heap.size + 2 < w22.heap.size := World.block_lt_of_cell? w22 _ (hS.2.2.2.2.2.2.2.1)
  clear hb
  go_wp2_with fail
  refine (vPlaces_c _ _ _ _ F F _ (hide (own_reads (hS.2.1))) (hide (own_reads (hS.1))) (by omega) (by omega)).mono ?_
  rw [decide_eq_true (show F = F from rfl)]
  rintro e w23 ⟨rfl, hb⟩
  have hT : w23.ownsRow (b2) 25 2 (.slice A2 F.length c2) (F.length) (flat F) ∧ w23.ownsRow (b1) 25 2 (.slice A1 F.length c1) (F.length) (flat F) ∧ w23.cell? ⟨w19.heap.size, 0, none⟩ = some (.bool o4) ∧ w23.cell? ⟨w19.heap.size, 1, none⟩ = some (.int .i64 a4) ∧ w23.cell? ⟨w19.heap.size, 2, none⟩ = some (.int .i64 b4) ∧ w23.cell? ⟨w19.heap.size + 1, 0, none⟩ = some (.int .i64 lx) ∧ w23.cell? ⟨w19.heap.size + 1, 1, none⟩ = some (.int .i64 ly) ∧ w23.cell? ⟨w19.heap.size + 2, 0, none⟩ = some (.int .i64 hx) ∧ w23.cell? ⟨w19.heap.size + 2, 1, none⟩ = some (.int .i64 hy) ∧ Below w.heap.size w w23 := (fun W h hb => ⟨own_below h.1 (hb), own_below h.2.1 (hb), keep_cell (hb) h.2.2.1, keep_cell (hb) h.2.2.2.1, keep_cell (hb) h.2.2.2.2.1, keep_cell (hb) h.2.2.2.2.2.1, keep_cell (hb) h.2.2.2.2.2.2.1, keep_cell (hb) h.2.2.2.2.2.2.2.1, keep_cell (hb) h.2.2.2.2.2.2.2.2.1, below_via h.2.2.2.2.2.2.2.2.2 (hb)⟩ : ∀ W : World, (W.ownsRow (b2) 25 2 (.slice A2 F.length c2) (F.length) (flat F) ∧ W.ownsRow (b1) 25 2 (.slice A1 F.length c1) (F.length) (flat F) ∧ W.cell? ⟨w19.heap.size, 0, none⟩ = some (.bool o4) ∧ W.cell? ⟨w19.heap.size, 1, none⟩ = some (.int .i64 a4) ∧ W.cell? ⟨w19.heap.size, 2, none⟩ = some (.int .i64 b4) ∧ W.cell? ⟨w19.heap.size + 1, 0, none⟩ = some (.int .i64 lx) ∧ W.cell? ⟨w19.heap.size + 1, 1, none⟩ = some (.int .i64 ly) ∧ W.cell? ⟨w19.heap.size + 2, 0, none⟩ = some (.int .i64 hx) ∧ W.cell? ⟨w19.heap.size + 2, 1, none⟩ = some (.int .i64 hy) ∧ Below w.heap.size w W) → Below W.heap.size W w23 → (w23.ownsRow (b2) 25 2 (.slice A2 F.length c2) (F.length) (flat F) ∧ w23.ownsRow (b1) 25 2 (.slice A1 F.length c1) (F.length) (flat F) ∧ w23.cell? ⟨w19.heap.size, 0, none⟩ = some (.bool o4) ∧ w23.cell? ⟨w19.heap.size, 1, none⟩ = some (.int .i64 a4) ∧ w23.cell? ⟨w19.heap.size, 2, none⟩ = some (.int .i64 b4) ∧ w23.cell? ⟨w19.heap.size + 1, 0, none⟩ = some (.int .i64 lx) ∧ w23.cell? ⟨w19.heap.size + 1, 1, none⟩ = some (.int .i64 ly) ∧ w23.cell? ⟨w19.heap.size + 2, 0, none⟩ = some (.int .i64 hx) ∧ w23.cell? ⟨w19.heap.size + 2, 1, none⟩ = some (.int .i64 hy) ∧ Below w.heap.size w w23)) _ (by first | (with_reducible assumption) | (exact hS) | (exact ⟨hS.1, hS.2.1, hS.2.2.1, hS.2.2.2.1, hS.2.2.2.2.1, hS.2.2.2.2.2.1, hS.2.2.2.2.2.2.1, hS.2.2.2.2.2.2.2.1, hS.2.2.2.2.2.2.2.2.1, (by go_grown)⟩) | (exact ⟨(by first | (with_reducible assumption) | (exact World.ownsRow.alloc (by with_reducible assumption) _) | ((refine own_below (by with_reducible assumption) ?_); go_grown)), (by first | (with_reducible assumption) | (exact World.ownsRow.alloc (by with_reducible assumption) _) | ((refine own_below (by with_reducible assumption) ?_); go_grown)), (by first | (with_reducible assumption) | (simp [go_sem]; done) | ((simp only [go_sem]); (with_reducible assumption)) | ((refine keep_cell ?_ (by with_reducible assumption)); go_grown; done) | (simp [go_sem, *]; done)), (by first | (with_reducible assumption) | (simp [go_sem]; done) | ((simp only [go_sem]); (with_reducible assumption)) | ((refine keep_cell ?_ (by with_reducible assumption)); go_grown; done) | (simp [go_sem, *]; done)), (by first | (with_reducible assumption) | (simp [go_sem]; done) | ((simp only [go_sem]); (with_reducible assumption)) | ((refine keep_cell ?_ (by with_reducible assumption)); go_grown; done) | (simp [go_sem, *]; done)), (by first | (with_reducible assumption) | (simp [go_sem]; done) | ((simp only [go_sem]); (with_reducible assumption)) | ((refine keep_cell ?_ (by with_reducible assumption)); go_grown; done) | (simp [go_sem, *]; done)), (by first | (with_reducible assumption) | (simp [go_sem]; done) | ((simp only [go_sem]); (with_reducible assumption)) | ((refine keep_cell ?_ (by with_reducible assumption)); go_grown; done) | (simp [go_sem, *]; done)), (by first | (with_reducible assumption) | (simp [go_sem]; done) | ((simp only [go_sem]); (with_reducible assumption)) | ((refine keep_cell ?_ (by with_reducible assumption)); go_grown; done) | (simp [go_sem, *]; done)), (by first | (with_reducible assumption) | (simp [go_sem]; done) | ((simp only [go_sem]); (with_reducible assumption)) | ((refine keep_cell ?_ (by with_reducible assumption)); go_grown; done) | (simp [go_sem, *]; done)), (by go_grown)⟩)) hb
  (try clear hS)
  have hS := hT
  clear hT
  have hB := hS.2.2.2.2.2.2.2.2.2
  have hzw : w.heap.size ≤ w23.heap.size := hB.size
  have hz1 : w19.heap.size < w23.heap.size := World.block_lt_of_cell? w23 _ (hS.2.2.1)
  have hz2 : w19.heap.size + 1 < w23.heap.size := World.block_lt_of_cell? w23 _ (hS.2.2.2.2.2.1)
  have hz3 : w19.heap.size + 2 < w23.heap.size := World.block_lt_of_cell? w23 _ (hS.2.2.2.2.2.2.2.1)
  clear hb
  have hS3 : w23.ownsRow (b1) 25 2 (.slice A1 F.length c1) (F.length) (flat F) ∧ w23.cell? ⟨w19.heap.size, 0, none⟩ = some (.bool o4) ∧ w23.cell? ⟨w19.heap.size, 1, none⟩ = some (.int .i64 a4) ∧ w23.cell? ⟨w19.heap.size, 2, none⟩ = some (.int .i64 b4) ∧ Below w.heap.size w w23 := ⟨hS.2.1, hS.2.2.1, hS.2.2.2.1, hS.2.2.2.2.1, hS.2.2.2.2.2.2.2.2.2⟩
  clear hS
  have hS := hS3
  clear hS3
  obtain ⟨Z, hZ⟩ : ∃ q, w19.heap.size = q := ⟨_, rfl⟩
  rw [hZ] at hS ⊢
  go_upto_region 30 with fail
  go_wp2
  go_loopw [34] (fun iv wr => ∃ i : Nat, i ≤ F.length ∧ iv = .int .i64 i ∧ (wr.ownsRow (b1) 25 2 (.slice A1 F.length c1) (F.length) (flat F) ∧ wr.cell? ⟨Z, 0, none⟩ = some (.bool o4) ∧ wr.cell? ⟨Z, 1, none⟩ = some (.int .i64 a4) ∧ wr.cell? ⟨Z, 2, none⟩ = some (.int .i64 b4) ∧ Below w.heap.size w wr)) (fun iv _ => F.length - (intOf iv).toNat)
  case atStart => exact ⟨0, by omega, rfl, hS⟩
  case round =>
    obtain ⟨i, hi, rfl, hS⟩ := hrel
    have hB := hS.2.2.2.2
    have hzw : w.heap.size ≤ wr.heap.size := hB.size
    by_cases hlt : i < F.length
    rotate_left
    · go_wp2
      go_returns
      exact ⟨ret_eq (by simp), by go_grown⟩
    obtain ⟨g9, hA6, hg90, hg91⟩ := own_at (hS.1) (by omega)
    subst hA6
    obtain ⟨ux, uy⟩ := own_pt (hS.1) hlt
    obtain ⟨m1, m2, m3⟩ := HPM.out _ (px_mem hlt)
    simp only at m1 m2 m3
    obtain ⟨fx, hfx⟩ : ∃ q, px F i = q := ⟨_, rfl⟩
    obtain ⟨fy, hfy⟩ : ∃ q, py F i = q := ⟨_, rfl⟩
    rw [hfx, hfy] at m1
    rw [hfx] at ux m2
    rw [hfy] at uy m3
    clear hfx hfy
    obtain ⟨f1, f2, f3⟩ := rof_of m1 m2 m3
    have HC := hide (fun W : World => (reportOf_c fx fy o4 W))
    rw [f1, f2, f3, m1] at HC
    clear m1 m2 m3 f1 f2 f3
    have z0 := hS.2.1
    have z1 := hS.2.2.1
    have z2 := hS.2.2.2.1
    have hzz : Z < wr.heap.size := World.block_lt_of_cell? wr _ z0
    have HS := hide hS
    clear hS
    go_upto_region 33 with fail
    go_cut [35, 36] (fun s t wx => ∃ T : Nat, s = .pointer (some ⟨T, 0, none⟩) ∧ t = .bool true ∧ wx.cell? ⟨T, 0, none⟩ = some (.bool o4) ∧ wx.cell? ⟨T, 1, none⟩ = some (.int .i64 a4) ∧ wx.cell? ⟨T, 2, none⟩ = some (.int .i64 b4) ∧ Below wr.heap.size wr wx)
    case first =>
      go_region_with (first | (go_at_call 22; refine (HC.out (World.alloc (World.drew wr) _)).mono ?_; rintro e w5 ⟨rfl, hb⟩; have y0 : w5.cell? ⟨wr.heap.size, 0, none⟩ = some (.bool false) := keep_cell hb (by simp [go_sem] <;> fail); have y1 : w5.cell? ⟨wr.heap.size, 1, none⟩ = some (.int .i64 0) := keep_cell hb (by simp [go_sem] <;> fail); have y2 : w5.cell? ⟨wr.heap.size, 2, none⟩ = some (.int .i64 0) := keep_cell hb (by simp [go_sem] <;> fail); have y3 : wr.heap.size < w5.heap.size ∧ ∀ i, w5.frozen? ⟨wr.heap.size, i, none⟩ = false := keep_fre hb ⟨(by simp [go_sem] <;> fail), (by simp [go_sem] <;> fail)⟩; obtain ⟨y3, y4⟩ := y3; have hb2 : Below wr.heap.size wr w5 := below_via (by go_grown) hb; have hz5 := hb2.size) | (go_at_call 22; refine (HC.out (World.drew wr)).mono ?_; rintro e w5 ⟨rfl, hb⟩; have hb2 : Below wr.heap.size wr w5 := below_via (by go_grown) hb; have hz5 := hb2.size))
      all_goals
        go_wp2_with fail
        go_meet
        case rel => first | (exact ⟨wr.heap.size, rfl, rfl, (box3_sets y0 y1 y2 (.bool o4) (.int .i64 a4) (.int .i64 b4)).2.2.1, (box3_sets y0 y1 y2 (.bool o4) (.int .i64 a4) (.int .i64 b4)).2.2.2.1, (box3_sets y0 y1 y2 (.bool o4) (.int .i64 a4) (.int .i64 b4)).2.2.2.2, by go_grown⟩) | (exact ⟨w5.heap.size, rfl, rfl, by simp [go_sem], by simp [go_sem], by simp [go_sem], by go_grown⟩)
    obtain ⟨T, rfl, rfl, t0, t1, t2, hb⟩ := hcut
    have hS : wc.ownsRow (b1) 25 2 (.slice (some ⟨g9, 0, none⟩) F.length c1) (F.length) (flat F) ∧ wc.cell? ⟨Z, 0, none⟩ = some (.bool o4) ∧ wc.cell? ⟨Z, 1, none⟩ = some (.int .i64 a4) ∧ wc.cell? ⟨Z, 2, none⟩ = some (.int .i64 b4) ∧ Below w.heap.size w wc := ⟨own_below (HS.out.1) hb, keep_cell hb (HS.out.2.1), keep_cell hb (HS.out.2.2.1), keep_cell hb (HS.out.2.2.2.1), below_via (HS.out.2.2.2.2) hb⟩
    have x0 := hS.2.1
    have x1 := hS.2.2.1
    have x2 := hS.2.2.2.1
    have hB2 := hS.2.2.2.2
    go_wp2
    go_roundw
    case rel => exact ⟨i + 1, by omega, by go_num, hS.1, hS.2.1, hS.2.2.1, hS.2.2.2.1, by go_grown⟩
    case measure => simp [intOf]; omega
end Go.Proofs.Ytpabfkodlgglcaa
