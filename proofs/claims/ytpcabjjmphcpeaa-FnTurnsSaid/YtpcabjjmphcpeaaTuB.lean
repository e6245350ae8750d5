/- Law: turning back. -/
import Derived.Test.YtpcabjjmphcpeaaTuA
import Derived.Test.YtpcabjjmphcpeaaTurnMath
import Derived.Test.YtpcabjjmphcpeaaSpC
import Derived.Test.YtpcabjjmphcpeaaSpD
import Derived.Test.YtpcabjjmphcpeaaSpE
namespace Go.Proofs.Ytpcabjjmphcpeaa
open Go.RowKit

def bigB (n : Nat) : Bool := decide (65536 < n)
theorem bigB_no {n : Nat} (h : bigB n = false) : n ≤ 65536 := by have := of_decide_eq_false h; omega

theorem rBig_c (A : Option Addr) (n c : Nat)  (w : World) : Calls Try.prog 35 #[.slice A n c] w fun e w' => e = .returned (.bool (bigB n)) ∧ w = w' := by
  by_cases h : 65536 < n
  all_goals
    go_enter Try.func35, Try.ntmps35
    go_wp2
    all_goals (go_returns; exact ⟨ret_eq (by unfold bigB; simp [h]; (try omega)), rfl⟩)

set_option maxRecDepth 100000 in
set_option maxHeartbeats 4000000 in
theorem fnTurns (A : Option Addr) (n c : Nat) (w : World) (h1 : Hid (CodeOk w A n))  : Calls Try.prog 12 #[.slice A n c] w (Gives w (.bool true)) := by
  rcases kb : bigB n with _ | _
  rotate_left
  · have HKB := hide kb
    clear kb
    go_enter Try.func12, Try.ntmps12
    go_wp2_with (first | (go_at_call 35; refine (rBig_c _ _ _ _).mono ?_; rintro e w1 ⟨rfl, rfl⟩; rw [HKB.out]))
    go_returns
    exact ⟨ret_eq rfl, by go_grown⟩
  have HKB := hide kb
  have HN := hide (bigB_no kb)
  clear kb
  go_enter Try.func12, Try.ntmps12
  go_wp2_with fail
  refine (rBig_c _ _ _ _).mono ?_
  rintro e wz ⟨rfl, rfl⟩
  rw [HKB.out]
  go_wp2_with fail
  refine (drawTurn_c A n c _ (hide (h1.out.below (by go_grown))) HN.out).mono ?_
  rintro e w1 ⟨x, y, u, v, rfl, hb⟩
  have hT : Below w.heap.size w w1 := (fun W h hb => below_via h (hb) : ∀ W : World, (Below w.heap.size w W) → Below W.heap.size W w1 → (Below w.heap.size w w1)) _ (by first | (with_reducible assumption) | go_grown) hb
  (try clear hS)
  have hS := hT
  clear hT
  have hB := hS
  have hzw : w.heap.size ≤ w1.heap.size := hB.size
  clear hb
  obtain ⟨T, HT0⟩ : ∃ q, (turnV x y u v) = q := ⟨_, rfl⟩
  have HT := hide HT0
  obtain ⟨K, HK0⟩ : ∃ q, (turnK x y u v) = q := ⟨_, rfl⟩
  have HK := hide HK0
  obtain ⟨T2, HU0⟩ : ∃ q, (turnV u v x y) = q := ⟨_, rfl⟩
  have HU := hide HU0
  have HJ := hide (show turnK u v x y = K from (turnK_swap x y u v).trans HK0)
  have htie := turn_tie x y u v
  rw [HT0, HU0] at htie
  clear HT0 HU0 HK0
  go_wp2_with fail
  refine (turn_c _ _ _ _ _).mono ?_
  rw [HT.out, HK.out]
  rintro e w2 ⟨rfl, hb⟩
  have hT : w2.cell? ⟨w1.heap.size, 0, none⟩ = some (.int .i64 (x)) ∧ w2.cell? ⟨w1.heap.size, 1, none⟩ = some (.int .i64 (y)) ∧ w2.cell? ⟨w1.heap.size + 1, 0, none⟩ = some (.int .i64 (u)) ∧ w2.cell? ⟨w1.heap.size + 1, 1, none⟩ = some (.int .i64 (v)) ∧ Below w.heap.size w w2 := (fun W h hb => ⟨keep_cell (hb) h.1, keep_cell (hb) h.2.1, keep_cell (hb) h.2.2.1, keep_cell (hb) h.2.2.2.1, below_via h.2.2.2.2 (hb)⟩ : ∀ W : World, (W.cell? ⟨w1.heap.size, 0, none⟩ = some (.int .i64 (x)) ∧ W.cell? ⟨w1.heap.size, 1, none⟩ = some (.int .i64 (y)) ∧ W.cell? ⟨w1.heap.size + 1, 0, none⟩ = some (.int .i64 (u)) ∧ W.cell? ⟨w1.heap.size + 1, 1, none⟩ = some (.int .i64 (v)) ∧ Below w.heap.size w W) → Below W.heap.size W w2 → (w2.cell? ⟨w1.heap.size, 0, none⟩ = some (.int .i64 (x)) ∧ w2.cell? ⟨w1.heap.size, 1, none⟩ = some (.int .i64 (y)) ∧ w2.cell? ⟨w1.heap.size + 1, 0, none⟩ = some (.int .i64 (u)) ∧ w2.cell? ⟨w1.heap.size + 1, 1, none⟩ = some (.int .i64 (v)) ∧ Below w.heap.size w w2)) _ (by first | (with_reducible assumption) | (exact hS) | (exact ⟨hS.1, hS.2.1, hS.2.2.1, hS.2.2.2.1, (by go_grown)⟩) | (exact ⟨(by first | (with_reducible assumption) | (simp [go_sem]; done) | ((simp only [go_sem]); (with_reducible assumption)) | ((refine keep_cell ?_ (by with_reducible assumption)); go_grown; done) | (simp [go_sem, *]; done)), (by first | (with_reducible assumption) | (simp [go_sem]; done) | ((simp only [go_sem]); (with_reducible assumption)) | ((refine keep_cell ?_ (by with_reducible assumption)); go_grown; done) | (simp [go_sem, *]; done)), (by first | (with_reducible assumption) | (simp [go_sem]; done) | ((simp only [go_sem]); (with_reducible assumption)) | ((refine keep_cell ?_ (by with_reducible assumption)); go_grown; done) | (simp [go_sem, *]; done)), (by first | (with_reducible assumption) | (simp [go_sem]; done) | ((simp only [go_sem]); (with_reducible assumption)) | ((refine keep_cell ?_ (by with_reducible assumption)); go_grown; done) | (simp [go_sem, *]; done)), (by go_grown)⟩)) hb
  (try clear hS)
  have hS := hT
  clear hT
  have hB := hS.2.2.2.2
  have hzw : w.heap.size ≤ w2.heap.size := hB.size
  have hz1 : w1.heap.size < w2.heap.size := World.block_lt_of_cell? w2 _ (hS.1)
  have hz2 : w1.heap.size + 1 < w2.heap.size := World.block_lt_of_cell? w2 _ (hS.2.2.1)
  clear hb
  go_wp2_with fail
  refine (turn_c _ _ _ _ _).mono ?_
  rw [HU.out, HJ.out]
  rintro e w3 ⟨rfl, hb⟩
  have hT : w3.cell? ⟨w1.heap.size, 0, none⟩ = some (.int .i64 (x)) ∧ w3.cell? ⟨w1.heap.size, 1, none⟩ = some (.int .i64 (y)) ∧ w3.cell? ⟨w1.heap.size + 1, 0, none⟩ = some (.int .i64 (u)) ∧ w3.cell? ⟨w1.heap.size + 1, 1, none⟩ = some (.int .i64 (v)) ∧ Below w.heap.size w w3 := (fun W h hb => ⟨keep_cell (hb) h.1, keep_cell (hb) h.2.1, keep_cell (hb) h.2.2.1, keep_cell (hb) h.2.2.2.1, below_via h.2.2.2.2 (hb)⟩ : ∀ W : World, (W.cell? ⟨w1.heap.size, 0, none⟩ = some (.int .i64 (x)) ∧ W.cell? ⟨w1.heap.size, 1, none⟩ = some (.int .i64 (y)) ∧ W.cell? ⟨w1.heap.size + 1, 0, none⟩ = some (.int .i64 (u)) ∧ W.cell? ⟨w1.heap.size + 1, 1, none⟩ = some (.int .i64 (v)) ∧ Below w.heap.size w W) → Below W.heap.size W w3 → (w3.cell? ⟨w1.heap.size, 0, none⟩ = some (.int .i64 (x)) ∧ w3.cell? ⟨w1.heap.size, 1, none⟩ = some (.int .i64 (y)) ∧ w3.cell? ⟨w1.heap.size + 1, 0, none⟩ = some (.int .i64 (u)) ∧ w3.cell? ⟨w1.heap.size + 1, 1, none⟩ = some (.int .i64 (v)) ∧ Below w.heap.size w w3)) _ (by first | (with_reducible assumption) | (exact hS) | (exact ⟨hS.1, hS.2.1, hS.2.2.1, hS.2.2.2.1, (by go_grown)⟩) | (exact ⟨(by first | (with_reducible assumption) | (simp [go_sem]; done) | ((simp only [go_sem]); (with_reducible assumption)) | ((refine keep_cell ?_ (by with_reducible assumption)); go_grown; done) | (simp [go_sem, *]; done)), (by first | (with_reducible assumption) | (simp [go_sem]; done) | ((simp only [go_sem]); (with_reducible assumption)) | ((refine keep_cell ?_ (by with_reducible assumption)); go_grown; done) | (simp [go_sem, *]; done)), (by first | (with_reducible assumption) | (simp [go_sem]; done) | ((simp only [go_sem]); (with_reducible assumption)) | ((refine keep_cell ?_ (by with_reducible assumption)); go_grown; done) | (simp [go_sem, *]; done)), (by first | (with_reducible assumption) | (simp [go_sem]; done) | ((simp only [go_sem]); (with_reducible assumption)) | ((refine keep_cell ?_ (by with_reducible assumption)); go_grown; done) | (simp [go_sem, *]; done)), (by go_grown)⟩)) hb
  (try clear hS)
  have hS := hT
  clear hT
  have hB := hS.2.2.2.2
  have hzw : w.heap.size ≤ w3.heap.size := hB.size
  have hz1 : w1.heap.size < w3.heap.size := World.block_lt_of_cell? w3 _ (hS.1)
  have hz2 : w1.heap.size + 1 < w3.heap.size := World.block_lt_of_cell? w3 _ (hS.2.2.1)
  clear hb
  go_wp2_with fail
  refine (sTurn_c _ _ _ _ _).mono ?_
  rw [HT.out, HK.out]
  rintro e w4 ⟨rfl, hb⟩
  have hT : w4.cell? ⟨w1.heap.size, 0, none⟩ = some (.int .i64 (x)) ∧ w4.cell? ⟨w1.heap.size, 1, none⟩ = some (.int .i64 (y)) ∧ w4.cell? ⟨w1.heap.size + 1, 0, none⟩ = some (.int .i64 (u)) ∧ w4.cell? ⟨w1.heap.size + 1, 1, none⟩ = some (.int .i64 (v)) ∧ Below w.heap.size w w4 := (fun W h hb => ⟨keep_cell (hb) h.1, keep_cell (hb) h.2.1, keep_cell (hb) h.2.2.1, keep_cell (hb) h.2.2.2.1, below_via h.2.2.2.2 (hb)⟩ : ∀ W : World, (W.cell? ⟨w1.heap.size, 0, none⟩ = some (.int .i64 (x)) ∧ W.cell? ⟨w1.heap.size, 1, none⟩ = some (.int .i64 (y)) ∧ W.cell? ⟨w1.heap.size + 1, 0, none⟩ = some (.int .i64 (u)) ∧ W.cell? ⟨w1.heap.size + 1, 1, none⟩ = some (.int .i64 (v)) ∧ Below w.heap.size w W) → Below W.heap.size W w4 → (w4.cell? ⟨w1.heap.size, 0, none⟩ = some (.int .i64 (x)) ∧ w4.cell? ⟨w1.heap.size, 1, none⟩ = some (.int .i64 (y)) ∧ w4.cell? ⟨w1.heap.size + 1, 0, none⟩ = some (.int .i64 (u)) ∧ w4.cell? ⟨w1.heap.size + 1, 1, none⟩ = some (.int .i64 (v)) ∧ Below w.heap.size w w4)) _ (by first | (with_reducible assumption) | (exact hS) | (exact ⟨hS.1, hS.2.1, hS.2.2.1, hS.2.2.2.1, (by go_grown)⟩) | (exact ⟨(by first | (with_reducible assumption) | (simp [go_sem]; done) | ((simp only [go_sem]); (with_reducible assumption)) | ((refine keep_cell ?_ (by with_reducible assumption)); go_grown; done) | (simp [go_sem, *]; done)), (by first | (with_reducible assumption) | (simp [go_sem]; done) | ((simp only [go_sem]); (with_reducible assumption)) | ((refine keep_cell ?_ (by with_reducible assumption)); go_grown; done) | (simp [go_sem, *]; done)), (by first | (with_reducible assumption) | (simp [go_sem]; done) | ((simp only [go_sem]); (with_reducible assumption)) | ((refine keep_cell ?_ (by with_reducible assumption)); go_grown; done) | (simp [go_sem, *]; done)), (by first | (with_reducible assumption) | (simp [go_sem]; done) | ((simp only [go_sem]); (with_reducible assumption)) | ((refine keep_cell ?_ (by with_reducible assumption)); go_grown; done) | (simp [go_sem, *]; done)), (by go_grown)⟩)) hb
  (try clear hS)
  have hS := hT
  clear hT
  have hB := hS.2.2.2.2
  have hzw : w.heap.size ≤ w4.heap.size := hB.size
  have hz1 : w1.heap.size < w4.heap.size := World.block_lt_of_cell? w4 _ (hS.1)
  have hz2 : w1.heap.size + 1 < w4.heap.size := World.block_lt_of_cell? w4 _ (hS.2.2.1)
  clear hb
  cases K
  rotate_left
  rcases htie with ⟨rfl, rfl⟩ | ⟨rfl, rfl⟩ | ⟨rfl, rfl⟩ | ⟨rfl, rfl⟩
  all_goals
    go_wp2_with fail
    refine (drawFaster_c A n c _ (hide (h1.out.below (by go_grown))) HN.out).mono ?_
    rintro e w5 ⟨a, b, c1, d, rfl, hb⟩
    have hT : Below w.heap.size w w5 := (fun W h hb => below_via h (hb) : ∀ W : World, (Below w.heap.size w W) → Below W.heap.size W w5 → (Below w.heap.size w w5)) _ (by first | (with_reducible assumption) | go_grown) hb
    (try clear hS)
    have hS := hT
    clear hT
    have hB := hS
    have hzw : w.heap.size ≤ w5.heap.size := hB.size
    clear hb
    obtain ⟨N, HT20⟩ : ∃ q, (faster a b c1 d) = q := ⟨_, rfl⟩
    have HT2 := hide HT20
    obtain ⟨K2, HK20⟩ : ∃ q, (vV a b && vV c1 d) = q := ⟨_, rfl⟩
    have HK2 := hide HK20
    obtain ⟨M, HU20⟩ : ∃ q, (faster c1 d a b) = q := ⟨_, rfl⟩
    have HU2 := hide HU20
    have HJ2 := hide (show (vV c1 d && vV a b) = K2 from (vV_swap a b c1 d).trans HK20)
    have hft := faster_tie a b c1 d
    rw [HT20, HU20] at hft
    obtain ⟨hm3, ⟨nb0, nb1⟩, nb2, nb3⟩ := hft
    clear HT20 HU20 HK20
    have ewf : IntKind.i64.wrap (N + M) = N + M := IntWalk.i64_in _ (by omega)
    have hm3b : ((N + M) % 3 != 0) = false := by simp [hm3]
    have hm3c : (N + M).tmod 3 = 0 := by rw [Int.tmod_eq_emod_of_nonneg (by omega)]; exact hm3
    go_wp2_with fail
    refine (faster_c _ _ _ _ _).mono ?_
    rw [HT2.out, HK2.out]
    rintro e w6 ⟨rfl, hb⟩
    have hT : w6.cell? ⟨w5.heap.size, 0, none⟩ = some (.int .i64 (a)) ∧ w6.cell? ⟨w5.heap.size, 1, none⟩ = some (.int .i64 (b)) ∧ w6.cell? ⟨w5.heap.size + 1, 0, none⟩ = some (.int .i64 (c1)) ∧ w6.cell? ⟨w5.heap.size + 1, 1, none⟩ = some (.int .i64 (d)) ∧ Below w.heap.size w w6 := (fun W h hb => ⟨keep_cell (hb) h.1, keep_cell (hb) h.2.1, keep_cell (hb) h.2.2.1, keep_cell (hb) h.2.2.2.1, below_via h.2.2.2.2 (hb)⟩ : ∀ W : World, (W.cell? ⟨w5.heap.size, 0, none⟩ = some (.int .i64 (a)) ∧ W.cell? ⟨w5.heap.size, 1, none⟩ = some (.int .i64 (b)) ∧ W.cell? ⟨w5.heap.size + 1, 0, none⟩ = some (.int .i64 (c1)) ∧ W.cell? ⟨w5.heap.size + 1, 1, none⟩ = some (.int .i64 (d)) ∧ Below w.heap.size w W) → Below W.heap.size W w6 → (w6.cell? ⟨w5.heap.size, 0, none⟩ = some (.int .i64 (a)) ∧ w6.cell? ⟨w5.heap.size, 1, none⟩ = some (.int .i64 (b)) ∧ w6.cell? ⟨w5.heap.size + 1, 0, none⟩ = some (.int .i64 (c1)) ∧ w6.cell? ⟨w5.heap.size + 1, 1, none⟩ = some (.int .i64 (d)) ∧ Below w.heap.size w w6)) _ (by first | (with_reducible assumption) | (exact hS) | (exact ⟨hS.1, hS.2.1, hS.2.2.1, hS.2.2.2.1, (by go_grown)⟩) | (exact ⟨(by first | (with_reducible assumption) | (simp [go_sem]; done) | ((simp only [go_sem]); (with_reducible assumption)) | ((refine keep_cell ?_ (by with_reducible assumption)); go_grown; done) | (simp [go_sem, *]; done)), (by first | (with_reducible assumption) | (simp [go_sem]; done) | ((simp only [go_sem]); (with_reducible assumption)) | ((refine keep_cell ?_ (by with_reducible assumption)); go_grown; done) | (simp [go_sem, *]; done)), (by first | (with_reducible assumption) | (simp [go_sem]; done) | ((simp only [go_sem]); (with_reducible assumption)) | ((refine keep_cell ?_ (by with_reducible assumption)); go_grown; done) | (simp [go_sem, *]; done)), (by first | (with_reducible assumption) | (simp [go_sem]; done) | ((simp only [go_sem]); (with_reducible assumption)) | ((refine keep_cell ?_ (by with_reducible assumption)); go_grown; done) | (simp [go_sem, *]; done)), (by go_grown)⟩)) hb
    (try clear hS)
    have hS := hT
    clear hT
    have hB := hS.2.2.2.2
    have hzw : w.heap.size ≤ w6.heap.size := hB.size
    have hz1 : w5.heap.size < w6.heap.size := World.block_lt_of_cell? w6 _ (hS.1)
    have hz2 : w5.heap.size + 1 < w6.heap.size := World.block_lt_of_cell? w6 _ (hS.2.2.1)
    clear hb
    go_wp2_with fail
    refine (faster_c _ _ _ _ _).mono ?_
    rw [HU2.out, HJ2.out]
    rintro e w7 ⟨rfl, hb⟩
    have hT : w7.cell? ⟨w5.heap.size, 0, none⟩ = some (.int .i64 (a)) ∧ w7.cell? ⟨w5.heap.size, 1, none⟩ = some (.int .i64 (b)) ∧ w7.cell? ⟨w5.heap.size + 1, 0, none⟩ = some (.int .i64 (c1)) ∧ w7.cell? ⟨w5.heap.size + 1, 1, none⟩ = some (.int .i64 (d)) ∧ Below w.heap.size w w7 := (fun W h hb => ⟨keep_cell (hb) h.1, keep_cell (hb) h.2.1, keep_cell (hb) h.2.2.1, keep_cell (hb) h.2.2.2.1, below_via h.2.2.2.2 (hb)⟩ : ∀ W : World, (W.cell? ⟨w5.heap.size, 0, none⟩ = some (.int .i64 (a)) ∧ W.cell? ⟨w5.heap.size, 1, none⟩ = some (.int .i64 (b)) ∧ W.cell? ⟨w5.heap.size + 1, 0, none⟩ = some (.int .i64 (c1)) ∧ W.cell? ⟨w5.heap.size + 1, 1, none⟩ = some (.int .i64 (d)) ∧ Below w.heap.size w W) → Below W.heap.size W w7 → (w7.cell? ⟨w5.heap.size, 0, none⟩ = some (.int .i64 (a)) ∧ w7.cell? ⟨w5.heap.size, 1, none⟩ = some (.int .i64 (b)) ∧ w7.cell? ⟨w5.heap.size + 1, 0, none⟩ = some (.int .i64 (c1)) ∧ w7.cell? ⟨w5.heap.size + 1, 1, none⟩ = some (.int .i64 (d)) ∧ Below w.heap.size w w7)) _ (by first | (with_reducible assumption) | (exact hS) | (exact ⟨hS.1, hS.2.1, hS.2.2.1, hS.2.2.2.1, (by go_grown)⟩) | (exact ⟨(by first | (with_reducible assumption) | (simp [go_sem]; done) | ((simp only [go_sem]); (with_reducible assumption)) | ((refine keep_cell ?_ (by with_reducible assumption)); go_grown; done) | (simp [go_sem, *]; done)), (by first | (with_reducible assumption) | (simp [go_sem]; done) | ((simp only [go_sem]); (with_reducible assumption)) | ((refine keep_cell ?_ (by with_reducible assumption)); go_grown; done) | (simp [go_sem, *]; done)), (by first | (with_reducible assumption) | (simp [go_sem]; done) | ((simp only [go_sem]); (with_reducible assumption)) | ((refine keep_cell ?_ (by with_reducible assumption)); go_grown; done) | (simp [go_sem, *]; done)), (by first | (with_reducible assumption) | (simp [go_sem]; done) | ((simp only [go_sem]); (with_reducible assumption)) | ((refine keep_cell ?_ (by with_reducible assumption)); go_grown; done) | (simp [go_sem, *]; done)), (by go_grown)⟩)) hb
    (try clear hS)
    have hS := hT
    clear hT
    have hB := hS.2.2.2.2
    have hzw : w.heap.size ≤ w7.heap.size := hB.size
    have hz1 : w5.heap.size < w7.heap.size := World.block_lt_of_cell? w7 _ (hS.1)
    have hz2 : w5.heap.size + 1 < w7.heap.size := World.block_lt_of_cell? w7 _ (hS.2.2.1)
    clear hb
    go_wp2_with fail
    refine (sFaster_c _ _ _ _ _).mono ?_
    rw [HT2.out, HK2.out]
    rintro e w8 ⟨rfl, hb⟩
    have hT : w8.cell? ⟨w5.heap.size, 0, none⟩ = some (.int .i64 (a)) ∧ w8.cell? ⟨w5.heap.size, 1, none⟩ = some (.int .i64 (b)) ∧ w8.cell? ⟨w5.heap.size + 1, 0, none⟩ = some (.int .i64 (c1)) ∧ w8.cell? ⟨w5.heap.size + 1, 1, none⟩ = some (.int .i64 (d)) ∧ Below w.heap.size w w8 := (fun W h hb => ⟨keep_cell (hb) h.1, keep_cell (hb) h.2.1, keep_cell (hb) h.2.2.1, keep_cell (hb) h.2.2.2.1, below_via h.2.2.2.2 (hb)⟩ : ∀ W : World, (W.cell? ⟨w5.heap.size, 0, none⟩ = some (.int .i64 (a)) ∧ W.cell? ⟨w5.heap.size, 1, none⟩ = some (.int .i64 (b)) ∧ W.cell? ⟨w5.heap.size + 1, 0, none⟩ = some (.int .i64 (c1)) ∧ W.cell? ⟨w5.heap.size + 1, 1, none⟩ = some (.int .i64 (d)) ∧ Below w.heap.size w W) → Below W.heap.size W w8 → (w8.cell? ⟨w5.heap.size, 0, none⟩ = some (.int .i64 (a)) ∧ w8.cell? ⟨w5.heap.size, 1, none⟩ = some (.int .i64 (b)) ∧ w8.cell? ⟨w5.heap.size + 1, 0, none⟩ = some (.int .i64 (c1)) ∧ w8.cell? ⟨w5.heap.size + 1, 1, none⟩ = some (.int .i64 (d)) ∧ Below w.heap.size w w8)) _ (by first | (with_reducible assumption) | (exact hS) | (exact ⟨hS.1, hS.2.1, hS.2.2.1, hS.2.2.2.1, (by go_grown)⟩) | (exact ⟨(by first | (with_reducible assumption) | (simp [go_sem]; done) | ((simp only [go_sem]); (with_reducible assumption)) | ((refine keep_cell ?_ (by with_reducible assumption)); go_grown; done) | (simp [go_sem, *]; done)), (by first | (with_reducible assumption) | (simp [go_sem]; done) | ((simp only [go_sem]); (with_reducible assumption)) | ((refine keep_cell ?_ (by with_reducible assumption)); go_grown; done) | (simp [go_sem, *]; done)), (by first | (with_reducible assumption) | (simp [go_sem]; done) | ((simp only [go_sem]); (with_reducible assumption)) | ((refine keep_cell ?_ (by with_reducible assumption)); go_grown; done) | (simp [go_sem, *]; done)), (by first | (with_reducible assumption) | (simp [go_sem]; done) | ((simp only [go_sem]); (with_reducible assumption)) | ((refine keep_cell ?_ (by with_reducible assumption)); go_grown; done) | (simp [go_sem, *]; done)), (by go_grown)⟩)) hb
    (try clear hS)
    have hS := hT
    clear hT
    have hB := hS.2.2.2.2
    have hzw : w.heap.size ≤ w8.heap.size := hB.size
    have hz1 : w5.heap.size < w8.heap.size := World.block_lt_of_cell? w8 _ (hS.1)
    have hz2 : w5.heap.size + 1 < w8.heap.size := World.block_lt_of_cell? w8 _ (hS.2.2.1)
    clear hb
    cases K2
    all_goals
      go_wp2_with fail
      refine (drawAdd_c A n c _ (hide (h1.out.below (by go_grown))) HN.out).mono ?_
      rintro e w9 ⟨e0, e1, f0, f1, rfl, hb⟩
      have hT : Below w.heap.size w w9 := (fun W h hb => below_via h (hb) : ∀ W : World, (Below w.heap.size w W) → Below W.heap.size W w9 → (Below w.heap.size w w9)) _ (by first | (with_reducible assumption) | go_grown) hb
      (try clear hS)
      have hS := hT
      clear hT
      have hB := hS
      have hzw : w.heap.size ≤ w9.heap.size := hB.size
      clear hb
      obtain ⟨X, HX0⟩ : ∃ q, (addX e0 e1 f0 f1) = q := ⟨_, rfl⟩
      have HX := hide HX0
      obtain ⟨Y, HY0⟩ : ∃ q, (addY e0 e1 f0 f1) = q := ⟨_, rfl⟩
      have HY := hide HY0
      obtain ⟨K3, HK30⟩ : ∃ q, (addK e0 e1 f0 f1) = q := ⟨_, rfl⟩
      have HK3 := hide HK30
      obtain ⟨sk, sx, sy⟩ := add_swap e0 e1 f0 f1
      have HX2 := hide (sx.trans HX0)
      have HY2 := hide (sy.trans HY0)
      have HK4 := hide (sk.trans HK30)
      clear sk sx sy HX0 HY0 HK30
      go_wp2_with fail
      refine (addVel_c _ _ _ _ _).mono ?_
      rw [HX.out, HY.out, HK3.out]
      rintro e w10 ⟨rfl, hb⟩
      have hT : w10.cell? ⟨w9.heap.size, 0, none⟩ = some (.int .i64 (e0)) ∧ w10.cell? ⟨w9.heap.size, 1, none⟩ = some (.int .i64 (e1)) ∧ w10.cell? ⟨w9.heap.size + 1, 0, none⟩ = some (.int .i64 (f0)) ∧ w10.cell? ⟨w9.heap.size + 1, 1, none⟩ = some (.int .i64 (f1)) ∧ Below w.heap.size w w10 := (fun W h hb => ⟨keep_cell (hb) h.1, keep_cell (hb) h.2.1, keep_cell (hb) h.2.2.1, keep_cell (hb) h.2.2.2.1, below_via h.2.2.2.2 (hb)⟩ : ∀ W : World, (W.cell? ⟨w9.heap.size, 0, none⟩ = some (.int .i64 (e0)) ∧ W.cell? ⟨w9.heap.size, 1, none⟩ = some (.int .i64 (e1)) ∧ W.cell? ⟨w9.heap.size + 1, 0, none⟩ = some (.int .i64 (f0)) ∧ W.cell? ⟨w9.heap.size + 1, 1, none⟩ = some (.int .i64 (f1)) ∧ Below w.heap.size w W) → Below W.heap.size W w10 → (w10.cell? ⟨w9.heap.size, 0, none⟩ = some (.int .i64 (e0)) ∧ w10.cell? ⟨w9.heap.size, 1, none⟩ = some (.int .i64 (e1)) ∧ w10.cell? ⟨w9.heap.size + 1, 0, none⟩ = some (.int .i64 (f0)) ∧ w10.cell? ⟨w9.heap.size + 1, 1, none⟩ = some (.int .i64 (f1)) ∧ Below w.heap.size w w10)) _ (by first | (with_reducible assumption) | (exact hS) | (exact ⟨hS.1, hS.2.1, hS.2.2.1, hS.2.2.2.1, (by go_grown)⟩) | (exact ⟨(by first | (with_reducible assumption) | (simp [go_sem]; done) | ((simp only [go_sem]); (with_reducible assumption)) | ((refine keep_cell ?_ (by with_reducible assumption)); go_grown; done) | (simp [go_sem, *]; done)), (by first | (with_reducible assumption) | (simp [go_sem]; done) | ((simp only [go_sem]); (with_reducible assumption)) | ((refine keep_cell ?_ (by with_reducible assumption)); go_grown; done) | (simp [go_sem, *]; done)), (by first | (with_reducible assumption) | (simp [go_sem]; done) | ((simp only [go_sem]); (with_reducible assumption)) | ((refine keep_cell ?_ (by with_reducible assumption)); go_grown; done) | (simp [go_sem, *]; done)), (by first | (with_reducible assumption) | (simp [go_sem]; done) | ((simp only [go_sem]); (with_reducible assumption)) | ((refine keep_cell ?_ (by with_reducible assumption)); go_grown; done) | (simp [go_sem, *]; done)), (by go_grown)⟩)) hb
      (try clear hS)
      have hS := hT
      clear hT
      have hB := hS.2.2.2.2
      have hzw : w.heap.size ≤ w10.heap.size := hB.size
      have hz1 : w9.heap.size < w10.heap.size := World.block_lt_of_cell? w10 _ (hS.1)
      have hz2 : w9.heap.size + 1 < w10.heap.size := World.block_lt_of_cell? w10 _ (hS.2.2.1)
      clear hb
      go_wp2_with fail
      refine (addVel_c _ _ _ _ _).mono ?_
      rw [HX2.out, HY2.out, HK4.out]
      rintro e w11 ⟨rfl, hb⟩
      have hT : w11.cell? ⟨w9.heap.size, 0, none⟩ = some (.int .i64 (e0)) ∧ w11.cell? ⟨w9.heap.size, 1, none⟩ = some (.int .i64 (e1)) ∧ w11.cell? ⟨w9.heap.size + 1, 0, none⟩ = some (.int .i64 (f0)) ∧ w11.cell? ⟨w9.heap.size + 1, 1, none⟩ = some (.int .i64 (f1)) ∧ w11.cell? ⟨w10.heap.size, 0, none⟩ = some (.int .i64 (X)) ∧ w11.cell? ⟨w10.heap.size, 1, none⟩ = some (.int .i64 (Y)) ∧ Below w.heap.size w w11 := (fun W h hb => ⟨keep_cell (hb) h.1, keep_cell (hb) h.2.1, keep_cell (hb) h.2.2.1, keep_cell (hb) h.2.2.2.1, keep_cell (hb) h.2.2.2.2.1, keep_cell (hb) h.2.2.2.2.2.1, below_via h.2.2.2.2.2.2 (hb)⟩ : ∀ W : World, (W.cell? ⟨w9.heap.size, 0, none⟩ = some (.int .i64 (e0)) ∧ W.cell? ⟨w9.heap.size, 1, none⟩ = some (.int .i64 (e1)) ∧ W.cell? ⟨w9.heap.size + 1, 0, none⟩ = some (.int .i64 (f0)) ∧ W.cell? ⟨w9.heap.size + 1, 1, none⟩ = some (.int .i64 (f1)) ∧ W.cell? ⟨w10.heap.size, 0, none⟩ = some (.int .i64 (X)) ∧ W.cell? ⟨w10.heap.size, 1, none⟩ = some (.int .i64 (Y)) ∧ Below w.heap.size w W) → Below W.heap.size W w11 → (w11.cell? ⟨w9.heap.size, 0, none⟩ = some (.int .i64 (e0)) ∧ w11.cell? ⟨w9.heap.size, 1, none⟩ = some (.int .i64 (e1)) ∧ w11.cell? ⟨w9.heap.size + 1, 0, none⟩ = some (.int .i64 (f0)) ∧ w11.cell? ⟨w9.heap.size + 1, 1, none⟩ = some (.int .i64 (f1)) ∧ w11.cell? ⟨w10.heap.size, 0, none⟩ = some (.int .i64 (X)) ∧ w11.cell? ⟨w10.heap.size, 1, none⟩ = some (.int .i64 (Y)) ∧ Below w.heap.size w w11)) _ (by first | (with_reducible assumption) | (exact hS) | (exact ⟨hS.1, hS.2.1, hS.2.2.1, hS.2.2.2.1, hS.2.2.2.2.1, hS.2.2.2.2.2.1, (by go_grown)⟩) | (exact ⟨(by first | (with_reducible assumption) | (simp [go_sem]; done) | ((simp only [go_sem]); (with_reducible assumption)) | ((refine keep_cell ?_ (by with_reducible assumption)); go_grown; done) | (simp [go_sem, *]; done)), (by first | (with_reducible assumption) | (simp [go_sem]; done) | ((simp only [go_sem]); (with_reducible assumption)) | ((refine keep_cell ?_ (by with_reducible assumption)); go_grown; done) | (simp [go_sem, *]; done)), (by first | (with_reducible assumption) | (simp [go_sem]; done) | ((simp only [go_sem]); (with_reducible assumption)) | ((refine keep_cell ?_ (by with_reducible assumption)); go_grown; done) | (simp [go_sem, *]; done)), (by first | (with_reducible assumption) | (simp [go_sem]; done) | ((simp only [go_sem]); (with_reducible assumption)) | ((refine keep_cell ?_ (by with_reducible assumption)); go_grown; done) | (simp [go_sem, *]; done)), (by first | (with_reducible assumption) | (simp [go_sem]; done) | ((simp only [go_sem]); (with_reducible assumption)) | ((refine keep_cell ?_ (by with_reducible assumption)); go_grown; done) | (simp [go_sem, *]; done)), (by first | (with_reducible assumption) | (simp [go_sem]; done) | ((simp only [go_sem]); (with_reducible assumption)) | ((refine keep_cell ?_ (by with_reducible assumption)); go_grown; done) | (simp [go_sem, *]; done)), (by go_grown)⟩)) hb
      (try clear hS)
      have hS := hT
      clear hT
      have hB := hS.2.2.2.2.2.2
      have hzw : w.heap.size ≤ w11.heap.size := hB.size
      have hz1 : w9.heap.size < w11.heap.size := World.block_lt_of_cell? w11 _ (hS.1)
      have hz2 : w9.heap.size + 1 < w11.heap.size := World.block_lt_of_cell? w11 _ (hS.2.2.1)
      have hz3 : w10.heap.size < w11.heap.size := World.block_lt_of_cell? w11 _ (hS.2.2.2.2.1)
      clear hb
      go_wp2_with fail
      refine (sAddVel_c _ _ _ _ _).mono ?_
      rw [HX.out, HY.out, HK3.out]
      rintro e w12 ⟨rfl, hb⟩
      have hT : w12.cell? ⟨w9.heap.size, 0, none⟩ = some (.int .i64 (e0)) ∧ w12.cell? ⟨w9.heap.size, 1, none⟩ = some (.int .i64 (e1)) ∧ w12.cell? ⟨w9.heap.size + 1, 0, none⟩ = some (.int .i64 (f0)) ∧ w12.cell? ⟨w9.heap.size + 1, 1, none⟩ = some (.int .i64 (f1)) ∧ w12.cell? ⟨w10.heap.size, 0, none⟩ = some (.int .i64 (X)) ∧ w12.cell? ⟨w10.heap.size, 1, none⟩ = some (.int .i64 (Y)) ∧ w12.cell? ⟨w11.heap.size, 0, none⟩ = some (.int .i64 (X)) ∧ w12.cell? ⟨w11.heap.size, 1, none⟩ = some (.int .i64 (Y)) ∧ Below w.heap.size w w12 := (fun W h hb => ⟨keep_cell (hb) h.1, keep_cell (hb) h.2.1, keep_cell (hb) h.2.2.1, keep_cell (hb) h.2.2.2.1, keep_cell (hb) h.2.2.2.2.1, keep_cell (hb) h.2.2.2.2.2.1, keep_cell (hb) h.2.2.2.2.2.2.1, keep_cell (hb) h.2.2.2.2.2.2.2.1, below_via h.2.2.2.2.2.2.2.2 (hb)⟩ : ∀ W : World, (W.cell? ⟨w9.heap.size, 0, none⟩ = some (.int .i64 (e0)) ∧ W.cell? ⟨w9.heap.size, 1, none⟩ = some (.int .i64 (e1)) ∧ W.cell? ⟨w9.heap.size + 1, 0, none⟩ = some (.int .i64 (f0)) ∧ W.cell? ⟨w9.heap.size + 1, 1, none⟩ = some (.int .i64 (f1)) ∧ W.cell? ⟨w10.heap.size, 0, none⟩ = some (.int .i64 (X)) ∧ W.cell? ⟨w10.heap.size, 1, none⟩ = some (.int .i64 (Y)) ∧ W.cell? ⟨w11.heap.size, 0, none⟩ = some (.int .i64 (X)) ∧ W.cell? ⟨w11.heap.size, 1, none⟩ = some (.int .i64 (Y)) ∧ Below w.heap.size w W) → Below W.heap.size W w12 → (w12.cell? ⟨w9.heap.size, 0, none⟩ = some (.int .i64 (e0)) ∧ w12.cell? ⟨w9.heap.size, 1, none⟩ = some (.int .i64 (e1)) ∧ w12.cell? ⟨w9.heap.size + 1, 0, none⟩ = some (.int .i64 (f0)) ∧ w12.cell? ⟨w9.heap.size + 1, 1, none⟩ = some (.int .i64 (f1)) ∧ w12.cell? ⟨w10.heap.size, 0, none⟩ = some (.int .i64 (X)) ∧ w12.cell? ⟨w10.heap.size, 1, none⟩ = some (.int .i64 (Y)) ∧ w12.cell? ⟨w11.heap.size, 0, none⟩ = some (.int .i64 (X)) ∧ w12.cell? ⟨w11.heap.size, 1, none⟩ = some (.int .i64 (Y)) ∧ Below w.heap.size w w12)) _ (by first | (with_reducible assumption) | (exact hS) | (exact ⟨hS.1, hS.2.1, hS.2.2.1, hS.2.2.2.1, hS.2.2.2.2.1, hS.2.2.2.2.2.1, hS.2.2.2.2.2.2.1, hS.2.2.2.2.2.2.2.1, (by go_grown)⟩) | (exact ⟨(by first | (with_reducible assumption) | (simp [go_sem]; done) | ((simp only [go_sem]); (with_reducible assumption)) | ((refine keep_cell ?_ (by with_reducible assumption)); go_grown; done) | (simp [go_sem, *]; done)), (by first | (with_reducible assumption) | (simp [go_sem]; done) | ((simp only [go_sem]); (with_reducible assumption)) | ((refine keep_cell ?_ (by with_reducible assumption)); go_grown; done) | (simp [go_sem, *]; done)), (by first | (with_reducible assumption) | (simp [go_sem]; done) | ((simp only [go_sem]); (with_reducible assumption)) | ((refine keep_cell ?_ (by with_reducible assumption)); go_grown; done) | (simp [go_sem, *]; done)), (by first | (with_reducible assumption) | (simp [go_sem]; done) | ((simp only [go_sem]); (with_reducible assumption)) | ((refine keep_cell ?_ (by with_reducible assumption)); go_grown; done) | (simp [go_sem, *]; done)), (by first | (with_reducible assumption) | (simp [go_sem]; done) | ((simp only [go_sem]); (with_reducible assumption)) | ((refine keep_cell ?_ (by with_reducible assumption)); go_grown; done) | (simp [go_sem, *]; done)), (by first | (with_reducible assumption) | (simp [go_sem]; done) | ((simp only [go_sem]); (with_reducible assumption)) | ((refine keep_cell ?_ (by with_reducible assumption)); go_grown; done) | (simp [go_sem, *]; done)), (by first | (with_reducible assumption) | (simp [go_sem]; done) | ((simp only [go_sem]); (with_reducible assumption)) | ((refine keep_cell ?_ (by with_reducible assumption)); go_grown; done) | (simp [go_sem, *]; done)), (by first | (with_reducible assumption) | (simp [go_sem]; done) | ((simp only [go_sem]); (with_reducible assumption)) | ((refine keep_cell ?_ (by with_reducible assumption)); go_grown; done) | (simp [go_sem, *]; done)), (by go_grown)⟩)) hb
      (try clear hS)
      have hS := hT
      clear hT
      have hB := hS.2.2.2.2.2.2.2.2
      have hzw : w.heap.size ≤ w12.heap.size := hB.size
      have hz1 : w9.heap.size < w12.heap.size := World.block_lt_of_cell? w12 _ (hS.1)
      have hz2 : w9.heap.size + 1 < w12.heap.size := World.block_lt_of_cell? w12 _ (hS.2.2.1)
      have hz3 : w10.heap.size < w12.heap.size := World.block_lt_of_cell? w12 _ (hS.2.2.2.2.1)
      have hz4 : w11.heap.size < w12.heap.size := World.block_lt_of_cell? w12 _ (hS.2.2.2.2.2.2.1)
      clear hb
      go_wp2
      go_returns
      exact ⟨ret_eq (by simp), by go_grown⟩
end Go.Proofs.Ytpcabjjmphcpeaa
