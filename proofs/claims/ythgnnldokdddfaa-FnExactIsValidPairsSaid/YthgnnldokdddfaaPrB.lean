/- Contracts: pairs of clocks that are right. -/
import Derived.Test.YthgnnldokdddfaaPrA
namespace Go.Proofs.Ythgnnldokdddfaa
open Go.RowKit

set_option maxHeartbeats 2000000 in
theorem l12Good_c (A : Option Addr) (c : Nat) (l : List Pt) (w : World) (h1 : Hid (Reads w w.heap.size 2 A l.length (flat l))) (b1 : l.length ≤ 4000000)  : Calls Try.prog 45 #[.slice A l.length c] w (Gives w (.bool (okP l))) := by
  go_enter Try.func45, Try.ntmps45
  go_wp2
  go_loopw [3] (fun iv wr => ∃ i : Nat, i ≤ l.length ∧ iv = .int .i64 i ∧ Hid (pairsN l i) ∧ Below w.heap.size w wr) (fun iv _ => l.length - (intOf iv).toNat)
  case atStart => exact ⟨0, by omega, rfl, hide (pairsN_zero l), Below.refl _ _⟩
  case round =>
    obtain ⟨i, hi, rfl, H, hB⟩ := hrel
    have hzw : w.heap.size ≤ wr.heap.size := hB.size
    by_cases hlt : i < l.length
    rotate_left
    · obtain rfl : i = l.length := by omega
      have HF := hide (okP_all H.out)
      go_wp2_with (first | (go_at_call 62; refine (l1In_c _ _ _ _).mono ?_; rintro e w1 ⟨rfl, rfl⟩))
      go_returns
      exact ⟨ret_eq (by rw [HF.out]; simp), by go_grown⟩
    obtain ⟨a1, rfl, ekb, ex, ey⟩ := (h1.out.below hB).pt (k := i) (by omega)
    obtain ⟨X, hX⟩ : ∃ X, px l i = X := ⟨_, rfl⟩
    obtain ⟨Y, hY⟩ : ∃ Y, py l i = Y := ⟨_, rfl⟩
    rw [hX] at ex
    rw [hY] at ey
    have HX := hide hX
    have HY := hide hY
    clear hX hY
    rcases khx : wi X 0 1000000 with _ | _
    · have HF := hide (show okP l = false from okP_no hlt (fun e => by have := e.1; rw [HX.out, khx] at this; cases this))
      have hx : ∀ W, Calls Try.prog 70 #[.int .i64 (X)] W (fun e w' => e = .returned (.bool false) ∧ W = w') := fun W => by have h := ticks_c (X) W; rw [khx] at h; exact h
      clear khx
      go_wp2
      refine wp_region_det (fun w' => w'.cell? (a1.add (i * 2)) = some (.int .i64 (X)) ∧ w'.cell? ⟨(a1.add (i * 2)).block, (a1.add (i * 2)).off + 1, none⟩ = some (.int .i64 (Y)) ∧ Below w.heap.size w w') (by kernel_rfl) (by kernel_rfl) (by first | (with_reducible assumption) | (exact hS) | (exact ⟨hS.1, hS.2.1, (by go_grown)⟩) | (exact ⟨(by first | (with_reducible assumption) | (simp [go_sem]; done) | ((simp only [go_sem]); (with_reducible assumption)) | ((refine keep_cell ?_ (by with_reducible assumption)); go_grown; done) | (simp [go_sem, *]; done)), (by first | (with_reducible assumption) | (simp [go_sem]; done) | ((simp only [go_sem]); (with_reducible assumption)) | ((refine keep_cell ?_ (by with_reducible assumption)); go_grown; done) | (simp [go_sem, *]; done)), (by go_grown)⟩)) ?_
      repeat (first
        | ((refine wpDet_skip (by rfl) ?_); simp only [Act.put, List.setIfInBounds_toArray, List.set_cons_zero, List.set_cons_succ])
        | ((refine wpDet_val (v := ?_) (by rfl) (fun w hS => ?_) ?_); rotate_left; (focus ((try dsimp only at hS); go_simp; (try (with_reducible rfl)); done)); simp only [Act.put, List.setIfInBounds_toArray, List.set_cons_zero, List.set_cons_succ])
        | ((refine wpDet_call (v := ?_) (f := ?_) (args := ?_) (by rfl) (fun w => ?_) (fun w hS => ?_) ?_); rotate_left; rotate_left; rotate_left; (focus (go_simp; (constructor <;> (with_reducible rfl)); done)); (focus (first | (go_at_call 70; with_reducible refine (hx _).mono ?_; intro e w' h; refine ⟨h.1.trans ?_, h.2 ▸ hS⟩; with_reducible rfl))); simp only [Act.put, List.setIfInBounds_toArray, List.set_cons_zero, List.set_cons_succ]))
      refine wpDet_nil ?_
      intro w1 hS
      have hT : w1.cell? (a1.add (i * 2)) = some (.int .i64 (X)) ∧ w1.cell? ⟨(a1.add (i * 2)).block, (a1.add (i * 2)).off + 1, none⟩ = some (.int .i64 (Y)) ∧ Below w.heap.size w w1 := hS
      clear hS
      have hS := hT
      obtain ⟨c0, c1, hB⟩ := hT
      have hzw : w.heap.size ≤ w1.heap.size := hB.size
      go_wp2
      go_returns
      exact ⟨ret_eq (by rw [HF.out]; simp), by go_grown⟩
    rcases khy : wi Y 0 1000000 with _ | _
    · have HF := hide (show okP l = false from okP_no hlt (fun e => by have := e.2.1; rw [HY.out, khy] at this; cases this))
      have hx : ∀ W, Calls Try.prog 70 #[.int .i64 (X)] W (fun e w' => e = .returned (.bool true) ∧ W = w') := fun W => by have h := ticks_c (X) W; rw [khx] at h; exact h
      have hy : ∀ W, Calls Try.prog 70 #[.int .i64 (Y)] W (fun e w' => e = .returned (.bool false) ∧ W = w') := fun W => by have h := ticks_c (Y) W; rw [khy] at h; exact h
      clear khx khy
      go_wp2
      refine wp_region_det (fun w' => w'.cell? (a1.add (i * 2)) = some (.int .i64 (X)) ∧ w'.cell? ⟨(a1.add (i * 2)).block, (a1.add (i * 2)).off + 1, none⟩ = some (.int .i64 (Y)) ∧ Below w.heap.size w w') (by kernel_rfl) (by kernel_rfl) (by first | (with_reducible assumption) | (exact hS) | (exact ⟨hS.1, hS.2.1, (by go_grown)⟩) | (exact ⟨(by first | (with_reducible assumption) | (simp [go_sem]; done) | ((simp only [go_sem]); (with_reducible assumption)) | ((refine keep_cell ?_ (by with_reducible assumption)); go_grown; done) | (simp [go_sem, *]; done)), (by first | (with_reducible assumption) | (simp [go_sem]; done) | ((simp only [go_sem]); (with_reducible assumption)) | ((refine keep_cell ?_ (by with_reducible assumption)); go_grown; done) | (simp [go_sem, *]; done)), (by go_grown)⟩)) ?_
      repeat (first
        | ((refine wpDet_skip (by rfl) ?_); simp only [Act.put, List.setIfInBounds_toArray, List.set_cons_zero, List.set_cons_succ])
        | ((refine wpDet_val (v := ?_) (by rfl) (fun w hS => ?_) ?_); rotate_left; (focus ((try dsimp only at hS); go_simp; (try (with_reducible rfl)); done)); simp only [Act.put, List.setIfInBounds_toArray, List.set_cons_zero, List.set_cons_succ])
        | ((refine wpDet_call (v := ?_) (f := ?_) (args := ?_) (by rfl) (fun w => ?_) (fun w hS => ?_) ?_); rotate_left; rotate_left; rotate_left; (focus (go_simp; (constructor <;> (with_reducible rfl)); done)); (focus (first | (go_at_call 70; with_reducible refine (hx _).mono ?_; intro e w' h; refine ⟨h.1.trans ?_, h.2 ▸ hS⟩; with_reducible rfl) | (go_at_call 70; with_reducible refine (hy _).mono ?_; intro e w' h; refine ⟨h.1.trans ?_, h.2 ▸ hS⟩; with_reducible rfl))); simp only [Act.put, List.setIfInBounds_toArray, List.set_cons_zero, List.set_cons_succ]))
      refine wpDet_nil ?_
      intro w1 hS
      have hT : w1.cell? (a1.add (i * 2)) = some (.int .i64 (X)) ∧ w1.cell? ⟨(a1.add (i * 2)).block, (a1.add (i * 2)).off + 1, none⟩ = some (.int .i64 (Y)) ∧ Below w.heap.size w w1 := hS
      clear hS
      have hS := hT
      obtain ⟨c0, c1, hB⟩ := hT
      have hzw : w.heap.size ≤ w1.heap.size := hB.size
      go_wp2
      go_returns
      exact ⟨ret_eq (by rw [HF.out]; simp), by go_grown⟩
    have hx : ∀ W, Calls Try.prog 70 #[.int .i64 (X)] W (fun e w' => e = .returned (.bool true) ∧ W = w') := fun W => by have h := ticks_c (X) W; rw [khx] at h; exact h
    have hy : ∀ W, Calls Try.prog 70 #[.int .i64 (Y)] W (fun e w' => e = .returned (.bool true) ∧ W = w') := fun W => by have h := ticks_c (Y) W; rw [khy] at h; exact h
    by_cases hi0 : i = 0
    · have HS := hide (pairsN_succ H.out ⟨by rw [HX.out]; exact khx, by rw [HY.out]; exact khy, fun h => absurd h (by omega)⟩)
      have hcz : decide ((0 : Int) < (i : Int)) = false := decide_eq_false (by omega)
      have hcz2 : decide (0 < i) = false := decide_eq_false (by omega)
      clear khx khy hi0
      go_wp2
      refine wp_region_det (fun w' => w'.cell? (a1.add (i * 2)) = some (.int .i64 (X)) ∧ w'.cell? ⟨(a1.add (i * 2)).block, (a1.add (i * 2)).off + 1, none⟩ = some (.int .i64 (Y)) ∧ Below w.heap.size w w') (by kernel_rfl) (by kernel_rfl) (by first | (with_reducible assumption) | (exact hS) | (exact ⟨hS.1, hS.2.1, (by go_grown)⟩) | (exact ⟨(by first | (with_reducible assumption) | (simp [go_sem]; done) | ((simp only [go_sem]); (with_reducible assumption)) | ((refine keep_cell ?_ (by with_reducible assumption)); go_grown; done) | (simp [go_sem, *]; done)), (by first | (with_reducible assumption) | (simp [go_sem]; done) | ((simp only [go_sem]); (with_reducible assumption)) | ((refine keep_cell ?_ (by with_reducible assumption)); go_grown; done) | (simp [go_sem, *]; done)), (by go_grown)⟩)) ?_
      repeat (first
        | ((refine wpDet_skip (by rfl) ?_); simp only [Act.put, List.setIfInBounds_toArray, List.set_cons_zero, List.set_cons_succ])
        | ((refine wpDet_val (v := ?_) (by rfl) (fun w hS => ?_) ?_); rotate_left; (focus ((try dsimp only at hS); go_simp; (try (with_reducible rfl)); done)); simp only [Act.put, List.setIfInBounds_toArray, List.set_cons_zero, List.set_cons_succ])
        | ((refine wpDet_call (v := ?_) (f := ?_) (args := ?_) (by rfl) (fun w => ?_) (fun w hS => ?_) ?_); rotate_left; rotate_left; rotate_left; (focus (go_simp; (constructor <;> (with_reducible rfl)); done)); (focus (first | (go_at_call 70; with_reducible refine (hx _).mono ?_; intro e w' h; refine ⟨h.1.trans ?_, h.2 ▸ hS⟩; with_reducible rfl) | (go_at_call 70; with_reducible refine (hy _).mono ?_; intro e w' h; refine ⟨h.1.trans ?_, h.2 ▸ hS⟩; with_reducible rfl))); simp only [Act.put, List.setIfInBounds_toArray, List.set_cons_zero, List.set_cons_succ]))
      refine wpDet_nil ?_
      intro w1 hS
      have hT : w1.cell? (a1.add (i * 2)) = some (.int .i64 (X)) ∧ w1.cell? ⟨(a1.add (i * 2)).block, (a1.add (i * 2)).off + 1, none⟩ = some (.int .i64 (Y)) ∧ Below w.heap.size w w1 := hS
      clear hS
      have hS := hT
      obtain ⟨c0, c1, hB⟩ := hT
      have hzw : w.heap.size ≤ w1.heap.size := hB.size
      go_wp2
      go_roundw
      case rel => exact ⟨i + 1, by omega, by go_num, HS, by go_grown⟩
      case measure => simp [intOf]; omega
    obtain ⟨j, hij⟩ : ∃ j, i = j + 1 := ⟨i - 1, by omega⟩
    obtain ⟨a2, ha2, fkb, fx, fy⟩ := (h1.out.below hB).pt (k := j) (by omega)
    cases ha2
    obtain ⟨Z, hZ⟩ : ∃ Z, px l j = Z := ⟨_, rfl⟩
    rw [hZ] at fx
    have HZ := hide hZ
    clear hZ
    have ewj : IntKind.i64.wrap ((i : Int) - 1) = (j : Int) := by rw [show (i : Int) - 1 = (j : Int) from by omega]; exact IntWalk.i64_in _ (by omega)
    have hpi : (0 : Int) < (i : Int) := by omega
    have hpi2 : 0 < i := by omega
    have hjl : j < l.length := by omega
    have eij : i - 1 = j := by omega
    have HIJ := hide eij
    clear eij hij hi0
    by_cases hlo : Z < X
    · have HS := hide (pairsN_succ H.out ⟨by rw [HX.out]; exact khx, by rw [HY.out]; exact khy, fun _ => by rw [HIJ.out, HX.out, HZ.out]; exact hlo⟩)
      have hcb : decide (X ≤ Z) = false := decide_eq_false (by omega)
      clear khx khy hlo
      go_wp2
      refine wp_region_det (fun w' => w'.cell? (a1.add (i * 2)) = some (.int .i64 (X)) ∧ w'.cell? ⟨(a1.add (i * 2)).block, (a1.add (i * 2)).off + 1, none⟩ = some (.int .i64 (Y)) ∧ w'.cell? (a1.add (j * 2)) = some (.int .i64 (Z)) ∧ Below w.heap.size w w') (by kernel_rfl) (by kernel_rfl) (by first | (with_reducible assumption) | (exact hS) | (exact ⟨hS.1, hS.2.1, hS.2.2.1, (by go_grown)⟩) | (exact ⟨(by first | (with_reducible assumption) | (simp [go_sem]; done) | ((simp only [go_sem]); (with_reducible assumption)) | ((refine keep_cell ?_ (by with_reducible assumption)); go_grown; done) | (simp [go_sem, *]; done)), (by first | (with_reducible assumption) | (simp [go_sem]; done) | ((simp only [go_sem]); (with_reducible assumption)) | ((refine keep_cell ?_ (by with_reducible assumption)); go_grown; done) | (simp [go_sem, *]; done)), (by first | (with_reducible assumption) | (simp [go_sem]; done) | ((simp only [go_sem]); (with_reducible assumption)) | ((refine keep_cell ?_ (by with_reducible assumption)); go_grown; done) | (simp [go_sem, *]; done)), (by go_grown)⟩)) ?_
      repeat (first
        | ((refine wpDet_skip (by rfl) ?_); simp only [Act.put, List.setIfInBounds_toArray, List.set_cons_zero, List.set_cons_succ])
        | ((refine wpDet_val (v := ?_) (by rfl) (fun w hS => ?_) ?_); rotate_left; (focus ((try dsimp only at hS); go_simp; (try (with_reducible rfl)); done)); simp only [Act.put, List.setIfInBounds_toArray, List.set_cons_zero, List.set_cons_succ])
        | ((refine wpDet_call (v := ?_) (f := ?_) (args := ?_) (by rfl) (fun w => ?_) (fun w hS => ?_) ?_); rotate_left; rotate_left; rotate_left; (focus (go_simp; (constructor <;> (with_reducible rfl)); done)); (focus (first | (go_at_call 70; with_reducible refine (hx _).mono ?_; intro e w' h; refine ⟨h.1.trans ?_, h.2 ▸ hS⟩; with_reducible rfl) | (go_at_call 70; with_reducible refine (hy _).mono ?_; intro e w' h; refine ⟨h.1.trans ?_, h.2 ▸ hS⟩; with_reducible rfl))); simp only [Act.put, List.setIfInBounds_toArray, List.set_cons_zero, List.set_cons_succ]))
      refine wpDet_nil ?_
      intro w1 hS
      have hT : w1.cell? (a1.add (i * 2)) = some (.int .i64 (X)) ∧ w1.cell? ⟨(a1.add (i * 2)).block, (a1.add (i * 2)).off + 1, none⟩ = some (.int .i64 (Y)) ∧ w1.cell? (a1.add (j * 2)) = some (.int .i64 (Z)) ∧ Below w.heap.size w w1 := hS
      clear hS
      have hS := hT
      obtain ⟨c0, c1, c2, hB⟩ := hT
      have hzw : w.heap.size ≤ w1.heap.size := hB.size
      go_wp2
      go_roundw
      case rel => exact ⟨i + 1, by omega, by go_num, HS, by go_grown⟩
      case measure => simp [intOf]; omega
    have HF := hide (show okP l = false from okP_no hlt (fun e => hlo (by have := e.2.2 (by omega); rwa [HIJ.out, HX.out, HZ.out] at this)))
    have hcb : X ≤ Z := by omega
    clear khx khy hlo
    go_wp2
    refine wp_region_det (fun w' => w'.cell? (a1.add (i * 2)) = some (.int .i64 (X)) ∧ w'.cell? ⟨(a1.add (i * 2)).block, (a1.add (i * 2)).off + 1, none⟩ = some (.int .i64 (Y)) ∧ w'.cell? (a1.add (j * 2)) = some (.int .i64 (Z)) ∧ Below w.heap.size w w') (by kernel_rfl) (by kernel_rfl) (by first | (with_reducible assumption) | (exact hS) | (exact ⟨hS.1, hS.2.1, hS.2.2.1, (by go_grown)⟩) | (exact ⟨(by first | (with_reducible assumption) | (simp [go_sem]; done) | ((simp only [go_sem]); (with_reducible assumption)) | ((refine keep_cell ?_ (by with_reducible assumption)); go_grown; done) | (simp [go_sem, *]; done)), (by first | (with_reducible assumption) | (simp [go_sem]; done) | ((simp only [go_sem]); (with_reducible assumption)) | ((refine keep_cell ?_ (by with_reducible assumption)); go_grown; done) | (simp [go_sem, *]; done)), (by first | (with_reducible assumption) | (simp [go_sem]; done) | ((simp only [go_sem]); (with_reducible assumption)) | ((refine keep_cell ?_ (by with_reducible assumption)); go_grown; done) | (simp [go_sem, *]; done)), (by go_grown)⟩)) ?_
    repeat (first
      | ((refine wpDet_skip (by rfl) ?_); simp only [Act.put, List.setIfInBounds_toArray, List.set_cons_zero, List.set_cons_succ])
      | ((refine wpDet_val (v := ?_) (by rfl) (fun w hS => ?_) ?_); rotate_left; (focus ((try dsimp only at hS); go_simp; (try (with_reducible rfl)); done)); simp only [Act.put, List.setIfInBounds_toArray, List.set_cons_zero, List.set_cons_succ])
      | ((refine wpDet_call (v := ?_) (f := ?_) (args := ?_) (by rfl) (fun w => ?_) (fun w hS => ?_) ?_); rotate_left; rotate_left; rotate_left; (focus (go_simp; (constructor <;> (with_reducible rfl)); done)); (focus (first | (go_at_call 70; with_reducible refine (hx _).mono ?_; intro e w' h; refine ⟨h.1.trans ?_, h.2 ▸ hS⟩; with_reducible rfl) | (go_at_call 70; with_reducible refine (hy _).mono ?_; intro e w' h; refine ⟨h.1.trans ?_, h.2 ▸ hS⟩; with_reducible rfl))); simp only [Act.put, List.setIfInBounds_toArray, List.set_cons_zero, List.set_cons_succ]))
    refine wpDet_nil ?_
    intro w1 hS
    have hT : w1.cell? (a1.add (i * 2)) = some (.int .i64 (X)) ∧ w1.cell? ⟨(a1.add (i * 2)).block, (a1.add (i * 2)).off + 1, none⟩ = some (.int .i64 (Y)) ∧ w1.cell? (a1.add (j * 2)) = some (.int .i64 (Z)) ∧ Below w.heap.size w w1 := hS
    clear hS
    have hS := hT
    obtain ⟨c0, c1, c2, hB⟩ := hT
    have hzw : w.heap.size ≤ w1.heap.size := hB.size
    go_wp2
    go_returns
    exact ⟨ret_eq (by rw [HF.out]; simp), by go_grown⟩

set_option maxHeartbeats 2000000 in
theorem validP_c (A : Option Addr) (c : Nat) (l : List Pt) (w : World) (h1 : Hid (Reads w w.heap.size 2 A l.length (flat l))) (b1 : l.length ≤ 4000000)  : Calls Try.prog 14 #[.slice A l.length c] w (Gives w (.bool (okP l))) := by
  rcases hw5 : wi l.length 1 12 with _ | _
  · have HF := hide (show okP l = false from by unfold okP; rw [hw5]; rfl)
    go_enter Try.func14, Try.ntmps14
    go_wp2_with (first | (go_at_call 47; refine (within_c _ _ _ _).mono ?_; rw [hw5]; rintro e w1 ⟨rfl, rfl⟩))
    go_returns
    exact ⟨ret_eq (by rw [HF.out]; simp), by go_grown⟩
  have HW := hide hw5
  go_enter Try.func14, Try.ntmps14
  go_wp2_with (first | (go_at_call 47; refine (within_c _ _ _ _).mono ?_; rw [HW.out]; rintro e w1 ⟨rfl, rfl⟩))
  go_loopw [11] (fun iv wr => ∃ i : Nat, i ≤ l.length ∧ iv = .int .i64 i ∧ Hid (pairsN l i) ∧ Below w.heap.size w wr) (fun iv _ => l.length - (intOf iv).toNat)
  case atStart => exact ⟨0, by omega, rfl, hide (pairsN_zero l), Below.refl _ _⟩
  case round =>
    obtain ⟨i, hi, rfl, H, hB⟩ := hrel
    have hzw : w.heap.size ≤ wr.heap.size := hB.size
    by_cases hlt : i < l.length
    rotate_left
    · obtain rfl : i = l.length := by omega
      have HF := hide (show okP l = true from by rw [okP_all H.out]; exact HW.out)
      go_wp2
      go_returns
      exact ⟨ret_eq (by rw [HF.out]; simp), by go_grown⟩
    obtain ⟨a1, rfl, ekb, ex, ey⟩ := (h1.out.below hB).pt (k := i) (by omega)
    obtain ⟨g, hg⟩ : ∃ g, wr.heap.size = g := ⟨_, rfl⟩
    obtain ⟨X, hX⟩ : ∃ X, px l i = X := ⟨_, rfl⟩
    obtain ⟨Y, hY⟩ : ∃ Y, py l i = Y := ⟨_, rfl⟩
    rw [hX] at ex
    rw [hY] at ey
    have HX := hide hX
    have HY := hide hY
    clear hX hY
    rcases khx : wi X 0 1000000 with _ | _
    · have HF := hide (show okP l = false from okP_no hlt (fun e => by have := e.1; rw [HX.out, khx] at this; cases this))
      have hx : ∀ W, Calls Try.prog 47 #[.int .i64 (X), .int .i64 0, .int .i64 1000000] W (fun e w' => e = .returned (.bool false) ∧ W = w') := fun W => by have h := within_c (X) 0 1000000 W; rw [khx] at h; exact h
      clear khx
      go_wp2
      refine wp_region_det (fun w' => w'.cell? ⟨g, 0, none⟩ = some (.int .i64 (X)) ∧ w'.cell? ⟨g, 1, none⟩ = some (.int .i64 (Y)) ∧ Below w.heap.size w w') (by kernel_rfl) (by kernel_rfl) (by first | (with_reducible assumption) | (exact hS) | (exact ⟨hS.1, hS.2.1, (by go_grown)⟩) | (exact ⟨(by first | (with_reducible assumption) | (simp [go_sem]; done) | ((simp only [go_sem]); (with_reducible assumption)) | ((refine keep_cell ?_ (by with_reducible assumption)); go_grown; done) | (simp [go_sem, *]; done)), (by first | (with_reducible assumption) | (simp [go_sem]; done) | ((simp only [go_sem]); (with_reducible assumption)) | ((refine keep_cell ?_ (by with_reducible assumption)); go_grown; done) | (simp [go_sem, *]; done)), (by go_grown)⟩)) ?_
      repeat (first
        | ((refine wpDet_skip (by rfl) ?_); simp only [Act.put, List.setIfInBounds_toArray, List.set_cons_zero, List.set_cons_succ])
        | ((refine wpDet_val (v := ?_) (by rfl) (fun w hS => ?_) ?_); rotate_left; (focus ((try dsimp only at hS); go_simp; (try (with_reducible rfl)); done)); simp only [Act.put, List.setIfInBounds_toArray, List.set_cons_zero, List.set_cons_succ])
        | ((refine wpDet_call (v := ?_) (f := ?_) (args := ?_) (by rfl) (fun w => ?_) (fun w hS => ?_) ?_); rotate_left; rotate_left; rotate_left; (focus (go_simp; (constructor <;> (with_reducible rfl)); done)); (focus (first | (go_at_call 47; with_reducible refine (hx _).mono ?_; intro e w' h; refine ⟨h.1.trans ?_, h.2 ▸ hS⟩; with_reducible rfl))); simp only [Act.put, List.setIfInBounds_toArray, List.set_cons_zero, List.set_cons_succ]))
      refine wpDet_nil ?_
      intro w1 hS
      have hT : w1.cell? ⟨g, 0, none⟩ = some (.int .i64 (X)) ∧ w1.cell? ⟨g, 1, none⟩ = some (.int .i64 (Y)) ∧ Below w.heap.size w w1 := hS
      clear hS
      have hS := hT
      obtain ⟨c0, c1, hB⟩ := hT
      have hzw : w.heap.size ≤ w1.heap.size := hB.size
      have hz1 : g < w1.heap.size := World.block_lt_of_cell? w1 _ (hS.1)
      go_wp2
      go_returns
      exact ⟨ret_eq (by rw [HF.out]; simp), by go_grown⟩
    rcases khy : wi Y 0 1000000 with _ | _
    · have HF := hide (show okP l = false from okP_no hlt (fun e => by have := e.2.1; rw [HY.out, khy] at this; cases this))
      have hx : ∀ W, Calls Try.prog 47 #[.int .i64 (X), .int .i64 0, .int .i64 1000000] W (fun e w' => e = .returned (.bool true) ∧ W = w') := fun W => by have h := within_c (X) 0 1000000 W; rw [khx] at h; exact h
      have hy : ∀ W, Calls Try.prog 47 #[.int .i64 (Y), .int .i64 0, .int .i64 1000000] W (fun e w' => e = .returned (.bool false) ∧ W = w') := fun W => by have h := within_c (Y) 0 1000000 W; rw [khy] at h; exact h
      clear khx khy
      go_wp2
      refine wp_region_det (fun w' => w'.cell? ⟨g, 0, none⟩ = some (.int .i64 (X)) ∧ w'.cell? ⟨g, 1, none⟩ = some (.int .i64 (Y)) ∧ Below w.heap.size w w') (by kernel_rfl) (by kernel_rfl) (by first | (with_reducible assumption) | (exact hS) | (exact ⟨hS.1, hS.2.1, (by go_grown)⟩) | (exact ⟨(by first | (with_reducible assumption) | (simp [go_sem]; done) | ((simp only [go_sem]); (with_reducible assumption)) | ((refine keep_cell ?_ (by with_reducible assumption)); go_grown; done) | (simp [go_sem, *]; done)), (by first | (with_reducible assumption) | (simp [go_sem]; done) | ((simp only [go_sem]); (with_reducible assumption)) | ((refine keep_cell ?_ (by with_reducible assumption)); go_grown; done) | (simp [go_sem, *]; done)), (by go_grown)⟩)) ?_
      repeat (first
        | ((refine wpDet_skip (by rfl) ?_); simp only [Act.put, List.setIfInBounds_toArray, List.set_cons_zero, List.set_cons_succ])
        | ((refine wpDet_val (v := ?_) (by rfl) (fun w hS => ?_) ?_); rotate_left; (focus ((try dsimp only at hS); go_simp; (try (with_reducible rfl)); done)); simp only [Act.put, List.setIfInBounds_toArray, List.set_cons_zero, List.set_cons_succ])
        | ((refine wpDet_call (v := ?_) (f := ?_) (args := ?_) (by rfl) (fun w => ?_) (fun w hS => ?_) ?_); rotate_left; rotate_left; rotate_left; (focus (go_simp; (constructor <;> (with_reducible rfl)); done)); (focus (first | (go_at_call 47; with_reducible refine (hx _).mono ?_; intro e w' h; refine ⟨h.1.trans ?_, h.2 ▸ hS⟩; with_reducible rfl) | (go_at_call 47; with_reducible refine (hy _).mono ?_; intro e w' h; refine ⟨h.1.trans ?_, h.2 ▸ hS⟩; with_reducible rfl))); simp only [Act.put, List.setIfInBounds_toArray, List.set_cons_zero, List.set_cons_succ]))
      refine wpDet_nil ?_
      intro w1 hS
      have hT : w1.cell? ⟨g, 0, none⟩ = some (.int .i64 (X)) ∧ w1.cell? ⟨g, 1, none⟩ = some (.int .i64 (Y)) ∧ Below w.heap.size w w1 := hS
      clear hS
      have hS := hT
      obtain ⟨c0, c1, hB⟩ := hT
      have hzw : w.heap.size ≤ w1.heap.size := hB.size
      have hz1 : g < w1.heap.size := World.block_lt_of_cell? w1 _ (hS.1)
      go_wp2
      go_returns
      exact ⟨ret_eq (by rw [HF.out]; simp), by go_grown⟩
    have hx : ∀ W, Calls Try.prog 47 #[.int .i64 (X), .int .i64 0, .int .i64 1000000] W (fun e w' => e = .returned (.bool true) ∧ W = w') := fun W => by have h := within_c (X) 0 1000000 W; rw [khx] at h; exact h
    have hy : ∀ W, Calls Try.prog 47 #[.int .i64 (Y), .int .i64 0, .int .i64 1000000] W (fun e w' => e = .returned (.bool true) ∧ W = w') := fun W => by have h := within_c (Y) 0 1000000 W; rw [khy] at h; exact h
    by_cases hi0 : i = 0
    · have HS := hide (pairsN_succ H.out ⟨by rw [HX.out]; exact khx, by rw [HY.out]; exact khy, fun h => absurd h (by omega)⟩)
      have hcz : decide ((0 : Int) < (i : Int)) = false := decide_eq_false (by omega)
      have hcz2 : decide (0 < i) = false := decide_eq_false (by omega)
      clear khx khy hi0
      go_wp2
      refine wp_region_det (fun w' => w'.cell? ⟨g, 0, none⟩ = some (.int .i64 (X)) ∧ w'.cell? ⟨g, 1, none⟩ = some (.int .i64 (Y)) ∧ Below w.heap.size w w') (by kernel_rfl) (by kernel_rfl) (by first | (with_reducible assumption) | (exact hS) | (exact ⟨hS.1, hS.2.1, (by go_grown)⟩) | (exact ⟨(by first | (with_reducible assumption) | (simp [go_sem]; done) | ((simp only [go_sem]); (with_reducible assumption)) | ((refine keep_cell ?_ (by with_reducible assumption)); go_grown; done) | (simp [go_sem, *]; done)), (by first | (with_reducible assumption) | (simp [go_sem]; done) | ((simp only [go_sem]); (with_reducible assumption)) | ((refine keep_cell ?_ (by with_reducible assumption)); go_grown; done) | (simp [go_sem, *]; done)), (by go_grown)⟩)) ?_
      repeat (first
        | ((refine wpDet_skip (by rfl) ?_); simp only [Act.put, List.setIfInBounds_toArray, List.set_cons_zero, List.set_cons_succ])
        | ((refine wpDet_val (v := ?_) (by rfl) (fun w hS => ?_) ?_); rotate_left; (focus ((try dsimp only at hS); go_simp; (try (with_reducible rfl)); done)); simp only [Act.put, List.setIfInBounds_toArray, List.set_cons_zero, List.set_cons_succ])
        | ((refine wpDet_call (v := ?_) (f := ?_) (args := ?_) (by rfl) (fun w => ?_) (fun w hS => ?_) ?_); rotate_left; rotate_left; rotate_left; (focus (go_simp; (constructor <;> (with_reducible rfl)); done)); (focus (first | (go_at_call 47; with_reducible refine (hx _).mono ?_; intro e w' h; refine ⟨h.1.trans ?_, h.2 ▸ hS⟩; with_reducible rfl) | (go_at_call 47; with_reducible refine (hy _).mono ?_; intro e w' h; refine ⟨h.1.trans ?_, h.2 ▸ hS⟩; with_reducible rfl))); simp only [Act.put, List.setIfInBounds_toArray, List.set_cons_zero, List.set_cons_succ]))
      refine wpDet_nil ?_
      intro w1 hS
      have hT : w1.cell? ⟨g, 0, none⟩ = some (.int .i64 (X)) ∧ w1.cell? ⟨g, 1, none⟩ = some (.int .i64 (Y)) ∧ Below w.heap.size w w1 := hS
      clear hS
      have hS := hT
      obtain ⟨c0, c1, hB⟩ := hT
      have hzw : w.heap.size ≤ w1.heap.size := hB.size
      have hz1 : g < w1.heap.size := World.block_lt_of_cell? w1 _ (hS.1)
      go_wp2
      go_roundw
      case rel => exact ⟨i + 1, by omega, by go_num, HS, by go_grown⟩
      case measure => simp [intOf]; omega
    obtain ⟨j, hij⟩ : ∃ j, i = j + 1 := ⟨i - 1, by omega⟩
    obtain ⟨a2, ha2, fkb, fx, fy⟩ := (h1.out.below hB).pt (k := j) (by omega)
    cases ha2
    obtain ⟨Z, hZ⟩ : ∃ Z, px l j = Z := ⟨_, rfl⟩
    rw [hZ] at fx
    have HZ := hide hZ
    clear hZ
    have ewj : IntKind.i64.wrap ((i : Int) - 1) = (j : Int) := by rw [show (i : Int) - 1 = (j : Int) from by omega]; exact IntWalk.i64_in _ (by omega)
    have hpi : (0 : Int) < (i : Int) := by omega
    have hpi2 : 0 < i := by omega
    have hjl : j < l.length := by omega
    have eij : i - 1 = j := by omega
    have HIJ := hide eij
    clear eij hij hi0
    by_cases hlo : Z < X
    · have HS := hide (pairsN_succ H.out ⟨by rw [HX.out]; exact khx, by rw [HY.out]; exact khy, fun _ => by rw [HIJ.out, HX.out, HZ.out]; exact hlo⟩)
      have hcb : decide (X ≤ Z) = false := decide_eq_false (by omega)
      clear khx khy hlo
      go_wp2
      refine wp_region_det (fun w' => w'.cell? ⟨g, 0, none⟩ = some (.int .i64 (X)) ∧ w'.cell? ⟨g, 1, none⟩ = some (.int .i64 (Y)) ∧ w'.cell? (a1.add (j * 2)) = some (.int .i64 (Z)) ∧ Below w.heap.size w w') (by kernel_rfl) (by kernel_rfl) (by first | (with_reducible assumption) | (exact hS) | (exact ⟨hS.1, hS.2.1, hS.2.2.1, (by go_grown)⟩) | (exact ⟨(by first | (with_reducible assumption) | (simp [go_sem]; done) | ((simp only [go_sem]); (with_reducible assumption)) | ((refine keep_cell ?_ (by with_reducible assumption)); go_grown; done) | (simp [go_sem, *]; done)), (by first | (with_reducible assumption) | (simp [go_sem]; done) | ((simp only [go_sem]); (with_reducible assumption)) | ((refine keep_cell ?_ (by with_reducible assumption)); go_grown; done) | (simp [go_sem, *]; done)), (by first | (with_reducible assumption) | (simp [go_sem]; done) | ((simp only [go_sem]); (with_reducible assumption)) | ((refine keep_cell ?_ (by with_reducible assumption)); go_grown; done) | (simp [go_sem, *]; done)), (by go_grown)⟩)) ?_
      repeat (first
        | ((refine wpDet_skip (by rfl) ?_); simp only [Act.put, List.setIfInBounds_toArray, List.set_cons_zero, List.set_cons_succ])
        | ((refine wpDet_val (v := ?_) (by rfl) (fun w hS => ?_) ?_); rotate_left; (focus ((try dsimp only at hS); go_simp; (try (with_reducible rfl)); done)); simp only [Act.put, List.setIfInBounds_toArray, List.set_cons_zero, List.set_cons_succ])
        | ((refine wpDet_call (v := ?_) (f := ?_) (args := ?_) (by rfl) (fun w => ?_) (fun w hS => ?_) ?_); rotate_left; rotate_left; rotate_left; (focus (go_simp; (constructor <;> (with_reducible rfl)); done)); (focus (first | (go_at_call 47; with_reducible refine (hx _).mono ?_; intro e w' h; refine ⟨h.1.trans ?_, h.2 ▸ hS⟩; with_reducible rfl) | (go_at_call 47; with_reducible refine (hy _).mono ?_; intro e w' h; refine ⟨h.1.trans ?_, h.2 ▸ hS⟩; with_reducible rfl))); simp only [Act.put, List.setIfInBounds_toArray, List.set_cons_zero, List.set_cons_succ]))
      refine wpDet_nil ?_
      intro w1 hS
      have hT : w1.cell? ⟨g, 0, none⟩ = some (.int .i64 (X)) ∧ w1.cell? ⟨g, 1, none⟩ = some (.int .i64 (Y)) ∧ w1.cell? (a1.add (j * 2)) = some (.int .i64 (Z)) ∧ Below w.heap.size w w1 := hS
      clear hS
      have hS := hT
      obtain ⟨c0, c1, c2, hB⟩ := hT
      have hzw : w.heap.size ≤ w1.heap.size := hB.size
      have hz1 : g < w1.heap.size := World.block_lt_of_cell? w1 _ (hS.1)
      go_wp2
      go_roundw
      case rel => exact ⟨i + 1, by omega, by go_num, HS, by go_grown⟩
      case measure => simp [intOf]; omega
    have HF := hide (show okP l = false from okP_no hlt (fun e => hlo (by have := e.2.2 (by omega); rwa [HIJ.out, HX.out, HZ.out] at this)))
    have hcb : X ≤ Z := by omega
    clear khx khy hlo
    go_wp2
    refine wp_region_det (fun w' => w'.cell? ⟨g, 0, none⟩ = some (.int .i64 (X)) ∧ w'.cell? ⟨g, 1, none⟩ = some (.int .i64 (Y)) ∧ w'.cell? (a1.add (j * 2)) = some (.int .i64 (Z)) ∧ Below w.heap.size w w') (by kernel_rfl) (by kernel_rfl) (by first | (with_reducible assumption) | (exact hS) | (exact ⟨hS.1, hS.2.1, hS.2.2.1, (by go_grown)⟩) | (exact ⟨(by first | (with_reducible assumption) | (simp [go_sem]; done) | ((simp only [go_sem]); (with_reducible assumption)) | ((refine keep_cell ?_ (by with_reducible assumption)); go_grown; done) | (simp [go_sem, *]; done)), (by first | (with_reducible assumption) | (simp [go_sem]; done) | ((simp only [go_sem]); (with_reducible assumption)) | ((refine keep_cell ?_ (by with_reducible assumption)); go_grown; done) | (simp [go_sem, *]; done)), (by first | (with_reducible assumption) | (simp [go_sem]; done) | ((simp only [go_sem]); (with_reducible assumption)) | ((refine keep_cell ?_ (by with_reducible assumption)); go_grown; done) | (simp [go_sem, *]; done)), (by go_grown)⟩)) ?_
    repeat (first
      | ((refine wpDet_skip (by rfl) ?_); simp only [Act.put, List.setIfInBounds_toArray, List.set_cons_zero, List.set_cons_succ])
      | ((refine wpDet_val (v := ?_) (by rfl) (fun w hS => ?_) ?_); rotate_left; (focus ((try dsimp only at hS); go_simp; (try (with_reducible rfl)); done)); simp only [Act.put, List.setIfInBounds_toArray, List.set_cons_zero, List.set_cons_succ])
      | ((refine wpDet_call (v := ?_) (f := ?_) (args := ?_) (by rfl) (fun w => ?_) (fun w hS => ?_) ?_); rotate_left; rotate_left; rotate_left; (focus (go_simp; (constructor <;> (with_reducible rfl)); done)); (focus (first | (go_at_call 47; with_reducible refine (hx _).mono ?_; intro e w' h; refine ⟨h.1.trans ?_, h.2 ▸ hS⟩; with_reducible rfl) | (go_at_call 47; with_reducible refine (hy _).mono ?_; intro e w' h; refine ⟨h.1.trans ?_, h.2 ▸ hS⟩; with_reducible rfl))); simp only [Act.put, List.setIfInBounds_toArray, List.set_cons_zero, List.set_cons_succ]))
    refine wpDet_nil ?_
    intro w1 hS
    have hT : w1.cell? ⟨g, 0, none⟩ = some (.int .i64 (X)) ∧ w1.cell? ⟨g, 1, none⟩ = some (.int .i64 (Y)) ∧ w1.cell? (a1.add (j * 2)) = some (.int .i64 (Z)) ∧ Below w.heap.size w w1 := hS
    clear hS
    have hS := hT
    obtain ⟨c0, c1, c2, hB⟩ := hT
    have hzw : w.heap.size ≤ w1.heap.size := hB.size
    have hz1 : g < w1.heap.size := World.block_lt_of_cell? w1 _ (hS.1)
    go_wp2
    go_returns
    exact ⟨ret_eq (by rw [HF.out]; simp), by go_grown⟩

theorem sValidP_c (A : Option Addr) (c : Nat) (l : List Pt) (w : World) (h1 : Hid (Reads w w.heap.size 2 A l.length (flat l))) (b1 : l.length ≤ 4000000) : Calls Try.prog 12 #[.slice A l.length c] w (Gives w (.bool (okP l))) := by
  go_enter Try.func12, Try.ntmps12
  go_wp2_with (first | (go_at_call 45; refine (l12Good_c A c l _ (hide (reads_below h1.out (by go_grown))) b1).mono ?_; rintro e w1 ⟨rfl, hb⟩; have hT : Below w.heap.size w w1 := (fun W h hb => below_via h (hb) : ∀ W : World, (Below w.heap.size w W) → Below W.heap.size W w1 → (Below w.heap.size w w1)) _ (by first | (with_reducible assumption) | go_grown) hb; (try clear hS); have hS := hT; clear hT; have hB := hS; have hzw : w.heap.size ≤ w1.heap.size := hB.size; clear hb))
  all_goals (go_returns; exact ⟨ret_eq (by rfl), by go_grown⟩)
end Go.Proofs.Ythgnnldokdddfaa
