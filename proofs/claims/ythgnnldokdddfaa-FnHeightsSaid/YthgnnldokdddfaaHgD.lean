/- Contracts: rates of climbing, and texts of heights. -/
import Derived.Test.YthgnnldokdddfaaHgB
import Derived.Test.YthgnnldokdddfaaPhC
namespace Go.Proofs.Ythgnnldokdddfaa
open Go.RowKit

theorem abs_c (n : Int) (h0 : -1000000000000 ≤ n) (h1 : n ≤ 1000000000000) (w : World) : Calls Try.prog 73 #[.int .i64 n] w fun e w' => e = .returned (.int .i64 (ab n)) ∧ w = w' := by
  go_enter Try.func73, Try.ntmps73
  go_wp2
  all_goals (go_returns; exact ⟨ret_eq (by refine int_eq ?_; unfold ab; split <;> omega), rfl⟩)

theorem most_c (a b : Int) (w : World) : Calls Try.prog 74 #[.int .i64 a, .int .i64 b] w fun e w' => e = .returned (.int .i64 (max a b)) ∧ w = w' := by
  go_enter Try.func74, Try.ntmps74
  go_wp2
  all_goals (go_returns; exact ⟨ret_eq (by refine int_eq ?_; omega), rfl⟩)

theorem gcd_c (m n : Nat) (h0 : m ≤ 10000000) (h1 : n ≤ 10000000) (w : World) : Calls Try.prog 72 #[.int .i64 m, .int .i64 n] w (Gives w (.int .i64 (Nat.gcd m n : Nat))) := by
  go_enter Try.func72, Try.ntmps72
  go_wp2
  go_loopw [0, 1] (fun av bv wr => ∃ x y : Nat, av = .int .i64 x ∧ bv = .int .i64 y ∧ x ≤ 10000000 ∧ y ≤ 10000000 ∧ Hid (Nat.gcd x y = Nat.gcd m n) ∧ Below w.heap.size w wr) (fun _ bv _ => (intOf bv).toNat)
  case atStart => exact ⟨m, n, rfl, rfl, h0, h1, hide rfl, by go_grown⟩
  case round =>
    obtain ⟨x, y, rfl, rfl, x1, y1, H, hB⟩ := hrel
    by_cases hy : y = 0
    · subst hy
      have HE := hide (show Nat.gcd m n = x from by rw [← H.out]; exact Nat.gcd_zero_right x)
      go_wp2
      go_returns
      exact ⟨ret_eq (by rw [HE.out]; simp), hB⟩
    have hyb : ((y : Int) == 0) = false := by simp; omega
    have hyn : ((y : Int) != 0) = true := by simp; omega
    have hyi : ¬ (y : Int) = 0 := by omega
    have hm : (x : Int).tmod (y : Int) = ((x % y : Nat) : Int) := rfl
    have hlt : x % y < y := Nat.mod_lt _ (by omega)
    have HN := hide (show Nat.gcd y (x % y) = Nat.gcd m n from (gcd_turn x y).trans H.out)
    go_wp2
    refine wp_region_det (fun w' => Below w.heap.size w w') (by kernel_rfl) (by kernel_rfl) (by first | (with_reducible assumption) | go_grown) ?_
    repeat (first
      | ((refine wpDet_skip (by rfl) ?_); simp only [Act.put, List.setIfInBounds_toArray, List.set_cons_zero, List.set_cons_succ])
      | ((refine wpDet_val (v := ?_) (by rfl) (fun w hS => ?_) ?_); rotate_left; (focus ((try dsimp only at hS); go_simp; (try (with_reducible rfl)); done)); simp only [Act.put, List.setIfInBounds_toArray, List.set_cons_zero, List.set_cons_succ]))
    refine wpDet_nil ?_
    intro wz hS
    have hT : Below w.heap.size w wz := hS
    clear hS
    have hS := hT
    have hB := hT
    have hzw : w.heap.size ≤ wz.heap.size := hB.size
    go_wp2
    go_roundw
    case rel => exact ⟨y, x % y, rfl, rfl, by omega, by omega, HN, by go_grown⟩
    case measure => simp [intOf]; omega

theorem frac_c (a b : Int) (a0 : -9000000 ≤ a) (a1 : a ≤ 9000000) (b0 : 1 ≤ b) (b1 : b ≤ 1000000) (w : World) : Calls Try.prog 66 #[.int .i64 a, .int .i64 b] w (Gives w (.tuple #[.int .i64 (redN a b), .int .i64 (redD a b)])) := by
  obtain ⟨D, hD⟩ : ∃ D, gd a b = D := ⟨_, rfl⟩
  have hD1 : 0 < D := hD ▸ gd_pos (by omega)
  have hDb : (D : Int) ≤ b := hD ▸ gd_le (by omega)
  have HR := hide (show redN a b = a.tdiv D ∧ redD a b = b.tdiv D from by unfold redN redD; rw [hD]; exact ⟨rfl, rfl⟩)
  obtain ⟨t0, t1⟩ := tdiv_bd (a := a) (d := D) 9000000 (by omega) (by omega) hD1
  obtain ⟨t2, t3⟩ := tdiv_bd (a := b) (d := D) 9000000 (by omega) (by omega) hD1
  have hz0 : ¬ D = 0 := by omega
  have hz1 : ¬ (D : Int) = 0 := by omega
  have hz2 : ((D : Int) == 0) = false := by simp; omega
  have ew1 : IntKind.i64.wrap (a.tdiv D) = a.tdiv D := IntWalk.i64_in _ (by omega)
  have ew2 : IntKind.i64.wrap (b.tdiv D) = b.tdiv D := IntWalk.i64_in _ (by omega)
  obtain ⟨n, rfl⟩ := Int.eq_ofNat_of_zero_le (show 0 ≤ b by omega)
  have hab : ab a = (a.natAbs : Int) := by unfold ab; split <;> omega
  have hg : Nat.gcd a.natAbs n = D := hD
  go_enter Try.func66, Try.ntmps66
  go_wp2_with fail
  refine (abs_c a (by omega) (by omega) _).mono ?_
  rw [hab]
  rintro e wz ⟨rfl, rfl⟩
  go_wp2_with fail
  refine (gcd_c _ n (by omega) (by omega) _).mono ?_
  rw [hg]
  rintro e w1 ⟨rfl, hB⟩
  go_wp2
  refine wp_region_det (fun w' => Below w.heap.size w w') (by kernel_rfl) (by kernel_rfl) (by first | (with_reducible assumption) | go_grown) ?_
  repeat (first
    | ((refine wpDet_skip (by rfl) ?_); simp only [Act.put, List.setIfInBounds_toArray, List.set_cons_zero, List.set_cons_succ])
    | ((refine wpDet_val (v := ?_) (by rfl) (fun w hS => ?_) ?_); rotate_left; (focus ((try dsimp only at hS); go_simp; (try (with_reducible rfl)); done)); simp only [Act.put, List.setIfInBounds_toArray, List.set_cons_zero, List.set_cons_succ]))
  refine wpDet_nil ?_
  intro wy hS
  have hT : Below w.heap.size w wy := hS
  clear hS
  have hS := hT
  have hB := hT
  have hzw : w.heap.size ≤ wy.heap.size := hB.size
  go_wp2
  go_returns
  exact ⟨ret_eq (by rw [HR.out.1, HR.out.2]; simp; simpa using ew2), by go_grown⟩

theorem red_c (a b : Int) (a0 : -9000000 ≤ a) (a1 : a ≤ 9000000) (b0 : 1 ≤ b) (b1 : b ≤ 1000000) (w : World) : Calls Try.prog 67 #[.int .i64 a, .int .i64 b] w (Gives w (.tuple #[.int .i64 (redN a b), .int .i64 (redD a b)])) := by
  obtain ⟨D, hD⟩ : ∃ D, gd a b = D := ⟨_, rfl⟩
  have hD1 : 0 < D := hD ▸ gd_pos (by omega)
  have hDb : (D : Int) ≤ b := hD ▸ gd_le (by omega)
  have HR := hide (show redN a b = a.tdiv D ∧ redD a b = b.tdiv D from by unfold redN redD; rw [hD]; exact ⟨rfl, rfl⟩)
  obtain ⟨t0, t1⟩ := tdiv_bd (a := a) (d := D) 9000000 (by omega) (by omega) hD1
  obtain ⟨t2, t3⟩ := tdiv_bd (a := b) (d := D) 9000000 (by omega) (by omega) hD1
  have hz0 : ¬ D = 0 := by omega
  have hz1 : ¬ (D : Int) = 0 := by omega
  have hz2 : ((D : Int) == 0) = false := by simp; omega
  have ew1 : IntKind.i64.wrap (a.tdiv D) = a.tdiv D := IntWalk.i64_in _ (by omega)
  have ew2 : IntKind.i64.wrap (b.tdiv D) = b.tdiv D := IntWalk.i64_in _ (by omega)
  have hab : max a (-a) = (a.natAbs : Int) := by omega
  obtain ⟨n, rfl⟩ := Int.eq_ofNat_of_zero_le (show 0 ≤ b by omega)
  have hg : Nat.gcd a.natAbs n = D := hD
  go_enter Try.func67, Try.ntmps67
  go_wp2_with fail
  refine (most_c _ _ _).mono ?_
  rw [hab]
  rintro e wz ⟨rfl, rfl⟩
  go_wp2
  go_loopw [6, 7] (fun av bv wr => ∃ x y : Nat, av = .int .i64 x ∧ bv = .int .i64 y ∧ x ≤ 10000000 ∧ y ≤ 10000000 ∧ Hid (Nat.gcd x y = D) ∧ Below w.heap.size w wr) (fun _ bv _ => (intOf bv).toNat)
  case atStart => exact ⟨a.natAbs, n, rfl, rfl, by omega, by omega, hide hg, by go_grown⟩
  case round =>
    obtain ⟨x, y, rfl, rfl, x1, y1, H, hB⟩ := hrel
    by_cases hy : y = 0
    · subst hy
      obtain rfl : x = D := by rw [← H.out]; exact (Nat.gcd_zero_right x).symm
      go_wp2
      refine wp_region_det (fun w' => Below w.heap.size w w') (by kernel_rfl) (by kernel_rfl) (by first | (with_reducible assumption) | go_grown) ?_
      repeat (first
        | ((refine wpDet_skip (by rfl) ?_); simp only [Act.put, List.setIfInBounds_toArray, List.set_cons_zero, List.set_cons_succ])
        | ((refine wpDet_val (v := ?_) (by rfl) (fun w hS => ?_) ?_); rotate_left; (focus ((try dsimp only at hS); go_simp; (try (with_reducible rfl)); done)); simp only [Act.put, List.setIfInBounds_toArray, List.set_cons_zero, List.set_cons_succ]))
      refine wpDet_nil ?_
      intro wz hS
      have hT : Below w.heap.size w wz := hS
      clear hS
      have hS := hT
      have hB := hT
      have hzw : w.heap.size ≤ wz.heap.size := hB.size
      go_wp2
      go_returns
      exact ⟨ret_eq (by rw [HR.out.1, HR.out.2]; simp; simpa using ew2), by go_grown⟩
    have hyb : ((y : Int) == 0) = false := by simp; omega
    have hyn : ((y : Int) != 0) = true := by simp; omega
    have hyi : ¬ (y : Int) = 0 := by omega
    have hm : (x : Int).tmod (y : Int) = ((x % y : Nat) : Int) := rfl
    have hlt : x % y < y := Nat.mod_lt _ (by omega)
    have HN := hide (show Nat.gcd y (x % y) = D from (gcd_turn x y).trans H.out)
    go_wp2
    go_roundw
    case rel => exact ⟨y, x % y, rfl, rfl, by omega, by omega, HN, by go_grown⟩
    case measure => simp [intOf]; omega

theorem climb_c (a f b t : Int) (a0 : -3000 ≤ a) (a1 : a ≤ 140000) (f0 : -1 ≤ f) (f1 : f ≤ 86400) (b0 : -3000 ≤ b) (b1 : b ≤ 140000) (t0 : -1 ≤ t) (t1 : t ≤ 172800) (w : World) : Calls Try.prog 39 #[.int .i64 a, .int .i64 f, .int .i64 b, .int .i64 t] w (Gives w (.tuple #[.int .i64 (crN a f b t), .int .i64 (crD a f b t), .bool (crK a f b t)])) := by
  rcases ha : isH a with _ | _
  · have HK := hide (show crK a f b t = false from by simp [crK, ha])
    have HN := hide (show crN a f b t = 0 from by unfold crN; rw [if_neg (by simp [HK.out])])
    have HD := hide (show crD a f b t = 0 from by unfold crD; rw [if_neg (by simp [HK.out])])
    go_enter Try.func39, Try.ntmps39
    go_wp2_with (first | (go_at_call 43; refine (isHeight_c _ _).mono ?_; rintro e w1 ⟨rfl, rfl⟩) | (go_at_call 66; refine (frac_c _ _ (by omega) (by omega) (by omega) (by omega) _).mono ?_; rintro e w1 ⟨rfl, hb⟩; have hT : Below w.heap.size w w1 := keep0 (by first | assumption | go_grown) hb; (try clear hS); have hS := hT; clear hT; have hB := hS; have hzw := hB.size; clear hb) | (go_at_call 47; refine (within_c _ _ _ _).mono ?_; rintro e w1 ⟨rfl, rfl⟩))
    go_returns
    exact ⟨ret_eq (by rw [HK.out, HN.out, HD.out]; simp), by go_grown⟩
  rcases hb : isH b with _ | _
  · have HK := hide (show crK a f b t = false from by simp [crK, hb])
    have HN := hide (show crN a f b t = 0 from by unfold crN; rw [if_neg (by simp [HK.out])])
    have HD := hide (show crD a f b t = 0 from by unfold crD; rw [if_neg (by simp [HK.out])])
    go_enter Try.func39, Try.ntmps39
    go_wp2_with (first | (go_at_call 43; refine (isHeight_c _ _).mono ?_; rintro e w1 ⟨rfl, rfl⟩) | (go_at_call 66; refine (frac_c _ _ (by omega) (by omega) (by omega) (by omega) _).mono ?_; rintro e w1 ⟨rfl, hb⟩; have hT : Below w.heap.size w w1 := keep0 (by first | assumption | go_grown) hb; (try clear hS); have hS := hT; clear hT; have hB := hS; have hzw := hB.size; clear hb) | (go_at_call 47; refine (within_c _ _ _ _).mono ?_; rintro e w1 ⟨rfl, rfl⟩))
    go_returns
    exact ⟨ret_eq (by rw [HK.out, HN.out, HD.out]; simp), by go_grown⟩
  rcases hf : wi f 0 86400 with _ | _
  · have HK := hide (show crK a f b t = false from by simp [crK, hf])
    have HN := hide (show crN a f b t = 0 from by unfold crN; rw [if_neg (by simp [HK.out])])
    have HD := hide (show crD a f b t = 0 from by unfold crD; rw [if_neg (by simp [HK.out])])
    go_enter Try.func39, Try.ntmps39
    go_wp2_with (first | (go_at_call 43; refine (isHeight_c _ _).mono ?_; rintro e w1 ⟨rfl, rfl⟩) | (go_at_call 66; refine (frac_c _ _ (by omega) (by omega) (by omega) (by omega) _).mono ?_; rintro e w1 ⟨rfl, hb⟩; have hT : Below w.heap.size w w1 := keep0 (by first | assumption | go_grown) hb; (try clear hS); have hS := hT; clear hT; have hB := hS; have hzw := hB.size; clear hb) | (go_at_call 47; refine (within_c _ _ _ _).mono ?_; rintro e w1 ⟨rfl, rfl⟩))
    go_returns
    exact ⟨ret_eq (by rw [HK.out, HN.out, HD.out]; simp), by go_grown⟩
  rcases ht : wi t (f + 1) 86400 with _ | _
  · have HK := hide (show crK a f b t = false from by simp [crK, ht])
    have HN := hide (show crN a f b t = 0 from by unfold crN; rw [if_neg (by simp [HK.out])])
    have HD := hide (show crD a f b t = 0 from by unfold crD; rw [if_neg (by simp [HK.out])])
    go_enter Try.func39, Try.ntmps39
    go_wp2_with (first | (go_at_call 43; refine (isHeight_c _ _).mono ?_; rintro e w1 ⟨rfl, rfl⟩) | (go_at_call 66; refine (frac_c _ _ (by omega) (by omega) (by omega) (by omega) _).mono ?_; rintro e w1 ⟨rfl, hb⟩; have hT : Below w.heap.size w w1 := keep0 (by first | assumption | go_grown) hb; (try clear hS); have hS := hT; clear hT; have hB := hS; have hzw := hB.size; clear hb) | (go_at_call 47; refine (within_c _ _ _ _).mono ?_; rintro e w1 ⟨rfl, rfl⟩))
    go_returns
    exact ⟨ret_eq (by rw [HK.out, HN.out, HD.out]; simp), by go_grown⟩
  have HK := hide (show crK a f b t = true from by simp [crK, ha, hb, hf, ht])
  have HN := hide (show crN a f b t = redN (60 * (b - a)) (t - f) from by unfold crN; rw [if_pos HK.out])
  have HD := hide (show crD a f b t = redD (60 * (b - a)) (t - f) from by unfold crD; rw [if_pos HK.out])
  have hf2 := wi_iff.1 hf
  have ht2 := wi_iff.1 ht
  go_enter Try.func39, Try.ntmps39
  go_wp2_with (first | (go_at_call 43; refine (isHeight_c _ _).mono ?_; rintro e w1 ⟨rfl, rfl⟩) | (go_at_call 66; refine (frac_c _ _ (by omega) (by omega) (by omega) (by omega) _).mono ?_; rintro e w1 ⟨rfl, hb⟩; have hT : Below w.heap.size w w1 := keep0 (by first | assumption | go_grown) hb; (try clear hS); have hS := hT; clear hT; have hB := hS; have hzw := hB.size; clear hb) | (go_at_call 47; refine (within_c _ _ _ _).mono ?_; rintro e w1 ⟨rfl, rfl⟩))
  go_returns
  exact ⟨ret_eq (by rw [HK.out, HN.out, HD.out]; simp), by go_grown⟩

theorem sClimb_c (a f b t : Int) (a0 : -3000 ≤ a) (a1 : a ≤ 140000) (f0 : -1 ≤ f) (f1 : f ≤ 86400) (b0 : -3000 ≤ b) (b1 : b ≤ 140000) (t0 : -1 ≤ t) (t1 : t ≤ 172800) (w : World) : Calls Try.prog 40 #[.int .i64 a, .int .i64 f, .int .i64 b, .int .i64 t] w (Gives w (.tuple #[.int .i64 (crN a f b t), .int .i64 (crD a f b t), .bool (crK a f b t)])) := by
  rcases ha : isH a with _ | _
  · have HK := hide (show crK a f b t = false from by simp [crK, ha])
    have HN := hide (show crN a f b t = 0 from by unfold crN; rw [if_neg (by simp [HK.out])])
    have HD := hide (show crD a f b t = 0 from by unfold crD; rw [if_neg (by simp [HK.out])])
    go_enter Try.func40, Try.ntmps40
    go_wp2_with (first | (go_at_call 41; refine (l6Height_c _ _).mono ?_; rintro e w1 ⟨rfl, rfl⟩) | (go_at_call 67; refine (red_c _ _ (by omega) (by omega) (by omega) (by omega) _).mono ?_; rintro e w1 ⟨rfl, hb⟩; have hT : Below w.heap.size w w1 := keep0 (by first | assumption | go_grown) hb; (try clear hS); have hS := hT; clear hT; have hB := hS; have hzw := hB.size; clear hb))
    go_returns
    exact ⟨ret_eq (by rw [HK.out, HN.out, HD.out]; simp), by go_grown⟩
  rcases hb : isH b with _ | _
  · have HK := hide (show crK a f b t = false from by simp [crK, hb])
    have HN := hide (show crN a f b t = 0 from by unfold crN; rw [if_neg (by simp [HK.out])])
    have HD := hide (show crD a f b t = 0 from by unfold crD; rw [if_neg (by simp [HK.out])])
    go_enter Try.func40, Try.ntmps40
    go_wp2_with (first | (go_at_call 41; refine (l6Height_c _ _).mono ?_; rintro e w1 ⟨rfl, rfl⟩) | (go_at_call 67; refine (red_c _ _ (by omega) (by omega) (by omega) (by omega) _).mono ?_; rintro e w1 ⟨rfl, hb⟩; have hT : Below w.heap.size w w1 := keep0 (by first | assumption | go_grown) hb; (try clear hS); have hS := hT; clear hT; have hB := hS; have hzw := hB.size; clear hb))
    go_returns
    exact ⟨ret_eq (by rw [HK.out, HN.out, HD.out]; simp), by go_grown⟩
  by_cases g0 : f < 0
  · have HK := hide (show crK a f b t = false from by simp [crK, wi]; omega)
    have HN := hide (show crN a f b t = 0 from by unfold crN; rw [if_neg (by simp [HK.out])])
    have HD := hide (show crD a f b t = 0 from by unfold crD; rw [if_neg (by simp [HK.out])])
    go_enter Try.func40, Try.ntmps40
    go_wp2_with (first | (go_at_call 41; refine (l6Height_c _ _).mono ?_; rintro e w1 ⟨rfl, rfl⟩) | (go_at_call 67; refine (red_c _ _ (by omega) (by omega) (by omega) (by omega) _).mono ?_; rintro e w1 ⟨rfl, hb⟩; have hT : Below w.heap.size w w1 := keep0 (by first | assumption | go_grown) hb; (try clear hS); have hS := hT; clear hT; have hB := hS; have hzw := hB.size; clear hb))
    go_returns
    exact ⟨ret_eq (by rw [HK.out, HN.out, HD.out]; simp), by go_grown⟩
  by_cases g1 : f ≥ t
  · have HK := hide (show crK a f b t = false from by simp [crK, wi]; omega)
    have HN := hide (show crN a f b t = 0 from by unfold crN; rw [if_neg (by simp [HK.out])])
    have HD := hide (show crD a f b t = 0 from by unfold crD; rw [if_neg (by simp [HK.out])])
    go_enter Try.func40, Try.ntmps40
    go_wp2_with (first | (go_at_call 41; refine (l6Height_c _ _).mono ?_; rintro e w1 ⟨rfl, rfl⟩) | (go_at_call 67; refine (red_c _ _ (by omega) (by omega) (by omega) (by omega) _).mono ?_; rintro e w1 ⟨rfl, hb⟩; have hT : Below w.heap.size w w1 := keep0 (by first | assumption | go_grown) hb; (try clear hS); have hS := hT; clear hT; have hB := hS; have hzw := hB.size; clear hb))
    go_returns
    exact ⟨ret_eq (by rw [HK.out, HN.out, HD.out]; simp), by go_grown⟩
  by_cases g2 : t > 86400
  · have HK := hide (show crK a f b t = false from by simp [crK, wi]; omega)
    have HN := hide (show crN a f b t = 0 from by unfold crN; rw [if_neg (by simp [HK.out])])
    have HD := hide (show crD a f b t = 0 from by unfold crD; rw [if_neg (by simp [HK.out])])
    go_enter Try.func40, Try.ntmps40
    go_wp2_with (first | (go_at_call 41; refine (l6Height_c _ _).mono ?_; rintro e w1 ⟨rfl, rfl⟩) | (go_at_call 67; refine (red_c _ _ (by omega) (by omega) (by omega) (by omega) _).mono ?_; rintro e w1 ⟨rfl, hb⟩; have hT : Below w.heap.size w w1 := keep0 (by first | assumption | go_grown) hb; (try clear hS); have hS := hT; clear hT; have hB := hS; have hzw := hB.size; clear hb))
    go_returns
    exact ⟨ret_eq (by rw [HK.out, HN.out, HD.out]; simp), by go_grown⟩
  have hf : wi f 0 86400 = true := wi_iff.2 (by omega)
  have ht : wi t (f + 1) 86400 = true := wi_iff.2 (by omega)
  have HK := hide (show crK a f b t = true from by simp [crK, ha, hb, hf, ht])
  have HN := hide (show crN a f b t = redN (60 * (b - a)) (t - f) from by unfold crN; rw [if_pos HK.out])
  have HD := hide (show crD a f b t = redD (60 * (b - a)) (t - f) from by unfold crD; rw [if_pos HK.out])
  have hf2 := wi_iff.1 hf
  have ht2 := wi_iff.1 ht
  go_enter Try.func40, Try.ntmps40
  go_wp2_with (first | (go_at_call 41; refine (l6Height_c _ _).mono ?_; rintro e w1 ⟨rfl, rfl⟩) | (go_at_call 67; refine (red_c _ _ (by omega) (by omega) (by omega) (by omega) _).mono ?_; rintro e w1 ⟨rfl, hb⟩; have hT : Below w.heap.size w w1 := keep0 (by first | assumption | go_grown) hb; (try clear hS); have hS := hT; clear hT; have hB := hS; have hzw := hB.size; clear hb))
  go_returns
  exact ⟨ret_eq (by rw [HK.out, HN.out, HD.out]; simp), by go_grown⟩

open Classical in
noncomputable def phK (s : ByteArray) : Bool := decide (∃ h, isH h = true ∧ hT h = s)
open Classical in
noncomputable def phV (s : ByteArray) : Int := if h : ∃ h, isH h = true ∧ hT h = s then Classical.choose h else 0
open Classical in
theorem ph_yes {s : ByteArray} (h : ∃ h, isH h = true ∧ hT h = s) : phK s = true ∧ isH (phV s) = true ∧ hT (phV s) = s := by
  have e : phV s = Classical.choose h := by unfold phV; rw [dif_pos h]
  have h2 := Classical.choose_spec h
  rw [← e] at h2
  exact ⟨by unfold phK; exact decide_eq_true h, h2⟩
open Classical in
theorem ph_no {s : ByteArray} (h : ¬ ∃ h, isH h = true ∧ hT h = s) : phK s = false ∧ phV s = 0 :=
  ⟨by unfold phK; exact decide_eq_false h, by unfold phV; rw [dif_neg h]⟩

theorem ph_i (s : ByteArray) (hs : s.size ≤ 1048576) (w : World) : Calls Try.prog 19 #[.string s] w (Gives w (.tuple #[.int .i64 (phV s), .bool (phK s)])) := by
  by_cases h : ∃ h, isH h = true ∧ hT h = s
  · obtain ⟨k, k1, k2⟩ := ph_yes h
    rw [k]
    exact phYes_i (phV s) s k1 k2 w
  · obtain ⟨k, v⟩ := ph_no h
    rw [k, v]
    exact phNo_i s hs (hide (fun x hx he => h ⟨x, hx, he⟩)) w

theorem ph_s (s : ByteArray) (hs : s.size ≤ 1048576) (w : World) : Calls Try.prog 18 #[.string s] w (Gives w (.tuple #[.int .i64 (phV s), .bool (phK s)])) := by
  by_cases h : ∃ h, isH h = true ∧ hT h = s
  · obtain ⟨k, k1, k2⟩ := ph_yes h
    rw [k]
    exact phYes_s (phV s) s k1 k2 w
  · obtain ⟨k, v⟩ := ph_no h
    rw [k, v]
    exact phNo_s s hs (hide (fun x hx he => h ⟨x, hx, he⟩)) w

theorem rsz_c (x : Int) (h0 : -1000000000000 ≤ x) (h1 : x ≤ 1000000000000) (w : World) : Calls Try.prog 37 #[.int .i64 x] w fun e w' => e = .returned (.int .i64 (rsz x)) ∧ w = w' := by
  by_cases h : x < 0
  all_goals
    go_enter Try.func37, Try.ntmps37
    go_wp2
    all_goals (go_returns; exact ⟨ret_eq (by unfold rsz; simp [h]; try omega), rfl⟩)
end Go.Proofs.Ythgnnldokdddfaa
