/- Contracts: Gray codes. -/
import Derived.Test.YthgnnldokdddfaaHeA
import Derived.Test.YthgnnldokdddfaaGrayMath
namespace Go.Proofs.Ythgnnldokdddfaa
open Go.RowKit

theorem fromGray_c (g : Int) (h0 : 0 ≤ g) (h1 : g ≤ 2047) (w : World) : Calls Try.prog 59 #[.int .i64 g] w fun r' w' => r' = .returned (.int .i64 (fg g)) ∧ w = w' := by
  go_enter Try.func59, Try.ntmps59
  go_wp2
  go_loop [0, 3] (fun gv nv => ∃ (f : Nat) (n x : Int), nv = .int .i64 n ∧ gv = .int .i64 x ∧ 0 ≤ x ∧ x ≤ 2047 ∧ 0 ≤ n ∧ n ≤ 2047 ∧ Hid (x < 2 ^ f ∧ f ≤ 11 ∧ fgF f n x = fg g)) (fun gv _ => (intOf gv).toNat)
  case atStart => exact ⟨11, 0, g, rfl, rfl, h0, h1, by omega, by omega, hide ⟨by omega, by omega, rfl⟩⟩
  case round =>
    obtain ⟨f, n, x, rfl, rfl, x0, x1, n0, n1, H⟩ := hrel
    have hx : bits .xor .i64 n x = xr n x := i64_xor n0 (by omega) x0 (by omega)
    obtain ⟨y0, y1⟩ := xr_bd (a := n) (b := x) 11 (by omega) (by omega)
    have y2 : xr n x ≤ 2047 := by omega
    clear y1
    by_cases g0 : x > 0
    · have H2 := hide (show ∃ f', f = f' + 1 from by
        have h := H.out
        cases f with
        | zero => have := h.1; simp at this; omega
        | succ f' => exact ⟨f', rfl⟩)
      go_wp2
      go_round
      case rel =>
        obtain ⟨f', rfl⟩ := H2.out
        obtain ⟨a, b, c⟩ := H.out
        rw [fgF, if_pos g0] at c
        rw [Int.pow_succ] at a
        exact ⟨f', _, _, rfl, rfl, by omega, by omega, y0, y2, hide ⟨by omega, by omega, c⟩⟩
      case measure => simp [intOf]; omega
    · go_wp2
      go_ret
      exact ⟨ret_eq (int_eq (by have e : x = 0 := by omega
                                rw [← H.out.2.2, e, fgF_zero])), rfl⟩

theorem l6FromGray_c (g : Int) (h0 : 0 ≤ g) (h1 : g ≤ 2047) (w : World) : Calls Try.prog 63 #[.int .i64 g] w fun r' w' => r' = .returned (.int .i64 (fg g)) ∧ w = w' := by
  go_enter Try.func63, Try.ntmps63
  go_wp2
  go_loop [0, 3] (fun gv nv => ∃ (f : Nat) (n x : Int), nv = .int .i64 n ∧ gv = .int .i64 x ∧ 0 ≤ x ∧ x ≤ 2047 ∧ 0 ≤ n ∧ n ≤ 2047 ∧ Hid (x < 2 ^ f ∧ f ≤ 11 ∧ fgF f n x = fg g)) (fun gv _ => (intOf gv).toNat)
  case atStart => exact ⟨11, 0, g, rfl, rfl, h0, h1, by omega, by omega, hide ⟨by omega, by omega, rfl⟩⟩
  case round =>
    obtain ⟨f, n, x, rfl, rfl, x0, x1, n0, n1, H⟩ := hrel
    have hx : bits .xor .i64 n x = xr n x := i64_xor n0 (by omega) x0 (by omega)
    obtain ⟨y0, y1⟩ := xr_bd (a := n) (b := x) 11 (by omega) (by omega)
    have y2 : xr n x ≤ 2047 := by omega
    clear y1
    by_cases g0 : x > 0
    · have H2 := hide (show ∃ f', f = f' + 1 from by
        have h := H.out
        cases f with
        | zero => have := h.1; simp at this; omega
        | succ f' => exact ⟨f', rfl⟩)
      go_wp2
      go_round
      case rel =>
        obtain ⟨f', rfl⟩ := H2.out
        obtain ⟨a, b, c⟩ := H.out
        rw [fgF, if_pos g0] at c
        rw [Int.pow_succ] at a
        exact ⟨f', _, _, rfl, rfl, by omega, by omega, y0, y2, hide ⟨by omega, by omega, c⟩⟩
      case measure => simp [intOf]; omega
    · go_wp2
      go_ret
      exact ⟨ret_eq (int_eq (by have e : x = 0 := by omega
                                rw [← H.out.2.2, e, fgF_zero])), rfl⟩

theorem decodeHeight_c (c : Int) (w : World) : Calls Try.prog 24 #[.int .i64 c] w fun r' w' => r' = .returned (.tuple #[.int .i64 (decV c), .bool (wi c 2048 4095), .bool (decOk c)]) ∧ w = w' := by
  rcases h1 : wi c 2048 4095 with _ | _
  rotate_left
  · obtain ⟨k0, k1⟩ := wi_iff.1 h1
    go_enter Try.func24, Try.ntmps24
    go_wp2_with (first | (go_at_call 47; refine (within_c _ _ _ _).mono ?_; rintro e w1 ⟨rfl, rfl⟩) | (go_at_call 59; refine (fromGray_c _ (by omega) (by omega) _).mono ?_; rintro e w1 ⟨rfl, rfl⟩))
    go_returns
    exact ⟨ret_eq (by simp [decV, decOk, h1]), rfl⟩
  rcases h2 : wi c 0 2047 with _ | _
  · go_enter Try.func24, Try.ntmps24
    go_wp2_with (first | (go_at_call 47; refine (within_c _ _ _ _).mono ?_; rintro e w1 ⟨rfl, rfl⟩) | (go_at_call 59; refine (fromGray_c _ (by omega) (by omega) _).mono ?_; rintro e w1 ⟨rfl, rfl⟩))
    go_returns
    exact ⟨ret_eq (by simp [decV, decOk, h1, h2]), rfl⟩
  obtain ⟨k0, k1⟩ := wi_iff.1 h2
  obtain ⟨k2, k3⟩ := fg_bd k1
  by_cases g : fg c ≤ 1279
  · go_enter Try.func24, Try.ntmps24
    go_wp2_with (first | (go_at_call 47; refine (within_c _ _ _ _).mono ?_; rintro e w1 ⟨rfl, rfl⟩) | (go_at_call 59; refine (fromGray_c _ (by omega) (by omega) _).mono ?_; rintro e w1 ⟨rfl, rfl⟩))
    go_returns
    exact ⟨ret_eq (by simp [decV, decOk, h1, h2, g]), rfl⟩
  go_enter Try.func24, Try.ntmps24
  go_wp2_with (first | (go_at_call 47; refine (within_c _ _ _ _).mono ?_; rintro e w1 ⟨rfl, rfl⟩) | (go_at_call 59; refine (fromGray_c _ (by omega) (by omega) _).mono ?_; rintro e w1 ⟨rfl, rfl⟩))
  go_returns
  exact ⟨ret_eq (by simp [decV, decOk, h1, h2, g]; omega), rfl⟩

theorem l6Decode_c (c : Int) (w : World) : Calls Try.prog 49 #[.int .i64 c] w fun r' w' => r' = .returned (.tuple #[.int .i64 (decV c), .bool (wi c 2048 4095), .bool (decOk c)]) ∧ w = w' := by
  rcases h1 : wi c 2048 4095 with _ | _
  rotate_left
  · obtain ⟨k0, k1⟩ := wi_iff.1 h1
    go_enter Try.func49, Try.ntmps49
    go_wp2_with (first | (go_at_call 62; refine (l1In_c _ _ _ _).mono ?_; rintro e w1 ⟨rfl, rfl⟩) | (go_at_call 63; refine (l6FromGray_c _ (by omega) (by omega) _).mono ?_; rintro e w1 ⟨rfl, rfl⟩))
    go_returns
    exact ⟨ret_eq (by simp [decV, decOk, h1]), rfl⟩
  rcases h2 : wi c 0 2047 with _ | _
  · go_enter Try.func49, Try.ntmps49
    go_wp2_with (first | (go_at_call 62; refine (l1In_c _ _ _ _).mono ?_; rintro e w1 ⟨rfl, rfl⟩) | (go_at_call 63; refine (l6FromGray_c _ (by omega) (by omega) _).mono ?_; rintro e w1 ⟨rfl, rfl⟩))
    go_returns
    exact ⟨ret_eq (by simp [decV, decOk, h1, h2]), rfl⟩
  obtain ⟨k0, k1⟩ := wi_iff.1 h2
  obtain ⟨k2, k3⟩ := fg_bd k1
  by_cases g : fg c ≤ 1279
  · go_enter Try.func49, Try.ntmps49
    go_wp2_with (first | (go_at_call 62; refine (l1In_c _ _ _ _).mono ?_; rintro e w1 ⟨rfl, rfl⟩) | (go_at_call 63; refine (l6FromGray_c _ (by omega) (by omega) _).mono ?_; rintro e w1 ⟨rfl, rfl⟩))
    go_returns
    exact ⟨ret_eq (by simp [decV, decOk, h1, h2, g]; omega), rfl⟩
  go_enter Try.func49, Try.ntmps49
  go_wp2_with (first | (go_at_call 62; refine (l1In_c _ _ _ _).mono ?_; rintro e w1 ⟨rfl, rfl⟩) | (go_at_call 63; refine (l6FromGray_c _ (by omega) (by omega) _).mono ?_; rintro e w1 ⟨rfl, rfl⟩))
  go_returns
  exact ⟨ret_eq (by simp [decV, decOk, h1, h2, g]; omega), rfl⟩
end Go.Proofs.Ythgnnldokdddfaa
