/- Contracts: the nearest coordinates. -/
import Derived.Test.YtpabfkodlgglcaaPoD
namespace Go.Proofs.Ytpabfkodlgglcaa
open Go.RowKit

theorem least_c (r s n : Int) (hs : s = 99 ∨ s = 100) (h0 : 0 ≤ r) (h1 : r < s) (h2 : 0 ≤ n) (h3 : n ≤ 9899) (w : World) : Calls Try.prog 58 #[.int .i64 r, .int .i64 s, .int .i64 n] w fun x w' => x = .returned (.int .i64 (lst r s n)) ∧ w = w' := by
  obtain ⟨e1, e2, e3, e4, e5, e6⟩ := lst_at hs h0 h1 h2 h3
  have hge : ∀ k : Int, 0 ≤ k → r + s * k ≤ 9899 → lst r s n ≤ ab (r + s * k - n) := fun k hk hc => lst_ge hs h0 h1 h2 h3 k hk rfl hc
  have hat : ∀ k : Int, lstAt r s n = r + s * k → ab (r + s * k - n) = lst r s n := fun k hk => by rw [← hk]; exact e1
  have hlt : ∀ k : Int, 0 ≤ k → r + s * k < lstAt r s n → lst r s n < ab (r + s * k - n) := fun k hk hc => lst_lt hs h0 h1 h2 h3 k hk rfl hc
  clear e1
  generalize lst r s n = L at *
  generalize lstAt r s n = A at *
  rcases hs with rfl | rfl
  · have G1 := hide hge
    have G2 := hide hat
    have E5 := hide e5
    clear hge hat hlt e5
    go_enter Try.func58, Try.ntmps58
    go_wp2
    go_loop [7, 8] (fun bv cv => ∃ k b : Int, 0 ≤ k ∧ k ≤ 101 ∧ bv = .int .i64 b ∧ Hid (cv = .int .i64 (r + 99 * k)) ∧ -1 ≤ b ∧ Hid ((k = 0 → b = -1) ∧ (0 < k → 0 ≤ b ∧ L ≤ b) ∧ (A < r + 99 * k → b = L))) (fun _ cv => (20000 - intOf cv).toNat)
    case atStart => exact ⟨0, -1, by omega, by omega, rfl, hide (by go_num), by omega, hide (by omega)⟩
    case round =>
      obtain ⟨k, b, hk0, hk1, rfl, hcv, hb, H⟩ := hrel
      obtain rfl := hcv.out
      clear hcv
      by_cases hc : r + 99 * k ≤ 9899
      · have g1 := G1.out k hk0 hc
        have G3 := hide (G2.out k)
        have hab := (ab_spec (r + 99 * k - n)).2.2
        by_cases hb0 : b < 0
        · go_wp2_with (go_at_call 77; refine (abs_c _ (by omega) (by omega) _).mono ?_; rintro e w1 ⟨rfl, rfl⟩)
          go_round
          case rel => exact ⟨k + 1, _, by omega, by omega, rfl, hide (by go_num), by omega, hide (by have h8 := H.out; have h9 := G3.out; have h7 := E5.out; omega)⟩
          case measure => simp [intOf]; omega
        · by_cases hb1 : ab (r + 99 * k - n) < b
          · go_wp2_with (go_at_call 77; refine (abs_c _ (by omega) (by omega) _).mono ?_; rintro e w1 ⟨rfl, rfl⟩)
            go_round
            case rel => exact ⟨k + 1, _, by omega, by omega, rfl, hide (by go_num), by omega, hide (by have h8 := H.out; have h9 := G3.out; have h7 := E5.out; omega)⟩
            case measure => simp [intOf]; omega
          · go_wp2_with (go_at_call 77; refine (abs_c _ (by omega) (by omega) _).mono ?_; rintro e w1 ⟨rfl, rfl⟩)
            go_round
            case rel => exact ⟨k + 1, _, by omega, by omega, rfl, hide (by go_num), by omega, hide (by have h8 := H.out; have h9 := G3.out; have h7 := E5.out; omega)⟩
            case measure => simp [intOf]; omega
      · go_wp2
        go_ret
        exact ⟨ret_eq (int_eq (by have h8 := H.out; omega)), rfl⟩

  · have G1 := hide hge
    have G2 := hide hat
    have E5 := hide e5
    clear hge hat hlt e5
    go_enter Try.func58, Try.ntmps58
    go_wp2
    go_loop [7, 8] (fun bv cv => ∃ k b : Int, 0 ≤ k ∧ k ≤ 101 ∧ bv = .int .i64 b ∧ Hid (cv = .int .i64 (r + 100 * k)) ∧ -1 ≤ b ∧ Hid ((k = 0 → b = -1) ∧ (0 < k → 0 ≤ b ∧ L ≤ b) ∧ (A < r + 100 * k → b = L))) (fun _ cv => (20000 - intOf cv).toNat)
    case atStart => exact ⟨0, -1, by omega, by omega, rfl, hide (by go_num), by omega, hide (by omega)⟩
    case round =>
      obtain ⟨k, b, hk0, hk1, rfl, hcv, hb, H⟩ := hrel
      obtain rfl := hcv.out
      clear hcv
      by_cases hc : r + 100 * k ≤ 9899
      · have g1 := G1.out k hk0 hc
        have G3 := hide (G2.out k)
        have hab := (ab_spec (r + 100 * k - n)).2.2
        by_cases hb0 : b < 0
        · go_wp2_with (go_at_call 77; refine (abs_c _ (by omega) (by omega) _).mono ?_; rintro e w1 ⟨rfl, rfl⟩)
          go_round
          case rel => exact ⟨k + 1, _, by omega, by omega, rfl, hide (by go_num), by omega, hide (by have h8 := H.out; have h9 := G3.out; have h7 := E5.out; omega)⟩
          case measure => simp [intOf]; omega
        · by_cases hb1 : ab (r + 100 * k - n) < b
          · go_wp2_with (go_at_call 77; refine (abs_c _ (by omega) (by omega) _).mono ?_; rintro e w1 ⟨rfl, rfl⟩)
            go_round
            case rel => exact ⟨k + 1, _, by omega, by omega, rfl, hide (by go_num), by omega, hide (by have h8 := H.out; have h9 := G3.out; have h7 := E5.out; omega)⟩
            case measure => simp [intOf]; omega
          · go_wp2_with (go_at_call 77; refine (abs_c _ (by omega) (by omega) _).mono ?_; rintro e w1 ⟨rfl, rfl⟩)
            go_round
            case rel => exact ⟨k + 1, _, by omega, by omega, rfl, hide (by go_num), by omega, hide (by have h8 := H.out; have h9 := G3.out; have h7 := E5.out; omega)⟩
            case measure => simp [intOf]; omega
      · go_wp2
        go_ret
        exact ⟨ret_eq (int_eq (by have h8 := H.out; omega)), rfl⟩

theorem firstNear_c (r s n : Int) (hs : s = 99 ∨ s = 100) (h0 : 0 ≤ r) (h1 : r < s) (h2 : 0 ≤ n) (h3 : n ≤ 9899) (d : Int) (hd : lst r s n ≤ d) (_hd1 : d ≤ 20000) (w : World) : Calls Try.prog 59 #[.int .i64 r, .int .i64 s, .int .i64 n, .int .i64 d] w fun x w' => x = .returned (.int .i64 (fst r s n d)) ∧ w = w' := by
  obtain ⟨f1, f2, f3, f4, f5⟩ := fst_spec hs h0 h1 h2 h3 hd
  generalize fst r s n d = Z at *
  clear hd
  rcases hs with rfl | rfl
  · have G1 := hide f5
    have E4 := hide f4
    clear f5 f4
    go_enter Try.func59, Try.ntmps59
    go_wp2
    go_loop [9] (fun cv => ∃ k : Int, 0 ≤ k ∧ k ≤ 101 ∧ Hid (cv = .int .i64 (r + 99 * k)) ∧ r + 99 * k ≤ Z) (fun cv => (20000 - intOf cv).toNat)
    case atStart => exact ⟨0, by omega, by omega, hide (by go_num), by omega⟩
    case round =>
      obtain ⟨k, hk0, hk1, hcv, hkz⟩ := hrel
      obtain rfl := hcv.out
      clear hcv
      have hc9 : r + 99 * k ≤ 9899 := by omega
      by_cases hc : r + 99 * k < Z
      · have g1 := G1.out _ k hk0 rfl hc
        go_wp2_with (go_at_call 77; refine (abs_c _ (by omega) (by omega) _).mono ?_; rintro e w1 ⟨rfl, rfl⟩)
        go_round
        case rel => exact ⟨k + 1, by omega, by omega, hide (by go_num), by have := E4.out; omega⟩
        case measure => simp [intOf]; omega
      · have H := hide (show r + 99 * k = Z from by omega)
        have g1 : ab (r + 99 * k - n) ≤ d := by rw [H.out]; exact f1
        clear f1
        go_wp2_with (go_at_call 77; refine (abs_c _ (by omega) (by omega) _).mono ?_; rintro e w1 ⟨rfl, rfl⟩)
        go_ret
        exact ⟨ret_eq (int_eq H.out), rfl⟩

  · have G1 := hide f5
    have E4 := hide f4
    clear f5 f4
    go_enter Try.func59, Try.ntmps59
    go_wp2
    go_loop [9] (fun cv => ∃ k : Int, 0 ≤ k ∧ k ≤ 101 ∧ Hid (cv = .int .i64 (r + 100 * k)) ∧ r + 100 * k ≤ Z) (fun cv => (20000 - intOf cv).toNat)
    case atStart => exact ⟨0, by omega, by omega, hide (by go_num), by omega⟩
    case round =>
      obtain ⟨k, hk0, hk1, hcv, hkz⟩ := hrel
      obtain rfl := hcv.out
      clear hcv
      have hc9 : r + 100 * k ≤ 9899 := by omega
      by_cases hc : r + 100 * k < Z
      · have g1 := G1.out _ k hk0 rfl hc
        go_wp2_with (go_at_call 77; refine (abs_c _ (by omega) (by omega) _).mono ?_; rintro e w1 ⟨rfl, rfl⟩)
        go_round
        case rel => exact ⟨k + 1, by omega, by omega, hide (by go_num), by have := E4.out; omega⟩
        case measure => simp [intOf]; omega
      · have H := hide (show r + 100 * k = Z from by omega)
        have g1 : ab (r + 100 * k - n) ≤ d := by rw [H.out]; exact f1
        clear f1
        go_wp2_with (go_at_call 77; refine (abs_c _ (by omega) (by omega) _).mono ?_; rintro e w1 ⟨rfl, rfl⟩)
        go_ret
        exact ⟨ret_eq (int_eq H.out), rfl⟩

end Go.Proofs.Ytpabfkodlgglcaa
