/- Contracts: changed bits. -/
import Derived.Test.YthgnnldokdddfaaHeB
import Derived.Test.YthgnnldokdddfaaBitsOf
import Derived.Test.YthgnnldokdddfaaOnes
namespace Go.Proofs.Ythgnnldokdddfaa
open Go.RowKit

theorem changedBits_c (a b : Int) (w : World) : Calls Try.prog 17 #[.int .i64 a, .int .i64 b] w (Gives w (.tuple #[.int .i64 (cb a b), .bool (cbK a b)])) := by
  rcases h1 : decOk a with _ | _
  · go_enter Try.func17, Try.ntmps17
    go_wp2_with (first | (go_at_call 24; refine (decodeHeight_c _ _).mono ?_; rintro e w1 ⟨rfl, rfl⟩))
    go_returns
    exact ⟨ret_eq (by simp [cb, cbK, h1]), by go_grown⟩
  rcases h2 : decOk b with _ | _
  · go_enter Try.func17, Try.ntmps17
    go_wp2_with (first | (go_at_call 24; refine (decodeHeight_c _ _).mono ?_; rintro e w1 ⟨rfl, rfl⟩))
    go_returns
    exact ⟨ret_eq (by simp [cb, cbK, h1, h2]), by go_grown⟩
  obtain ⟨ka0, ka1⟩ := decOk_bd h1
  obtain ⟨kb0, kb1⟩ := decOk_bd h2
  have hx : bits .xor .i64 a b = xr a b := i64_xor ka0 (by omega) kb0 (by omega)
  obtain ⟨x0, x1⟩ := xr_bd (a := a) (b := b) 12 (by omega) (by omega)
  obtain ⟨y, hy⟩ : ∃ y, xr a b = y := ⟨_, rfl⟩
  rw [hy] at hx x0 x1
  have y1 : y ≤ 4095 := by omega
  clear x1
  have HS := hide (show cb a b = popL y 12 from by unfold cb; rw [if_pos (by simp [cbK, h1, h2]), hy])
  clear hy
  have HO := hide (show onesL (str (bitsL y 12)).data.toList = popL y 12 from by rw [str_list, onesL_bits])
  go_enter Try.func17, Try.ntmps17
  go_wp2_with (first | (go_at_call 24; refine (decodeHeight_c _ _).mono ?_; rintro e w1 ⟨rfl, rfl⟩) | (go_at_call 51; refine (bitsOf_c _ 12 (by omega) (by omega) (by omega) _).mono ?_; rintro e w1 ⟨rfl, hb⟩; have hT : Below w.heap.size w w1 := keep0 (by first | assumption | go_grown) hb; (try clear hS); have hS := hT; clear hT; have hB := hS; have hzw := hB.size; clear hb) | (go_at_call 50; refine (ones_c _ (by rw [str_size, bitsL_len]; omega) _).mono ?_; rintro e w1 ⟨rfl, rfl⟩))
  go_returns
  exact ⟨ret_eq (by rw [HS.out, HO.out]; simp [cbK, h1, h2]), by go_grown⟩

theorem sChangedBits_c (a b : Int) (w : World) : Calls Try.prog 16 #[.int .i64 a, .int .i64 b] w (Gives w (.tuple #[.int .i64 (cb a b), .bool (cbK a b)])) := by
  rcases h1 : decOk a with _ | _
  · go_enter Try.func16, Try.ntmps16
    go_wp2_with (first | (go_at_call 49; refine (l6Decode_c _ _).mono ?_; rintro e w1 ⟨rfl, rfl⟩))
    go_returns
    exact ⟨ret_eq (by simp [cb, cbK, h1]), by go_grown⟩
  rcases h2 : decOk b with _ | _
  · go_enter Try.func16, Try.ntmps16
    go_wp2_with (first | (go_at_call 49; refine (l6Decode_c _ _).mono ?_; rintro e w1 ⟨rfl, rfl⟩))
    go_returns
    exact ⟨ret_eq (by simp [cb, cbK, h1, h2]), by go_grown⟩
  obtain ⟨ka0, ka1⟩ := decOk_bd h1
  obtain ⟨kb0, kb1⟩ := decOk_bd h2
  have hx : bits .xor .i64 a b = xr a b := i64_xor ka0 (by omega) kb0 (by omega)
  obtain ⟨x0, x1⟩ := xr_bd (a := a) (b := b) 12 (by omega) (by omega)
  obtain ⟨y, hy⟩ : ∃ y, xr a b = y := ⟨_, rfl⟩
  rw [hy] at hx x0 x1
  have y1 : y ≤ 4095 := by omega
  clear x1
  have HS := hide (show cb a b = popL y 12 from by unfold cb; rw [if_pos (by simp [cbK, h1, h2]), hy])
  clear hy
  go_enter Try.func16, Try.ntmps16
  go_wp2_with (first | (go_at_call 49; refine (l6Decode_c _ _).mono ?_; rintro e w1 ⟨rfl, rfl⟩))
  go_loop [12, 13] (fun nv xv => ∃ (i : Nat) (m x : Int), nv = .int .i64 m ∧ xv = .int .i64 x ∧ i ≤ 12 ∧ 0 ≤ x ∧ x ≤ 4095 ∧ 0 ≤ m ∧ m ≤ 12 ∧ Hid (x = y / 2 ^ i ∧ m = popL y i)) (fun _ xv => (intOf xv).toNat)
  case atStart => exact ⟨0, 0, y, rfl, rfl, by omega, x0, y1, by omega, by omega, hide ⟨by simp, rfl⟩⟩
  case round =>
    obtain ⟨i, m, x, rfl, rfl, i0, c0, c1, m0, m1, H⟩ := hrel
    have ha : bits .and .i64 x 1 = x % 2 := i64_and1 c0 (by omega)
    by_cases g : x > 0
    · have H2 := hide (show i < 12 from by
        rcases Nat.lt_or_ge i 12 with h | h
        · exact h
        · have e : i = 12 := by omega
          have h9 := H.out.1
          rw [e] at h9
          simp at h9
          omega)
      have H3 := hide (show popL y (i + 1) = m + x % 2 from by rw [popL, ← H.out.1, ← H.out.2]; omega)
      have hb := popL_bd y (i + 1)
      rw [H3.out] at hb
      have b0 : 0 ≤ m + x % 2 := hb.1
      have b1 : m + x % 2 ≤ 12 := by have := H2.out; omega
      clear hb
      go_wp2
      go_round
      case rel => exact ⟨i + 1, _, _, rfl, rfl, H2.out, by omega, by omega, b0, b1, hide ⟨by rw [H.out.1, div_pow_succ], H3.out.symm⟩⟩
      case measure => simp [intOf]; omega
    · have H4 := hide (show popL y 12 = m from by
        have h9 := popL_stop (n := y) (i := i) (by rw [← H.out.1]; omega) (12 - i)
        rw [show i + (12 - i) = 12 from by omega] at h9
        rw [h9, H.out.2])
      go_wp2
      go_returns
      exact ⟨ret_eq (by rw [HS.out, H4.out]; simp [cbK, h1, h2]), by go_grown⟩

theorem fnChangedBits (a b : Int) (w : World) : Calls Try.prog 5 #[.int .i64 a, .int .i64 b] w (Gives w (.bool true)) := by
  go_enter Try.func5, Try.ntmps5
  go_wp2_with (first | (go_at_call 16; refine (sChangedBits_c _ _ _).mono ?_; rintro e w1 ⟨rfl, hb⟩; have hT : Below w.heap.size w w1 := keep0 (by first | assumption | go_grown) hb; (try clear hS); have hS := hT; clear hT; have hB := hS; have hzw := hB.size; clear hb) | (go_at_call 17; refine (changedBits_c _ _ _).mono ?_; rintro e w1 ⟨rfl, hb⟩; have hT : Below w.heap.size w w1 := keep0 (by first | assumption | go_grown) hb; (try clear hS); have hS := hT; clear hT; have hB := hS; have hzw := hB.size; clear hb))
  all_goals (go_returns; exact ⟨ret_eq (by rfl), by go_grown⟩)
end Go.Proofs.Ythgnnldokdddfaa
