/- Contracts: numbers and texts of bits. -/
import Derived.Test.YtpcabjjmphcpeaaStr
import Derived.Test.YtpcabjjmphcpeaaProg
namespace Go.Proofs.Ytpcabjjmphcpeaa
open Go.RowKit

theorem l2Of_c (n : Int) (k : Nat) (h0 : 0 ≤ n) (h1 : n ≤ 1000000000000) (h2 : k ≤ 64) (w : World) : Calls Try.prog 56 #[.int .i64 n, .int .i64 k] w fun r' w' => r' = .returned (.string (str (bitsL n k))) ∧ w = w' := by
  go_enter Try.func56, Try.ntmps56
  go_wp2
  go_loop [0, 5, 6] (fun nv sv iv => ∃ (i : Nat) (m : Int) (s : ByteArray), i ≤ k ∧ nv = .int .i64 m ∧ sv = .string s ∧ iv = .int .i64 i ∧ 0 ≤ m ∧ m ≤ n ∧ Hid (m = n / 2 ^ i ∧ s = str (bitsL n i))) (fun _ _ iv => k - (intOf iv).toNat)
  case atStart => exact ⟨0, n, str [], by omega, rfl, rfl, rfl, by omega, by omega, hide ⟨by simp, rfl⟩⟩
  case round =>
    obtain ⟨i, m, s, hi, rfl, rfl, rfl, m0, m1, H⟩ := hrel
    have hsz : s.size = i := by rw [H.out.2, str_size, bitsL_len]
    have e1 : m.tmod 2 = m % 2 := Int.tmod_eq_emod_of_nonneg m0
    have e2 : m.tdiv 2 = m / 2 := Int.tdiv_eq_ediv_of_nonneg m0
    by_cases hlt : i < k
    · by_cases hb : m % 2 = 0
      · have HB := hide (show bit m = 48 from by simp [bit, hb])
        go_wp2
        go_round
        case rel =>
          refine ⟨i + 1, _, _, by omega, rfl, rfl, by go_num, by omega, by omega, hide ⟨?_, ?_⟩⟩
          · rw [H.out.1, div_pow_succ]
          · rw [H.out.2, bitsL, ← H.out.1, HB.out]; exact str_app [48] _
        case measure => simp [intOf]; omega
      · have hb1 : m % 2 = 1 := by omega
        have HB := hide (show bit m = 49 from by simp [bit, hb])
        clear hb
        go_wp2
        go_round
        case rel =>
          refine ⟨i + 1, _, _, by omega, rfl, rfl, by go_num, by omega, by omega, hide ⟨?_, ?_⟩⟩
          · rw [H.out.1, div_pow_succ]
          · rw [H.out.2, bitsL, ← H.out.1, HB.out]; exact str_app [49] _
        case measure => simp [intOf]; omega
    · obtain rfl : i = k := by omega
      go_wp2
      go_ret
      exact ⟨ret_eq (by rw [H.out.2]; simp), rfl⟩

theorem l2Number_c (s : ByteArray) (hs : s.size ≤ 40) (hb : isB s.data.toList) (w : World) : Calls Try.prog 49 #[.string s] w fun r' w' => r' = .returned (.int .i64 (numL s.data.toList)) ∧ w = w' := by
  go_enter Try.func49, Try.ntmps49
  go_wp2
  go_loop [3, 4] (fun nv iv => ∃ (i : Nat) (m : Int), i ≤ s.size ∧ nv = .int .i64 m ∧ iv = .int .i64 i ∧ Hid (m = numL (s.data.toList.take i)) ∧ 0 ≤ m ∧ m ≤ 1099511627776) (fun _ iv => s.size - (intOf iv).toNat)
  case atStart => exact ⟨0, 0, by omega, rfl, rfl, hide rfl, by omega, by omega⟩
  case round =>
    obtain ⟨i, m, hi, rfl, rfl, H, m0, m1⟩ := hrel
    by_cases hlt : i < s.size
    · have hts := take_snoc s i hlt
      have hbd := numL_bd (l := s.data.toList.take (i + 1)) (fun x hx => hb x (List.mem_of_mem_take hx))
      have hpw : (2 : Int) ^ (s.data.toList.take (i + 1)).length ≤ 2 ^ 40 := by
        have h9 : (s.data.toList.take (i + 1)).length ≤ 40 := by
          have h8 : s.data.toList.length = s.size := by simp
          rw [List.length_take]; omega
        exact_mod_cast Nat.pow_le_pow_right (by omega) h9
      have hs2 : numL (s.data.toList.take (i + 1)) = 2 * m + ((s[i]).toNat : Int) - 48 := by rw [hts, numL_snoc, H.out]
      have hc : s[i] = 48 ∨ s[i] = 49 := hb _ (List.getElem_mem (l := s.data.toList) (n := i) (by simpa using hlt))
      have hc1 : (48 : Int) ≤ ((s[i]).toNat : Int) ∧ ((s[i]).toNat : Int) ≤ 49 := by rcases hc with e | e <;> rw [e] <;> exact ⟨by decide, by decide⟩
      rw [hs2] at hbd
      have b0 : 0 ≤ 2 * m + ((s[i]).toNat : Int) - 48 := hbd.1
      have b1 : 2 * m + ((s[i]).toNat : Int) - 48 ≤ 1099511627776 := by have := hbd.2; omega
      have HS := hide hs2
      clear hts hbd hpw hs2 hc
      go_wp2
      go_round
      case rel => exact ⟨i + 1, _, by omega, rfl, by go_num, hide HS.out.symm, b0, b1⟩
      case measure => simp [intOf]; omega
    · go_wp2
      go_ret
      exact ⟨ret_eq (int_eq (by rw [H.out, List.take_of_length_le (by simp; omega)])), rfl⟩
end Go.Proofs.Ytpcabjjmphcpeaa
