/- Contracts: texts of bits as numbers; digits of hex texts. -/
import Derived.Test.YtbeojfhakmbacaaFrMath
import Derived.Test.YtbeojfhakmbacaaBitsOf
import Derived.Test.YtbeojfhakmbacaaOnesP
import Derived.Test.YtbeojfhakmbacaaByteRow
import Derived.Test.YtbeojfhakmbacaaRegion
namespace Go.Proofs.Ytbeojfhakmbacaa
open Go.RowKit
theorem isB_at {s : ByteArray} (h : isB s.data.toList) {i : Nat} (hi : i < s.size) : (s[i].toNat : Int) = 48 ∨ (s[i].toNat : Int) = 49 := by
  have h1 : s[i] ∈ s.data.toList := by
    have : s.data.toList[i]'(by simpa using hi) = s[i] := rfl
    rw [← this]; exact List.getElem_mem _
  rcases h _ h1 with e | e
  · left; rw [e]; rfl
  · right; rw [e]; rfl
theorem isB_byte {s : ByteArray} (h : isB s.data.toList) {i : Nat} (hi : i < s.size) : s[i] = 48 ∨ s[i] = 49 := by
  have h1 : s[i] ∈ s.data.toList := by
    have : s.data.toList[i]'(by simpa using hi) = s[i] := rfl
    rw [← this]; exact List.getElem_mem _
  exact h _ h1
theorem num_bd30 {s : ByteArray} (h : isB s.data.toList) (hs : s.size ≤ 30) (k : Nat) : 0 ≤ numL (s.data.toList.take k) ∧ numL (s.data.toList.take k) ≤ 1073741823 := by
  obtain ⟨h0, h1⟩ := numL_bd (isB_take h k)
  have hl : (s.data.toList.take k).length ≤ 30 := by simp; omega
  have h9 : (2 : Nat) ^ (s.data.toList.take k).length ≤ 2 ^ 30 := Nat.pow_le_pow_right (by omega) hl
  have e9 : (((2 : Nat) ^ (s.data.toList.take k).length : Nat) : Int) = (2 : Int) ^ (s.data.toList.take k).length := by simp
  omega
theorem numberOf_c (s : ByteArray) (hb : Hid (isB s.data.toList)) (hs : s.size ≤ 30) (w : World) : Calls Try.prog 107 #[.string s] w fun r' w' => r' = .returned (.int .i64 (numL s.data.toList)) ∧ w = w' := by
  go_enter Try.func107, Try.ntmps107
  go_wp2
  go_loop [3, 4] (fun nv iv => ∃ (i : Nat) (m : Int), i ≤ s.size ∧ nv = .int .i64 m ∧ iv = .int .i64 i ∧ Hid (m = numL (s.data.toList.take i)) ∧ 0 ≤ m ∧ m ≤ 1073741823) (fun _ iv => s.size - (intOf iv).toNat)
  case atStart => exact ⟨0, 0, by omega, rfl, rfl, hide rfl, by omega, by omega⟩
  case round =>
    obtain ⟨i, m, hi, rfl, rfl, H, m0, m1⟩ := hrel
    by_cases hlt : i < s.size
    · have hts := take_snoc s i hlt
      obtain ⟨n0, n1⟩ := num_bd30 hb.out hs (i + 1)
      rcases isB_at hb.out hlt with hc | hc
      · have HS := hide (show numL (s.data.toList.take (i + 1)) = 2 * m from by rw [hts, numL_snoc, H.out, hc]; omega)
        rw [HS.out] at n1
        clear hts n0
        go_wp2
        go_round
        case rel => exact ⟨i + 1, 2 * m, by omega, by go_num, by go_num, hide HS.out.symm, by omega, by omega⟩
        case measure => simp [intOf]; omega
      · have HS := hide (show numL (s.data.toList.take (i + 1)) = 2 * m + 1 from by rw [hts, numL_snoc, H.out, hc]; omega)
        rw [HS.out] at n1
        clear hts n0
        go_wp2
        go_round
        case rel => exact ⟨i + 1, 2 * m + 1, by omega, by go_num, by go_num, hide HS.out.symm, by omega, by omega⟩
        case measure => simp [intOf]; omega
    · go_wp2
      go_ret
      exact ⟨ret_eq (int_eq (by rw [H.out, List.take_of_length_le (by simp; omega)])), rfl⟩
theorem l2Number_c (s : ByteArray) (hb : Hid (isB s.data.toList)) (hs : s.size ≤ 30) (w : World) : Calls Try.prog 117 #[.string s] w fun r' w' => r' = .returned (.int .i64 (numL s.data.toList)) ∧ w = w' := by
  go_enter Try.func117, Try.ntmps117
  go_wp2
  go_loop [3, 4] (fun nv iv => ∃ (i : Nat) (m : Int), i ≤ s.size ∧ nv = .int .i64 m ∧ iv = .int .i64 i ∧ Hid (m = numL (s.data.toList.take i)) ∧ 0 ≤ m ∧ m ≤ 1073741823) (fun _ iv => s.size - (intOf iv).toNat)
  case atStart => exact ⟨0, 0, by omega, rfl, rfl, hide rfl, by omega, by omega⟩
  case round =>
    obtain ⟨i, m, hi, rfl, rfl, H, m0, m1⟩ := hrel
    by_cases hlt : i < s.size
    · have hts := take_snoc s i hlt
      obtain ⟨n0, n1⟩ := num_bd30 hb.out hs (i + 1)
      rcases isB_at hb.out hlt with hc | hc
      · have HS := hide (show numL (s.data.toList.take (i + 1)) = 2 * m from by rw [hts, numL_snoc, H.out, hc]; omega)
        rw [HS.out] at n1
        clear hts n0
        have e1 : IntKind.i64.wrap (2 * m + 48) = 2 * m + 48 := IntWalk.i64_in _ (by omega)
        have e2 : IntKind.i64.wrap (2 * m + 48 - 48) = 2 * m := by rw [IntWalk.i64_in _ (by omega)]; omega
        go_wp2
        go_round
        case rel => exact ⟨i + 1, 2 * m, by omega, by go_num, by go_num, hide HS.out.symm, by omega, by omega⟩
        case measure => simp [intOf]; omega
      · have HS := hide (show numL (s.data.toList.take (i + 1)) = 2 * m + 1 from by rw [hts, numL_snoc, H.out, hc]; omega)
        rw [HS.out] at n1
        clear hts n0
        have e1 : IntKind.i64.wrap (2 * m + 49) = 2 * m + 49 := IntWalk.i64_in _ (by omega)
        have e2 : IntKind.i64.wrap (2 * m + 49 - 48) = 2 * m + 1 := by rw [IntWalk.i64_in _ (by omega)]; omega
        go_wp2
        go_round
        case rel => exact ⟨i + 1, 2 * m + 1, by omega, by go_num, by go_num, hide HS.out.symm, by omega, by omega⟩
        case measure => simp [intOf]; omega
    · go_wp2
      go_ret
      exact ⟨ret_eq (int_eq (by rw [H.out, List.take_of_length_le (by simp; omega)])), rfl⟩
def hexS : ByteArray := { data := #[48, 49, 50, 51, 52, 53, 54, 55, 56, 57, 65, 66, 67, 68, 69, 70] }
theorem hexS_size : hexS.size = 16 := rfl
theorem hexS_at {i : Nat} (h : i < hexS.size) : hexS[i] = hexL.getD i 0 := by
  have h2 : i < 16 := h
  have e : ∀ j : Fin 16, hexS[j.1]'(by have := j.2; rw [hexS_size]; omega) = hexL.getD j.1 0 := by decide
  exact e ⟨i, h2⟩
theorem hexDigit_c (c : UInt8) (w : World) : Calls Try.prog 102 #[.int .u8 (c.toNat : Int)] w fun r' w' => r' = .returned (.int .i64 (hxd c)) ∧ w = w' := by
  go_enter Try.func102, Try.ntmps102
  rw [← show hexS = { data := #[48, 49, 50, 51, 52, 53, 54, 55, 56, 57, 65, 66, 67, 68, 69, 70] } from rfl]
  have hsz := hexS_size
  obtain ⟨S, hS⟩ : ∃ S, hexS = S := ⟨_, rfl⟩
  have HE := hide (fun (i : Nat) (h : i < S.size) => (show (S[i].toNat : Int) = (hexL.getD i 0).toNat from by subst hS; rw [hexS_at h]))
  rw [hS] at hsz ⊢
  go_wp2
  go_loop [3] (fun iv => ∃ (i : Nat), i ≤ 16 ∧ iv = .int .i64 i ∧ Hid (∀ j, j < i → hexL.getD j 0 ≠ c)) (fun iv => 16 - (intOf iv).toNat)
  case atStart => exact ⟨0, by omega, rfl, hide fun j hj => absurd hj (by omega)⟩
  case round =>
    obtain ⟨i, hi, rfl, H⟩ := hrel
    by_cases hlt : i < 16
    · have hls : i < S.size := by omega
      have hc := HE.out i hls
      by_cases he : hexL.getD i 0 = c
      · have HF := hide (show hxd c = i from by rw [← he]; exact hxd_at hlt)
        rw [he] at hc
        clear he
        go_wp2
        go_ret
        exact ⟨ret_eq (int_eq (by rw [HF.out])), rfl⟩
      · have hne : ¬ (S[i].toNat : Int) = (c.toNat : Int) := by
          rw [hc]; intro e
          exact he (UInt8.toNat_inj.1 (by omega))
        have H2 := hide (show ∀ j, j < i + 1 → hexL.getD j 0 ≠ c from fun j hj => by
          by_cases e : j = i
          · subst e; exact he
          · exact H.out j (by omega))
        clear he hc
        go_wp2
        go_round
        case rel => exact ⟨i + 1, by omega, by go_num, H2⟩
        case measure => simp [intOf]; omega
    · obtain rfl : i = 16 := by omega
      have HF := hide (hxd_none H.out)
      go_wp2
      go_ret
      exact ⟨ret_eq (int_eq (by rw [HF.out])), rfl⟩
end Go.Proofs.Ytbeojfhakmbacaa
