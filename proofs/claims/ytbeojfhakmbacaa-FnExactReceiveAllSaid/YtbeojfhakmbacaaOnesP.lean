/- Contract: how many bits are 1. -/
import Derived.Test.YtbeojfhakmbacaaGrayMathP
import Derived.Test.YtbeojfhakmbacaaBase
import Derived.Test.YtbeojfhakmbacaaProg
namespace Go.Proofs.Ytbeojfhakmbacaa
open Go.RowKit

theorem ones_c (s : ByteArray) (hs : s.size ≤ 100000) (w : World) : Calls Try.prog 122 #[.string s] w fun r' w' => r' = .returned (.int .i64 (onesL s.data.toList)) ∧ w = w' := by
  go_enter Try.func122, Try.ntmps122
  go_wp2
  go_loop [3, 4] (fun nv iv => ∃ (i : Nat) (m : Int), i ≤ s.size ∧ nv = .int .i64 m ∧ iv = .int .i64 i ∧ Hid (m = onesL (s.data.toList.take i)) ∧ 0 ≤ m ∧ m ≤ i) (fun _ iv => s.size - (intOf iv).toNat)
  case atStart => exact ⟨0, 0, by omega, rfl, rfl, hide rfl, by omega, by omega⟩
  case round =>
    obtain ⟨i, m, hi, rfl, rfl, H, m0, m1⟩ := hrel
    by_cases hlt : i < s.size
    · have hts := take_snoc s i hlt
      by_cases hc : (s[i].toNat : Int) = 49
      · have HS := hide (show onesL (s.data.toList.take (i + 1)) = m + 1 from by
          have h9 : s[i] = 49 := UInt8.toNat_inj.1 (by have : UInt8.toNat 49 = 49 := rfl; omega)
          rw [hts, H.out, onesL, onesL, List.filter_append, h9]; simp)
        clear hts
        go_wp2
        go_round
        case rel => exact ⟨i + 1, _, by omega, rfl, by go_num, hide HS.out.symm, by omega, by omega⟩
        case measure => simp [intOf]; omega
      · have HS := hide (show onesL (s.data.toList.take (i + 1)) = m from by
          have h9 : ¬ s[i] = 49 := fun e => hc (by rw [e]; rfl)
          rw [hts, H.out, onesL, onesL, List.filter_append, List.filter_cons]; simp [h9])
        clear hts
        go_wp2
        go_round
        case rel => exact ⟨i + 1, _, by omega, rfl, by go_num, hide HS.out.symm, by omega, by omega⟩
        case measure => simp [intOf]; omega
    · go_wp2
      go_ret
      exact ⟨ret_eq (int_eq (by rw [H.out, List.take_of_length_le (by simp; omega)])), rfl⟩
end Go.Proofs.Ytbeojfhakmbacaa
