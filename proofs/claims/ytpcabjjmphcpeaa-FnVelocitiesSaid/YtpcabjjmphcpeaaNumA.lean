/- Contract: reading a number of at least 0, by the program. -/
import Derived.Test.YtpcabjjmphcpeaaReadMath
import Derived.Test.YtpcabjjmphcpeaaProg
import Derived.Test.YtpcabjjmphcpeaaBase
namespace Go.Proofs.Ytpcabjjmphcpeaa
open Go.RowKit

set_option maxHeartbeats 1600000 in
theorem number_c (s : ByteArray) (w : World) : Calls Try.prog 66 #[.string s] w fun r' w' => r' = .returned (.tuple #[.int .i64 (nV s.data.toList), .bool (nOk s.data.toList)]) ∧ w = w' := by
  by_cases z0 : s.size = 0
  · have HK := hide (show nOk s.data.toList = false from by unfold nOk; rw [len_list, z0]; rfl)
    have HF := hide (show nV s.data.toList = 0 from by unfold nV; rw [HK.out]; rfl)
    go_enter Try.func66, Try.ntmps66
    go_wp2
    go_returns
    exact ⟨ret_eq (by rw [HF.out, HK.out]; simp), rfl⟩
  have z0b : ((s.size : Int) == 0) = false := by simpa using z0
  by_cases z9 : s.size > 9
  · have HK := hide (show nOk s.data.toList = false from by unfold nOk; rw [decide_eq_false (by rw [len_list]; omega)]; rfl)
    have HF := hide (show nV s.data.toList = 0 from by unfold nV; rw [HK.out]; rfl)
    go_enter Try.func66, Try.ntmps66
    go_wp2
    go_returns
    exact ⟨ret_eq (by rw [HF.out, HK.out]; simp), rfl⟩
  have hp : 0 < s.size := by omega
  have HH := hide (head_at s hp)
  by_cases z8 : (s[0].toNat : Int) = 48
  · by_cases z1 : 1 < s.size
    · have HK := hide (show nOk s.data.toList = false from by unfold nOk; rw [decide_eq_false (by rw [len_list, HH.out]; intro e; exact e.2.2 ⟨by rw [show s[0] = 48 from UInt8.toNat_inj.1 (by have : UInt8.toNat 48 = 48 := rfl; omega)], z1⟩)]; rfl)
      have HF := hide (show nV s.data.toList = 0 from by unfold nV; rw [HK.out]; rfl)
      go_enter Try.func66, Try.ntmps66
      go_wp2
      go_returns
      exact ⟨ret_eq (by rw [HF.out, HK.out]; simp), rfl⟩
    go_enter Try.func66, Try.ntmps66
    go_wp2
    go_loop [4, 5] (fun nv iv => ∃ (i : Nat) (m : Int), i ≤ s.size ∧ nv = .int .i64 m ∧ iv = .int .i64 i ∧ Hid (m = numV (s.data.toList.take i) ∧ (s.data.toList.take i).all isD = true) ∧ 0 ≤ m ∧ m ≤ 999999999) (fun _ iv => s.size - (intOf iv).toNat)
    case atStart => exact ⟨0, 0, by omega, rfl, rfl, hide ⟨rfl, rfl⟩, by omega, by omega⟩
    case round =>
      obtain ⟨i, m, hi, rfl, rfl, H, m0, m1⟩ := hrel
      by_cases hlt : i < s.size
      · by_cases c0 : (s[i].toNat : Int) < 48
        · have HD := hide (dig_no hlt (isD_lo c0))
          have HK := hide (show nOk s.data.toList = false from by unfold nOk; rw [HD.out, Bool.and_false])
          have HF := hide (show nV s.data.toList = 0 from by unfold nV; rw [HK.out]; rfl)
          go_wp2
          go_returns
          exact ⟨ret_eq (by rw [HF.out, HK.out]; simp), rfl⟩
        · by_cases c1 : (s[i].toNat : Int) > 57
          · have HD := hide (dig_no hlt (isD_hi c1))
            have HK := hide (show nOk s.data.toList = false from by unfold nOk; rw [HD.out, Bool.and_false])
            have HF := hide (show nV s.data.toList = 0 from by unfold nV; rw [HK.out]; rfl)
            go_wp2
            go_returns
            exact ⟨ret_eq (by rw [HF.out, HK.out]; simp), rfl⟩
          · have HA := hide (all_snoc hlt H.out.2 (by omega) (by omega))
            have HV := hide (num_snoc hlt)
            have hb := num_small (k := 9) HA.out (by omega) (by omega)
            rw [HV.out, ← H.out.1] at hb
            obtain ⟨b0, b1⟩ := hb
            go_wp2
            go_round
            case rel => exact ⟨i + 1, _, by omega, rfl, by go_num, hide ⟨by rw [HV.out, ← H.out.1], HA.out⟩, b0, b1⟩
            case measure => simp [intOf]; omega
      · have HA := hide (show numV s.data.toList = m ∧ s.data.toList.all isD = true from by
          have h := H.out
          rw [take_all _ (by omega)] at h
          exact ⟨h.1.symm, h.2⟩)
        have HK := hide (show nOk s.data.toList = true from by unfold nOk; rw [HA.out.2, Bool.and_true, decide_eq_true_eq, len_list]; exact ⟨by omega, by omega, fun e => z1 e.2⟩)
        have HF := hide (show nV s.data.toList = m from by unfold nV; rw [if_pos HK.out]; exact HA.out.1)
        go_wp2
        go_returns
        exact ⟨ret_eq (by rw [HF.out, HK.out]; simp), rfl⟩
  go_enter Try.func66, Try.ntmps66
  go_wp2
  go_loop [4, 5] (fun nv iv => ∃ (i : Nat) (m : Int), i ≤ s.size ∧ nv = .int .i64 m ∧ iv = .int .i64 i ∧ Hid (m = numV (s.data.toList.take i) ∧ (s.data.toList.take i).all isD = true) ∧ 0 ≤ m ∧ m ≤ 999999999) (fun _ iv => s.size - (intOf iv).toNat)
  case atStart => exact ⟨0, 0, by omega, rfl, rfl, hide ⟨rfl, rfl⟩, by omega, by omega⟩
  case round =>
    obtain ⟨i, m, hi, rfl, rfl, H, m0, m1⟩ := hrel
    by_cases hlt : i < s.size
    · by_cases c0 : (s[i].toNat : Int) < 48
      · have HD := hide (dig_no hlt (isD_lo c0))
        have HK := hide (show nOk s.data.toList = false from by unfold nOk; rw [HD.out, Bool.and_false])
        have HF := hide (show nV s.data.toList = 0 from by unfold nV; rw [HK.out]; rfl)
        go_wp2
        go_returns
        exact ⟨ret_eq (by rw [HF.out, HK.out]; simp), rfl⟩
      · by_cases c1 : (s[i].toNat : Int) > 57
        · have HD := hide (dig_no hlt (isD_hi c1))
          have HK := hide (show nOk s.data.toList = false from by unfold nOk; rw [HD.out, Bool.and_false])
          have HF := hide (show nV s.data.toList = 0 from by unfold nV; rw [HK.out]; rfl)
          go_wp2
          go_returns
          exact ⟨ret_eq (by rw [HF.out, HK.out]; simp), rfl⟩
        · have HA := hide (all_snoc hlt H.out.2 (by omega) (by omega))
          have HV := hide (num_snoc hlt)
          have hb := num_small (k := 9) HA.out (by omega) (by omega)
          rw [HV.out, ← H.out.1] at hb
          obtain ⟨b0, b1⟩ := hb
          go_wp2
          go_round
          case rel => exact ⟨i + 1, _, by omega, rfl, by go_num, hide ⟨by rw [HV.out, ← H.out.1], HA.out⟩, b0, b1⟩
          case measure => simp [intOf]; omega
    · have HA := hide (show numV s.data.toList = m ∧ s.data.toList.all isD = true from by
        have h := H.out
        rw [take_all _ (by omega)] at h
        exact ⟨h.1.symm, h.2⟩)
      have HK := hide (show nOk s.data.toList = true from by unfold nOk; rw [HA.out.2, Bool.and_true, decide_eq_true_eq, len_list]; exact ⟨by omega, by omega, fun e => by have e2 := e.1; rw [HH.out] at e2; have e3 : s[0] = 48 := (by simpa using e2); exact z8 (by rw [e3]; rfl)⟩)
      have HF := hide (show nV s.data.toList = m from by unfold nV; rw [if_pos HK.out]; exact HA.out.1)
      go_wp2
      go_returns
      exact ⟨ret_eq (by rw [HF.out, HK.out]; simp), rfl⟩
end Go.Proofs.Ytpcabjjmphcpeaa
