/- Contract: reading a number, by the reference. -/
import Derived.Test.YtpcabjjmphcpeaaReadMath
import Derived.Test.YtpcabjjmphcpeaaTxtC
import Derived.Test.YtpcabjjmphcpeaaSpA
namespace Go.Proofs.Ytpcabjjmphcpeaa
open Go.RowKit

set_option maxHeartbeats 4000000 in
theorem l1Read_c (s : ByteArray) (w : World) : Calls Try.prog 64 #[.string s] w (Gives w (.tuple #[.int .i64 (rdV s.data.toList), .bool (rdK s.data.toList)])) := by
  by_cases z1 : 1 < s.size
  · have hp : 0 < s.size := by omega
    have HH := hide (head_at s hp)
    by_cases z8 : (s[0].toNat : Int) = 45
    · have hn := hide (show isNeg s.data.toList from ⟨by rw [len_list]; exact z1, by rw [HH.out, show s[0] = 45 from UInt8.toNat_inj.1 (by have : UInt8.toNat 45 = 45 := rfl; omega)]⟩)
      obtain ⟨T, hT⟩ : ∃ T, s.extract 1 s.size = T := ⟨_, rfl⟩
      have hTs : T.size + 1 = s.size := by rw [← hT, ByteArray.size_extract]; omega
      have HT := hide (show T.data.toList = stripL s.data.toList from by rw [← hT, tail_list]; unfold stripL; rw [if_pos hn.out])
      have HN := hide (show rdN s.data.toList = -numV T.data.toList from by unfold rdN; rw [if_pos hn.out, HT.out])
      have hts : T.size < s.size := by omega
      rcases k : wi (T.size : Int) 1 6 with _ | _
      · have HK := hide (show rdK s.data.toList = false from by unfold rdK; rw [← HT.out]; rw [decide_eq_false (by rw [len_list]; have := wi_no.1 k; omega)]; rfl)
        have HF := hide (show rdV s.data.toList = 0 from by unfold rdV; rw [HK.out]; rfl)
        go_enter Try.func64, Try.ntmps64
        go_wp2_with (first | (go_at_call 55; refine (l1In_c _ _ _ _).mono ?_; rintro e w1 ⟨rfl, rfl⟩))
        go_returns
        exact ⟨ret_eq (by rw [HF.out, HK.out]; simp), by go_grown⟩
      obtain ⟨k1, k2⟩ := wi_iff.1 k
      have k3 : 1 ≤ T.size := by omega
      have k4 : T.size ≤ 6 := by omega
      go_enter Try.func64, Try.ntmps64
      go_wp2_with (first | (go_at_call 55; refine (l1In_c _ _ _ _).mono ?_; rintro e w1 ⟨rfl, rfl⟩))
      go_loop [5, 6] (fun nv iv => ∃ (i : Nat) (m : Int), i ≤ T.size ∧ nv = .int .i64 m ∧ iv = .int .i64 i ∧ Hid (m = numV (T.data.toList.take i) ∧ (T.data.toList.take i).all isD = true) ∧ 0 ≤ m ∧ m ≤ 999999999) (fun _ iv => T.size - (intOf iv).toNat)
      case atStart => exact ⟨0, 0, by omega, rfl, rfl, hide ⟨rfl, rfl⟩, by omega, by omega⟩
      case round =>
        obtain ⟨i, m, hi, rfl, rfl, H, m0, m1⟩ := hrel
        by_cases hlt : i < T.size
        · by_cases c0 : (T[i].toNat : Int) < 48
          · have HD := hide (dig_no hlt (isD_lo c0))
            have HK := hide (show rdK s.data.toList = false from by unfold rdK; rw [← HT.out]; rw [HD.out]; simp)
            have HF := hide (show rdV s.data.toList = 0 from by unfold rdV; rw [HK.out]; rfl)
            go_wp2
            go_returns
            exact ⟨ret_eq (by rw [HF.out, HK.out]; simp), by go_grown⟩
          · by_cases c1 : (T[i].toNat : Int) > 57
            · have HD := hide (dig_no hlt (isD_hi c1))
              have HK := hide (show rdK s.data.toList = false from by unfold rdK; rw [← HT.out]; rw [HD.out]; simp)
              have HF := hide (show rdV s.data.toList = 0 from by unfold rdV; rw [HK.out]; rfl)
              go_wp2
              go_returns
              exact ⟨ret_eq (by rw [HF.out, HK.out]; simp), by go_grown⟩
            · have HA := hide (all_snoc hlt H.out.2 (by omega) (by omega))
              have HV := hide (num_snoc hlt)
              have hb := num_small (k := 6) HA.out (by omega) (by omega)
              rw [HV.out, ← H.out.1] at hb
              obtain ⟨b0, b1⟩ := hb
              go_wp2
              go_round
              case rel => exact ⟨i + 1, _, by omega, rfl, by go_num, hide ⟨by rw [HV.out, ← H.out.1], HA.out⟩, b0, b1⟩
              case measure => simp [intOf]; omega
        · have HA := hide (show numV T.data.toList = m ∧ T.data.toList.all isD = true from by
            have h := H.out
            rw [take_all _ (by omega)] at h
            exact ⟨h.1.symm, h.2⟩)
          by_cases he : txtL (-m) = s.data.toList
          · have HK := hide (show rdK s.data.toList = true from by unfold rdK; rw [← HT.out, HA.out.2, HN.out, HA.out.1, len_list]; simp [he, k3, k4])
            have HF := hide (show rdV s.data.toList = -m from by unfold rdV; rw [if_pos HK.out, HN.out, HA.out.1])
            have he2 := txtS_eq he
            clear he
            go_wp2_with (first | (go_at_call 75; refine (l1NumAny_c _ (by omega) (by omega) _).mono ?_; rintro e w1 ⟨rfl, hb⟩; have hT : Below w.heap.size w w1 := keep0 (by first | assumption | go_grown) hb; (try clear hS); have hS := hT; clear hT; have hB := hS; have hzw := hB.size; clear hb))
            go_returns
            exact ⟨ret_eq (by rw [HF.out, HK.out]; simp), by go_grown⟩
          have HK := hide (show rdK s.data.toList = false from by unfold rdK; rw [HN.out, HA.out.1]; simp [he])
          have HF := hide (show rdV s.data.toList = 0 from by unfold rdV; rw [HK.out]; rfl)
          have he2 := txtS_ne he
          clear he
          go_wp2_with (first | (go_at_call 75; refine (l1NumAny_c _ (by omega) (by omega) _).mono ?_; rintro e w1 ⟨rfl, hb⟩; have hT : Below w.heap.size w w1 := keep0 (by first | assumption | go_grown) hb; (try clear hS); have hS := hT; clear hT; have hB := hS; have hzw := hB.size; clear hb))
          go_returns
          exact ⟨ret_eq (by rw [HF.out, HK.out]; simp), by go_grown⟩
    have hn := hide (show ¬ isNeg s.data.toList from fun e => by have e2 := e.2; rw [HH.out] at e2; have e3 : s[0] = 45 := (by simpa using e2); exact z8 (by rw [e3]; rfl))
    have HT := hide (show s.data.toList = stripL s.data.toList from by unfold stripL; rw [if_neg hn.out])
    have HN := hide (show rdN s.data.toList = numV s.data.toList from by unfold rdN; rw [if_neg hn.out, ← HT.out])
    rcases k : wi (s.size : Int) 1 6 with _ | _
    · have HK := hide (show rdK s.data.toList = false from by unfold rdK; rw [← HT.out]; rw [decide_eq_false (by rw [len_list]; have := wi_no.1 k; omega)]; rfl)
      have HF := hide (show rdV s.data.toList = 0 from by unfold rdV; rw [HK.out]; rfl)
      go_enter Try.func64, Try.ntmps64
      go_wp2_with (first | (go_at_call 55; refine (l1In_c _ _ _ _).mono ?_; rintro e w1 ⟨rfl, rfl⟩))
      go_returns
      exact ⟨ret_eq (by rw [HF.out, HK.out]; simp), by go_grown⟩
    obtain ⟨k1, k2⟩ := wi_iff.1 k
    have k3 : 1 ≤ s.size := by omega
    have k4 : s.size ≤ 6 := by omega
    go_enter Try.func64, Try.ntmps64
    go_wp2_with (first | (go_at_call 55; refine (l1In_c _ _ _ _).mono ?_; rintro e w1 ⟨rfl, rfl⟩))
    go_loop [5, 6] (fun nv iv => ∃ (i : Nat) (m : Int), i ≤ s.size ∧ nv = .int .i64 m ∧ iv = .int .i64 i ∧ Hid (m = numV (s.data.toList.take i) ∧ (s.data.toList.take i).all isD = true) ∧ 0 ≤ m ∧ m ≤ 999999999) (fun _ iv => s.size - (intOf iv).toNat)
    case atStart => exact ⟨0, 0, by omega, rfl, rfl, hide ⟨rfl, rfl⟩, by omega, by omega⟩
    case round =>
      obtain ⟨i, m, hi, rfl, rfl, H, m0, m1⟩ := hrel
      by_cases hlt : i < s.size
      · by_cases c0 : (s[i].toNat : Int) < 48
        · have HD := hide (dig_no hlt (isD_lo c0))
          have HK := hide (show rdK s.data.toList = false from by unfold rdK; rw [← HT.out]; rw [HD.out]; simp)
          have HF := hide (show rdV s.data.toList = 0 from by unfold rdV; rw [HK.out]; rfl)
          go_wp2
          go_returns
          exact ⟨ret_eq (by rw [HF.out, HK.out]; simp), by go_grown⟩
        · by_cases c1 : (s[i].toNat : Int) > 57
          · have HD := hide (dig_no hlt (isD_hi c1))
            have HK := hide (show rdK s.data.toList = false from by unfold rdK; rw [← HT.out]; rw [HD.out]; simp)
            have HF := hide (show rdV s.data.toList = 0 from by unfold rdV; rw [HK.out]; rfl)
            go_wp2
            go_returns
            exact ⟨ret_eq (by rw [HF.out, HK.out]; simp), by go_grown⟩
          · have HA := hide (all_snoc hlt H.out.2 (by omega) (by omega))
            have HV := hide (num_snoc hlt)
            have hb := num_small (k := 6) HA.out (by omega) (by omega)
            rw [HV.out, ← H.out.1] at hb
            obtain ⟨b0, b1⟩ := hb
            go_wp2
            go_round
            case rel => exact ⟨i + 1, _, by omega, rfl, by go_num, hide ⟨by rw [HV.out, ← H.out.1], HA.out⟩, b0, b1⟩
            case measure => simp [intOf]; omega
      · have HA := hide (show numV s.data.toList = m ∧ s.data.toList.all isD = true from by
          have h := H.out
          rw [take_all _ (by omega)] at h
          exact ⟨h.1.symm, h.2⟩)
        by_cases he : txtL (m) = s.data.toList
        · have HK := hide (show rdK s.data.toList = true from by unfold rdK; rw [← HT.out, HA.out.2, HN.out, HA.out.1, len_list]; simp [he, k3, k4])
          have HF := hide (show rdV s.data.toList = m from by unfold rdV; rw [if_pos HK.out, HN.out, HA.out.1])
          have he2 := txtS_eq he
          clear he
          go_wp2_with (first | (go_at_call 75; refine (l1NumAny_c _ (by omega) (by omega) _).mono ?_; rintro e w1 ⟨rfl, hb⟩; have hT : Below w.heap.size w w1 := keep0 (by first | assumption | go_grown) hb; (try clear hS); have hS := hT; clear hT; have hB := hS; have hzw := hB.size; clear hb))
          go_returns
          exact ⟨ret_eq (by rw [HF.out, HK.out]; simp), by go_grown⟩
        have HK := hide (show rdK s.data.toList = false from by unfold rdK; rw [HN.out, HA.out.1]; simp [he])
        have HF := hide (show rdV s.data.toList = 0 from by unfold rdV; rw [HK.out]; rfl)
        have he2 := txtS_ne he
        clear he
        go_wp2_with (first | (go_at_call 75; refine (l1NumAny_c _ (by omega) (by omega) _).mono ?_; rintro e w1 ⟨rfl, hb⟩; have hT : Below w.heap.size w w1 := keep0 (by first | assumption | go_grown) hb; (try clear hS); have hS := hT; clear hT; have hB := hS; have hzw := hB.size; clear hb))
        go_returns
        exact ⟨ret_eq (by rw [HF.out, HK.out]; simp), by go_grown⟩
  have hn := hide (show ¬ isNeg s.data.toList from fun e => by have e1 := e.1; rw [len_list] at e1; exact z1 e1)
  have HT := hide (show s.data.toList = stripL s.data.toList from by unfold stripL; rw [if_neg hn.out])
  have HN := hide (show rdN s.data.toList = numV s.data.toList from by unfold rdN; rw [if_neg hn.out, ← HT.out])
  rcases k : wi (s.size : Int) 1 6 with _ | _
  · have HK := hide (show rdK s.data.toList = false from by unfold rdK; rw [← HT.out]; rw [decide_eq_false (by rw [len_list]; have := wi_no.1 k; omega)]; rfl)
    have HF := hide (show rdV s.data.toList = 0 from by unfold rdV; rw [HK.out]; rfl)
    go_enter Try.func64, Try.ntmps64
    go_wp2_with (first | (go_at_call 55; refine (l1In_c _ _ _ _).mono ?_; rintro e w1 ⟨rfl, rfl⟩))
    go_returns
    exact ⟨ret_eq (by rw [HF.out, HK.out]; simp), by go_grown⟩
  obtain ⟨k1, k2⟩ := wi_iff.1 k
  have k3 : 1 ≤ s.size := by omega
  have k4 : s.size ≤ 6 := by omega
  go_enter Try.func64, Try.ntmps64
  go_wp2_with (first | (go_at_call 55; refine (l1In_c _ _ _ _).mono ?_; rintro e w1 ⟨rfl, rfl⟩))
  go_loop [5, 6] (fun nv iv => ∃ (i : Nat) (m : Int), i ≤ s.size ∧ nv = .int .i64 m ∧ iv = .int .i64 i ∧ Hid (m = numV (s.data.toList.take i) ∧ (s.data.toList.take i).all isD = true) ∧ 0 ≤ m ∧ m ≤ 999999999) (fun _ iv => s.size - (intOf iv).toNat)
  case atStart => exact ⟨0, 0, by omega, rfl, rfl, hide ⟨rfl, rfl⟩, by omega, by omega⟩
  case round =>
    obtain ⟨i, m, hi, rfl, rfl, H, m0, m1⟩ := hrel
    by_cases hlt : i < s.size
    · by_cases c0 : (s[i].toNat : Int) < 48
      · have HD := hide (dig_no hlt (isD_lo c0))
        have HK := hide (show rdK s.data.toList = false from by unfold rdK; rw [← HT.out]; rw [HD.out]; simp)
        have HF := hide (show rdV s.data.toList = 0 from by unfold rdV; rw [HK.out]; rfl)
        go_wp2
        go_returns
        exact ⟨ret_eq (by rw [HF.out, HK.out]; simp), by go_grown⟩
      · by_cases c1 : (s[i].toNat : Int) > 57
        · have HD := hide (dig_no hlt (isD_hi c1))
          have HK := hide (show rdK s.data.toList = false from by unfold rdK; rw [← HT.out]; rw [HD.out]; simp)
          have HF := hide (show rdV s.data.toList = 0 from by unfold rdV; rw [HK.out]; rfl)
          go_wp2
          go_returns
          exact ⟨ret_eq (by rw [HF.out, HK.out]; simp), by go_grown⟩
        · have HA := hide (all_snoc hlt H.out.2 (by omega) (by omega))
          have HV := hide (num_snoc hlt)
          have hb := num_small (k := 6) HA.out (by omega) (by omega)
          rw [HV.out, ← H.out.1] at hb
          obtain ⟨b0, b1⟩ := hb
          go_wp2
          go_round
          case rel => exact ⟨i + 1, _, by omega, rfl, by go_num, hide ⟨by rw [HV.out, ← H.out.1], HA.out⟩, b0, b1⟩
          case measure => simp [intOf]; omega
    · have HA := hide (show numV s.data.toList = m ∧ s.data.toList.all isD = true from by
        have h := H.out
        rw [take_all _ (by omega)] at h
        exact ⟨h.1.symm, h.2⟩)
      by_cases he : txtL (m) = s.data.toList
      · have HK := hide (show rdK s.data.toList = true from by unfold rdK; rw [← HT.out, HA.out.2, HN.out, HA.out.1, len_list]; simp [he, k3, k4])
        have HF := hide (show rdV s.data.toList = m from by unfold rdV; rw [if_pos HK.out, HN.out, HA.out.1])
        have he2 := txtS_eq he
        clear he
        go_wp2_with (first | (go_at_call 75; refine (l1NumAny_c _ (by omega) (by omega) _).mono ?_; rintro e w1 ⟨rfl, hb⟩; have hT : Below w.heap.size w w1 := keep0 (by first | assumption | go_grown) hb; (try clear hS); have hS := hT; clear hT; have hB := hS; have hzw := hB.size; clear hb))
        go_returns
        exact ⟨ret_eq (by rw [HF.out, HK.out]; simp), by go_grown⟩
      have HK := hide (show rdK s.data.toList = false from by unfold rdK; rw [HN.out, HA.out.1]; simp [he])
      have HF := hide (show rdV s.data.toList = 0 from by unfold rdV; rw [HK.out]; rfl)
      have he2 := txtS_ne he
      clear he
      go_wp2_with (first | (go_at_call 75; refine (l1NumAny_c _ (by omega) (by omega) _).mono ?_; rintro e w1 ⟨rfl, hb⟩; have hT : Below w.heap.size w w1 := keep0 (by first | assumption | go_grown) hb; (try clear hS); have hS := hT; clear hT; have hB := hS; have hzw := hB.size; clear hb))
      go_returns
      exact ⟨ret_eq (by rw [HF.out, HK.out]; simp), by go_grown⟩
end Go.Proofs.Ytpcabjjmphcpeaa
