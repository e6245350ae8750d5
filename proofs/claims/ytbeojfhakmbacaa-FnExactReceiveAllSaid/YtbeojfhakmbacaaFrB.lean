/- Contracts: texts of bits of numbers and of hex texts. -/
import Derived.Test.YtbeojfhakmbacaaFrA
namespace Go.Proofs.Ytbeojfhakmbacaa
open Go.RowKit
theorem bitsFromHex_c (s : ByteArray) (hmax : s.size ≤ 1000000000000) (w : World) : Calls Try.prog 65 #[.string s] w (Gives w (.tuple #[.string (str (hxB s)), .bool (hxK s)])) := by
  by_cases hsz : 16 < s.size
  · have HK := hide (show hxK s = false from by unfold hxK; rw [decide_eq_false (by omega)]; rfl)
    have HB := hide (show hxB s = [] from by unfold hxB; rw [HK.out]; rfl)
    go_enter Try.func65, Try.ntmps65
    go_wp2
    go_returns
    exact ⟨ret_eq (by rw [HK.out, HB.out]; rfl), by go_grown⟩
  have hle : s.size ≤ 16 := by omega
  go_enter Try.func65, Try.ntmps65
  go_wp2
  go_loopw [4, 5] (fun ov iv wr => ∃ (i : Nat) (l : List UInt8), i ≤ s.size ∧ iv = .int .i64 i ∧ ov = .string (str l) ∧ Hid (l = hxA (s.data.toList.take i)) ∧ Hid (hxO (s.data.toList.take i) = true) ∧ Below w.heap.size w wr) (fun _ iv _ => s.size - (intOf iv).toNat)
  case atStart => exact ⟨0, [], by omega, rfl, rfl, hide rfl, hide rfl, Below.refl _ _⟩
  case round =>
    obtain ⟨i, l, hi, rfl, rfl, HL, HO, hB⟩ := hrel
    have hzw : w.heap.size ≤ wr.heap.size := hB.size
    by_cases hlt : i < s.size
    · have hts := take_snoc s i hlt
      have hlen : s.data.toList.length = s.size := by simp
      have hget : s.data.toList[i]'(by omega) = s[i] := rfl
      obtain ⟨d0, d1⟩ := hxd_bd s[i]
      have hdc := hexDigit_c s[i]
      by_cases hd : hxd s[i] < 0
      · have HK := hide (show hxK s = false from by unfold hxK; rw [hxO_no (i := i) (by omega) (by rw [hget]; exact hd)]; simp)
        have HB := hide (show hxB s = [] from by unfold hxB; rw [HK.out]; rfl)
        obtain ⟨d, hdd⟩ : ∃ d, hxd s[i] = d := ⟨_, rfl⟩
        rw [hdd] at hd d0 d1 hdc
        clear hts hlen hget hdd
        go_wp2_with (first | (go_at_call 102; refine (hdc _).mono ?_; rintro e w1 ⟨rfl, rfl⟩))
        go_returns
        exact ⟨ret_eq (by rw [HK.out, HB.out]; rfl), by go_grown⟩
      · have HO2 := hide (hxO_step (l := s.data.toList) (i := i) (by omega) HO.out (by rw [hget]; omega))
        obtain ⟨d, hdd⟩ : ∃ d, hxd s[i] = d := ⟨_, rfl⟩
        have HS := hide (show l ++ bitsL d 4 = hxA (s.data.toList.take (i + 1)) from by rw [hts, hxA_snoc, ← HL.out, hdd])
        have HLL := hide (show l.length ≤ 64 from by rw [HL.out, hxA_len, List.length_take]; omega)
        rw [hdd] at hd d0 d1 hdc
        have hadd : ∀ W, (Op.stringOp .add (str l) (str (bitsL d 4))).run Try.prog W = .ok (.string (str (l ++ bitsL d 4))) W := fun W => by
          rw [run_string_add_sum W _ _ (by rw [str_size, str_size, bitsL_len]; have := HLL.out; omega), str_app]
        clear hts hlen hget hdd
        go_wp2_with (first | (go_at_call 102; refine (hdc _).mono ?_; rintro e w1 ⟨rfl, rfl⟩) | (go_at_call 103; refine (bitsOf_c d 4 (by omega) (by omega) (by omega) _).mono ?_; rintro e w1 ⟨rfl, hb⟩; have hT : Below w.heap.size w w1 := keep0 (by first | assumption | go_grown) hb; (try clear hS); have hS := hT; clear hT; have hB1 := hS; clear hb))
        go_roundw
        case rel => exact ⟨i + 1, _, by omega, by go_num, rfl, HS, HO2, by go_grown⟩
        case measure => simp [intOf]; omega
    · obtain rfl : i = s.size := by omega
      have hl : s.data.toList.take s.size = s.data.toList := List.take_of_length_le (by simp)
      have HK := hide (show hxK s = true from by unfold hxK; rw [decide_eq_true hle, ← hl, HO.out]; rfl)
      have HB := hide (show hxB s = l from by unfold hxB; rw [if_pos HK.out, HL.out, hl])
      clear hl
      go_wp2
      go_returns
      exact ⟨ret_eq (by rw [HK.out, HB.out]; rfl), hB⟩
theorem l2Of_c (n : Int) (k : Nat) (h0 : 0 ≤ n) (h1 : n ≤ 1000000000000) (h2 : k ≤ 200) (w : World) : Calls Try.prog 116 #[.int .i64 n, .int .i64 k] w fun r' w' => r' = .returned (.string (str (bitsL n k))) ∧ w = w' := by
  go_enter Try.func116, Try.ntmps116
  go_wp2
  go_loop [0, 5, 6] (fun nv sv iv => ∃ (i : Nat) (m : Int) (l : List UInt8), i ≤ k ∧ nv = .int .i64 m ∧ sv = .string (str l) ∧ iv = .int .i64 i ∧ Hid (m = n / 2 ^ i ∧ l = bitsL n i) ∧ 0 ≤ m ∧ m ≤ n ∧ l.length ≤ 200) (fun _ _ iv => k - (intOf iv).toNat)
  case atStart => exact ⟨0, n, [], by omega, rfl, rfl, rfl, hide ⟨by simp, rfl⟩, h0, by omega, by simp⟩
  case round =>
    obtain ⟨i, m, l, hi, rfl, rfl, rfl, H, m0, m1, hl⟩ := hrel
    have e1 : m.tmod 2 = m % 2 := Int.tmod_eq_emod_of_nonneg m0
    have e2 : m.tdiv 2 = m / 2 := Int.tdiv_eq_ediv_of_nonneg m0
    by_cases hlt : i < k
    · have HS := hide (show m / 2 = n / 2 ^ (i + 1) ∧ (if m % 2 = 0 then 48 else 49) :: l = bitsL n (i + 1) from by
        rw [H.out.1, div_pow_succ, H.out.2, bitsL]; exact ⟨rfl, rfl⟩)
      have hl2 : l.length + 1 ≤ 200 := by have := congrArg List.length HS.out.2; rw [List.length_cons, bitsL_len] at this; omega
      have hadd : ∀ (x : ByteArray) (c : UInt8) W, x = str [c] → (Op.stringOp .add x (str l)).run Try.prog W = .ok (.string (str (c :: l))) W := fun x c W e => by
        rw [e, run_string_add_sum W _ _ (by rw [str_size, str_size]; simp; omega), str_app]; rfl
      rcases hp : decide (m % 2 = 0) with _ | _
      · have hp := of_decide_eq_false hp
        have hm : m % 2 = 1 := by omega
        rw [if_neg hp] at HS
        have h49 := fun W => hadd (({ data := #[48, 49] } : ByteArray).extract 1 2) 49 W (by decide)
        clear hadd hp
        go_wp2
        go_round
        case rel => exact ⟨i + 1, m / 2, 49 :: l, by omega, by first | rfl | go_num, rfl, by go_num, HS, by omega, by omega, by simp; omega⟩
        case measure => simp [intOf]; omega
      · have hp := of_decide_eq_true hp
        rw [if_pos hp] at HS
        have h48 := fun W => hadd (({ data := #[48, 49] } : ByteArray).extract 0 1) 48 W (by decide)
        clear hadd
        go_wp2
        go_round
        case rel => exact ⟨i + 1, m / 2, 48 :: l, by omega, by first | rfl | go_num, rfl, by go_num, HS, by omega, by omega, by simp; omega⟩
        case measure => simp [intOf]; omega
    · obtain rfl : i = k := by omega
      go_wp2
      go_ret
      exact ⟨ret_eq (by rw [← H.out.2]; rfl), rfl⟩
theorem l2FromHex_c (s : ByteArray) (hmax : s.size ≤ 1000000000000) (w : World) : Calls Try.prog 94 #[.string s] w (Gives w (.tuple #[.string (str (hxB s)), .bool (hxK s)])) := by
  by_cases hsz : 16 < s.size
  · have HK := hide (show hxK s = false from by unfold hxK; rw [decide_eq_false (by omega)]; rfl)
    have HB := hide (show hxB s = [] from by unfold hxB; rw [HK.out]; rfl)
    go_enter Try.func94, Try.ntmps94
    go_wp2
    go_returns
    exact ⟨ret_eq (by rw [HK.out, HB.out]; rfl), by go_grown⟩
  have hle : s.size ≤ 16 := by omega
  go_enter Try.func94, Try.ntmps94
  rw [← show hexS = { data := #[48, 49, 50, 51, 52, 53, 54, 55, 56, 57, 65, 66, 67, 68, 69, 70] } from rfl]
  have hhz := hexS_size
  obtain ⟨S, hS⟩ : ∃ S, hexS = S := ⟨_, rfl⟩
  have HE := hide (fun (i : Nat) (h : i < S.size) => (show (S[i].toNat : Int) = (hexL.getD i 0).toNat from by subst hS; rw [hexS_at h]))
  rw [hS] at hhz ⊢
  go_wp2
  go_loopw [4, 5] (fun ov iv wr => ∃ (i : Nat) (l : List UInt8), i ≤ s.size ∧ iv = .int .i64 i ∧ ov = .string (str l) ∧ Hid (l = hxA (s.data.toList.take i)) ∧ Hid (hxO (s.data.toList.take i) = true) ∧ Below w.heap.size w wr) (fun _ iv _ => s.size - (intOf iv).toNat)
  case atStart => exact ⟨0, [], by omega, rfl, rfl, hide rfl, hide rfl, Below.refl _ _⟩
  case round =>
    obtain ⟨i, l, hi, rfl, rfl, HL, HO, hB⟩ := hrel
    have hzw : w.heap.size ≤ wr.heap.size := hB.size
    by_cases hlt : i < s.size
    · have hts := take_snoc s i hlt
      have hlen : s.data.toList.length = s.size := by simp
      have hget : s.data.toList[i]'(by omega) = s[i] := rfl
      obtain ⟨d0, d1⟩ := hxd_bd s[i]
      go_wp2
      go_loopw [6, 7] (fun nv kv wx => ∃ (k : Nat), k ≤ 16 ∧ kv = .int .i64 k ∧ nv = .int .i64 (hxp s[i] k) ∧ Below w.heap.size w wx) (fun _ kv _ => 16 - (intOf kv).toNat)
      case atStart => exact ⟨0, by omega, rfl, rfl, hB⟩
      case round =>
        obtain ⟨k, hk, rfl, rfl, hB⟩ := hrel
        have hzw : w.heap.size ≤ wr.heap.size := hB.size
        by_cases hkl : k < 16
        · have hls : k < S.size := by omega
          have hc := HE.out k hls
          by_cases he : hexL.getD k 0 = s[i]
          · have HF := hide (show hxp s[i] (k + 1) = k from by rw [hxp, if_pos he])
            rw [he] at hc
            clear he hts hlen hget d0 d1
            go_wp2
            refine wp_region_det (fun w' => Below w.heap.size w w') (by kernel_rfl) (by kernel_rfl) (by first | (with_reducible assumption) | go_grown) ?_
            repeat (first
              | ((refine wpDet_skip (by rfl) ?_); simp only [Act.put, List.setIfInBounds_toArray, List.set_cons_zero, List.set_cons_succ])
              | ((refine wpDet_val (v := ?_) (by rfl) (fun w hS => ?_) ?_); rotate_left; (focus ((try dsimp only at hS); go_simp; (try (with_reducible rfl)); done)); simp only [Act.put, List.setIfInBounds_toArray, List.set_cons_zero, List.set_cons_succ]))
            refine wpDet_nil ?_
            intro wd hS
            have hT : Below w.heap.size w wd := hS
            clear hS
            have hS := hT
            have hB := hT
            have hzw : w.heap.size ≤ wd.heap.size := hB.size
            go_wp2
            go_roundw
            case rel => exact ⟨k + 1, by omega, by go_num, by rw [HF.out], by go_grown⟩
            case measure => simp [intOf]; omega
          · have HF := hide (show hxp s[i] (k + 1) = hxp s[i] k from by rw [hxp, if_neg he])
            have hne : ¬ (S[k].toNat : Int) = (s[i].toNat : Int) := by
              rw [hc]; intro e
              exact he (UInt8.toNat_inj.1 (by omega))
            clear he hc hts hlen hget d0 d1
            go_wp2
            refine wp_region_det (fun w' => Below w.heap.size w w') (by kernel_rfl) (by kernel_rfl) (by first | (with_reducible assumption) | go_grown) ?_
            repeat (first
              | ((refine wpDet_skip (by rfl) ?_); simp only [Act.put, List.setIfInBounds_toArray, List.set_cons_zero, List.set_cons_succ])
              | ((refine wpDet_val (v := ?_) (by rfl) (fun w hS => ?_) ?_); rotate_left; (focus ((try dsimp only at hS); go_simp; (try (with_reducible rfl)); done)); simp only [Act.put, List.setIfInBounds_toArray, List.set_cons_zero, List.set_cons_succ]))
            refine wpDet_nil ?_
            intro wd hS
            have hT : Below w.heap.size w wd := hS
            clear hS
            have hS := hT
            have hB := hT
            have hzw : w.heap.size ≤ wd.heap.size := hB.size
            go_wp2
            go_roundw
            case rel => exact ⟨k + 1, by omega, by go_num, by rw [HF.out], by go_grown⟩
            case measure => simp [intOf]; omega
        obtain rfl : k = 16 := by omega
        rw [show hxp s[i] 16 = hxd s[i] from rfl]
        by_cases hd : hxd s[i] < 0
        · have HK := hide (show hxK s = false from by unfold hxK; rw [hxO_no (i := i) (by omega) (by rw [hget]; exact hd)]; simp)
          have HB := hide (show hxB s = [] from by unfold hxB; rw [HK.out]; rfl)
          obtain ⟨d, hdd⟩ : ∃ d, hxd s[i] = d := ⟨_, rfl⟩
          rw [hdd] at hd d0 d1 ⊢
          clear hts hlen hget hdd
          go_wp2
          go_returns
          exact ⟨ret_eq (by rw [HK.out, HB.out]; rfl), by go_grown⟩
        · have HO2 := hide (hxO_step (l := s.data.toList) (i := i) (by omega) HO.out (by rw [hget]; omega))
          obtain ⟨d, hdd⟩ : ∃ d, hxd s[i] = d := ⟨_, rfl⟩
          have HS := hide (show l ++ bitsL d 4 = hxA (s.data.toList.take (i + 1)) from by rw [hts, hxA_snoc, ← HL.out, hdd])
          have HLL := hide (show l.length ≤ 64 from by rw [HL.out, hxA_len, List.length_take]; omega)
          rw [hdd] at hd d0 d1 ⊢
          have hadd : ∀ W, (Op.stringOp .add (str l) (str (bitsL d 4))).run Try.prog W = .ok (.string (str (l ++ bitsL d 4))) W := fun W => by
            rw [run_string_add_sum W _ _ (by rw [str_size, str_size, bitsL_len]; have := HLL.out; omega), str_app]
          clear hts hlen hget hdd
          go_wp2_with (first | (go_at_call 116; refine (l2Of_c d 4 (by omega) (by omega) (by omega) _).mono ?_; rintro e w1 ⟨rfl, rfl⟩))
          go_roundw
          case rel => exact ⟨i + 1, _, by omega, by go_num, rfl, HS, HO2, by go_grown⟩
          case measure => simp [intOf]; omega
    · obtain rfl : i = s.size := by omega
      have hl : s.data.toList.take s.size = s.data.toList := List.take_of_length_le (by simp)
      have HK := hide (show hxK s = true from by unfold hxK; rw [decide_eq_true hle, ← hl, HO.out]; rfl)
      have HB := hide (show hxB s = l from by unfold hxB; rw [if_pos HK.out, HL.out, hl])
      clear hl
      go_wp2
      go_returns
      exact ⟨ret_eq (by rw [HK.out, HB.out]; rfl), hB⟩
theorem isBits_c (s : ByteArray) (hb : Hid (isB s.data.toList)) (hs : s.size ≤ 64) (w : World) : Calls Try.prog 121 #[.string s] w fun r' w' => r' = .returned (.bool true) ∧ w = w' := by
  go_enter Try.func121, Try.ntmps121
  go_wp2
  go_loop [3] (fun iv => ∃ (i : Nat), i ≤ s.size ∧ iv = .int .i64 i) (fun iv => s.size - (intOf iv).toNat)
  case atStart => exact ⟨0, by omega, rfl⟩
  case round =>
    obtain ⟨i, hi, rfl⟩ := hrel
    by_cases hlt : i < s.size
    · rcases isB_at hb.out hlt with hc | hc
      all_goals
        go_wp2
        go_round
        case rel => exact ⟨i + 1, by omega, by go_num⟩
        case measure => simp [intOf]; omega
    · go_wp2
      go_ret
      exact ⟨ret_eq rfl, rfl⟩
theorem isCarrier_c (s : ByteArray) (hb : Hid (isB s.data.toList)) (h12 : 12 ≤ s.size) (hs : s.size ≤ 64) (w : World) : Calls Try.prog 104 #[.string s] w fun r' w' => r' = .returned (.bool true) ∧ w = w' := by
  go_enter Try.func104, Try.ntmps104
  go_wp2_with (first | (go_at_call 121; refine (isBits_c s hb hs _).mono ?_; rintro e w1 ⟨rfl, rfl⟩))
  go_ret
  exact ⟨ret_eq (by simp; omega), rfl⟩
end Go.Proofs.Ytbeojfhakmbacaa
