/- What is proved here is used by the law below: contracts of functions and plain lemmas (part 4 of 17). Their conditions stand in each. -/
import Derived.Lib.OthersKept
import Derived.Test.YtbeojfhakmbacaaFinRjaa
import Derived.Test.YtbeojfhakmbacaaFinRjab
import Derived.Test.YtbeojfhakmbacaaFinRjac
namespace Go.Proofs.Ytbeojfhakmbacaa
open Go.RowKit
theorem isB_at {s : ByteArray} (h : isB s.data.toList) {i : Nat} (hi : i < s.size) : (s[i].toNat : Int) = 48 ∨ (s[i].toNat : Int) = 49 := by
  have h1 : s[i] ∈ s.data.toList := by
    have : s.data.toList[i]'(by simpa using hi) = s[i] := rfl
    rw [← this]; exact List.getElem_mem _
  rcases h _ h1 with e | e
  · left; rw [e]; rfl
  · right; rw [e]; rfl
theorem isB_byte {s : ByteArray} (h : isB s.data.toList) {i : Nat} (hi : i < s.size) : s[i] = 48 ∨ s[i] = 49 := by
  have h1 : s[i] ∈ s.data.toList := by
    have : s.data.toList[i]'(by simpa using hi) = s[i] := rfl
    rw [← this]; exact List.getElem_mem _
  exact h _ h1
theorem num_bd30 {s : ByteArray} (h : isB s.data.toList) (hs : s.size ≤ 30) (k : Nat) : 0 ≤ numL (s.data.toList.take k) ∧ numL (s.data.toList.take k) ≤ 1073741823 := by
  obtain ⟨h0, h1⟩ := numL_bd (isB_take h k)
  have hl : (s.data.toList.take k).length ≤ 30 := by simp; omega
  have h9 : (2 : Nat) ^ (s.data.toList.take k).length ≤ 2 ^ 30 := Nat.pow_le_pow_right (by omega) hl
  have e9 : (((2 : Nat) ^ (s.data.toList.take k).length : Nat) : Int) = (2 : Int) ^ (s.data.toList.take k).length := by simp
  omega
theorem numberOf_c (s : ByteArray) (hb : Hid (isB s.data.toList)) (hs : s.size ≤ 30) (w : World) : Calls Try.prog 107 #[.string s] w fun r' w' => r' = .returned (.int .i64 (numL s.data.toList)) ∧ w = w' := by
  go_enter Try.func107, Try.ntmps107
  go_wp2
  go_loop [3, 4] (fun nv iv => ∃ (i : Nat) (m : Int), i ≤ s.size ∧ nv = .int .i64 m ∧ iv = .int .i64 i ∧ Hid (m = numL (s.data.toList.take i)) ∧ 0 ≤ m ∧ m ≤ 1073741823) (fun _ iv => s.size - (intOf iv).toNat)
  case atStart => exact ⟨0, 0, by omega, rfl, rfl, hide rfl, by omega, by omega⟩
  case round =>
    obtain ⟨i, m, hi, rfl, rfl, H, m0, m1⟩ := hrel
    by_cases hlt : i < s.size
    · have hts := take_snoc s i hlt
      obtain ⟨n0, n1⟩ := num_bd30 hb.out hs (i + 1)
      rcases isB_at hb.out hlt with hc | hc
      · have HS := hide (show numL (s.data.toList.take (i + 1)) = 2 * m from by rw [hts, numL_snoc, H.out, hc]; omega)
        rw [HS.out] at n1
        clear hts n0
        go_wp2
        go_round
        case rel => exact ⟨i + 1, 2 * m, by omega, by go_num, by go_num, hide HS.out.symm, by omega, by omega⟩
        case measure => simp [intOf]; omega
      · have HS := hide (show numL (s.data.toList.take (i + 1)) = 2 * m + 1 from by rw [hts, numL_snoc, H.out, hc]; omega)
        rw [HS.out] at n1
        clear hts n0
        go_wp2
        go_round
        case rel => exact ⟨i + 1, 2 * m + 1, by omega, by go_num, by go_num, hide HS.out.symm, by omega, by omega⟩
        case measure => simp [intOf]; omega
    · go_wp2
      go_ret
      exact ⟨ret_eq (int_eq (by rw [H.out, List.take_of_length_le (by simp; omega)])), rfl⟩
theorem l2Number_c (s : ByteArray) (hb : Hid (isB s.data.toList)) (hs : s.size ≤ 30) (w : World) : Calls Try.prog 117 #[.string s] w fun r' w' => r' = .returned (.int .i64 (numL s.data.toList)) ∧ w = w' := by
  go_enter Try.func117, Try.ntmps117
  go_wp2
  go_loop [3, 4] (fun nv iv => ∃ (i : Nat) (m : Int), i ≤ s.size ∧ nv = .int .i64 m ∧ iv = .int .i64 i ∧ Hid (m = numL (s.data.toList.take i)) ∧ 0 ≤ m ∧ m ≤ 1073741823) (fun _ iv => s.size - (intOf iv).toNat)
  case atStart => exact ⟨0, 0, by omega, rfl, rfl, hide rfl, by omega, by omega⟩
  case round =>
    obtain ⟨i, m, hi, rfl, rfl, H, m0, m1⟩ := hrel
    by_cases hlt : i < s.size
    · have hts := take_snoc s i hlt
      obtain ⟨n0, n1⟩ := num_bd30 hb.out hs (i + 1)
      rcases isB_at hb.out hlt with hc | hc
      · have HS := hide (show numL (s.data.toList.take (i + 1)) = 2 * m from by rw [hts, numL_snoc, H.out, hc]; omega)
        rw [HS.out] at n1
        clear hts n0
        have e1 : IntKind.i64.wrap (2 * m + 48) = 2 * m + 48 := IntWalk.i64_in _ (by omega)
        have e2 : IntKind.i64.wrap (2 * m + 48 - 48) = 2 * m := by rw [IntWalk.i64_in _ (by omega)]; omega
        go_wp2
        go_round
        case rel => exact ⟨i + 1, 2 * m, by omega, by go_num, by go_num, hide HS.out.symm, by omega, by omega⟩
        case measure => simp [intOf]; omega
      · have HS := hide (show numL (s.data.toList.take (i + 1)) = 2 * m + 1 from by rw [hts, numL_snoc, H.out, hc]; omega)
        rw [HS.out] at n1
        clear hts n0
        have e1 : IntKind.i64.wrap (2 * m + 49) = 2 * m + 49 := IntWalk.i64_in _ (by omega)
        have e2 : IntKind.i64.wrap (2 * m + 49 - 48) = 2 * m + 1 := by rw [IntWalk.i64_in _ (by omega)]; omega
        go_wp2
        go_round
        case rel => exact ⟨i + 1, 2 * m + 1, by omega, by go_num, by go_num, hide HS.out.symm, by omega, by omega⟩
        case measure => simp [intOf]; omega
    · go_wp2
      go_ret
      exact ⟨ret_eq (int_eq (by rw [H.out, List.take_of_length_le (by simp; omega)])), rfl⟩
def hexS : ByteArray := { data := #[48, 49, 50, 51, 52, 53, 54, 55, 56, 57, 65, 66, 67, 68, 69, 70] }
theorem hexS_size : hexS.size = 16 := rfl
theorem hexS_at {i : Nat} (h : i < hexS.size) : hexS[i] = hexL.getD i 0 := by
  have h2 : i < 16 := h
  have e : ∀ j : Fin 16, hexS[j.1]'(by have := j.2; rw [hexS_size]; omega) = hexL.getD j.1 0 := by decide
  exact e ⟨i, h2⟩
theorem hexDigit_c (c : UInt8) (w : World) : Calls Try.prog 102 #[.int .u8 (c.toNat : Int)] w fun r' w' => r' = .returned (.int .i64 (hxd c)) ∧ w = w' := by
  go_enter Try.func102, Try.ntmps102
  rw [← show hexS = { data := #[48, 49, 50, 51, 52, 53, 54, 55, 56, 57, 65, 66, 67, 68, 69, 70] } from rfl]
  have hsz := hexS_size
  obtain ⟨S, hS⟩ : ∃ S, hexS = S := ⟨_, rfl⟩
  have HE := hide (fun (i : Nat) (h : i < S.size) => (show (S[i].toNat : Int) = (hexL.getD i 0).toNat from by subst hS; rw [hexS_at h]))
  rw [hS] at hsz ⊢
  go_wp2
  go_loop [3] (fun iv => ∃ (i : Nat), i ≤ 16 ∧ iv = .int .i64 i ∧ Hid (∀ j, j < i → hexL.getD j 0 ≠ c)) (fun iv => 16 - (intOf iv).toNat)
  case atStart => exact ⟨0, by omega, rfl, hide fun j hj => absurd hj (by omega)⟩
  case round =>
    obtain ⟨i, hi, rfl, H⟩ := hrel
    by_cases hlt : i < 16
    · have hls : i < S.size := by omega
      have hc := HE.out i hls
      by_cases he : hexL.getD i 0 = c
      · have HF := hide (show hxd c = i from by rw [← he]; exact hxd_at hlt)
        rw [he] at hc
        clear he
        go_wp2
        go_ret
        exact ⟨ret_eq (int_eq (by rw [HF.out])), rfl⟩
      · have hne : ¬ (S[i].toNat : Int) = (c.toNat : Int) := by
          rw [hc]; intro e
          exact he (UInt8.toNat_inj.1 (by omega))
        have H2 := hide (show ∀ j, j < i + 1 → hexL.getD j 0 ≠ c from fun j hj => by
          by_cases e : j = i
          · subst e; exact he
          · exact H.out j (by omega))
        clear he hc
        go_wp2
        go_round
        case rel => exact ⟨i + 1, by omega, by go_num, H2⟩
        case measure => simp [intOf]; omega
    · obtain rfl : i = 16 := by omega
      have HF := hide (hxd_none H.out)
      go_wp2
      go_ret
      exact ⟨ret_eq (int_eq (by rw [HF.out])), rfl⟩
end Go.Proofs.Ytbeojfhakmbacaa
namespace Go.Proofs.Ytbeojfhakmbacaa
open Go.RowKit
theorem bitsFromHex_c (s : ByteArray) (hmax : s.size ≤ 1000000000000) (w : World) : Calls Try.prog 65 #[.string s] w (Gives w (.tuple #[.string (str (hxB s)), .bool (hxK s)])) := by
  by_cases hsz : 16 < s.size
  · have HK := hide (show hxK s = false from by unfold hxK; rw [decide_eq_false (by omega)]; rfl)
    have HB := hide (show hxB s = [] from by unfold hxB; rw [HK.out]; rfl)
    go_enter Try.func65, Try.ntmps65
    go_wp2
    go_returns
    exact ⟨ret_eq (by rw [HK.out, HB.out]; rfl), by go_grown⟩
  have hle : s.size ≤ 16 := by omega
  go_enter Try.func65, Try.ntmps65
  go_wp2
  go_loopw [4, 5] (fun ov iv wr => ∃ (i : Nat) (l : List UInt8), i ≤ s.size ∧ iv = .int .i64 i ∧ ov = .string (str l) ∧ Hid (l = hxA (s.data.toList.take i)) ∧ Hid (hxO (s.data.toList.take i) = true) ∧ Below w.heap.size w wr) (fun _ iv _ => s.size - (intOf iv).toNat)
  case atStart => exact ⟨0, [], by omega, rfl, rfl, hide rfl, hide rfl, Below.refl _ _⟩
  case round =>
    obtain ⟨i, l, hi, rfl, rfl, HL, HO, hB⟩ := hrel
    have hzw : w.heap.size ≤ wr.heap.size := hB.size
    by_cases hlt : i < s.size
    · have hts := take_snoc s i hlt
      have hlen : s.data.toList.length = s.size := by simp
      have hget : s.data.toList[i]'(by omega) = s[i] := rfl
      obtain ⟨d0, d1⟩ := hxd_bd s[i]
      have hdc := hexDigit_c s[i]
      by_cases hd : hxd s[i] < 0
      · have HK := hide (show hxK s = false from by unfold hxK; rw [hxO_no (i := i) (by omega) (by rw [hget]; exact hd)]; simp)
        have HB := hide (show hxB s = [] from by unfold hxB; rw [HK.out]; rfl)
        obtain ⟨d, hdd⟩ : ∃ d, hxd s[i] = d := ⟨_, rfl⟩
        rw [hdd] at hd d0 d1 hdc
        clear hts hlen hget hdd
        go_wp2_with (first | (go_at_call 102; refine (hdc _).mono ?_; rintro e w1 ⟨rfl, rfl⟩))
        go_returns
        exact ⟨ret_eq (by rw [HK.out, HB.out]; rfl), by go_grown⟩
      · have HO2 := hide (hxO_step (l := s.data.toList) (i := i) (by omega) HO.out (by rw [hget]; omega))
        obtain ⟨d, hdd⟩ : ∃ d, hxd s[i] = d := ⟨_, rfl⟩
        have HS := hide (show l ++ bitsL d 4 = hxA (s.data.toList.take (i + 1)) from by rw [hts, hxA_snoc, ← HL.out, hdd])
        have HLL := hide (show l.length ≤ 64 from by rw [HL.out, hxA_len, List.length_take]; omega)
        rw [hdd] at hd d0 d1 hdc
        have hadd : ∀ W, (Op.stringOp .add (str l) (str (bitsL d 4))).run Try.prog W = .ok (.string (str (l ++ bitsL d 4))) W := fun W => by
          rw [run_string_add_sum W _ _ (by rw [str_size, str_size, bitsL_len]; have := HLL.out; omega), str_app]
        clear hts hlen hget hdd
        go_wp2_with (first | (go_at_call 102; refine (hdc _).mono ?_; rintro e w1 ⟨rfl, rfl⟩) | (go_at_call 103; refine (bitsOf_c d 4 (by omega) (by omega) (by omega) _).mono ?_; rintro e w1 ⟨rfl, hb⟩; have hT : Below w.heap.size w w1 := keep0 (by first | assumption | go_grown) hb; (try clear hS); have hS := hT; clear hT; have hB1 := hS; clear hb))
        go_roundw
        case rel => exact ⟨i + 1, _, by omega, by go_num, rfl, HS, HO2, by go_grown⟩
        case measure => simp [intOf]; omega
    · obtain rfl : i = s.size := by omega
      have hl : s.data.toList.take s.size = s.data.toList := List.take_of_length_le (by simp)
      have HK := hide (show hxK s = true from by unfold hxK; rw [decide_eq_true hle, ← hl, HO.out]; rfl)
      have HB := hide (show hxB s = l from by unfold hxB; rw [if_pos HK.out, HL.out, hl])
      clear hl
      go_wp2
      go_returns
      exact ⟨ret_eq (by rw [HK.out, HB.out]; rfl), hB⟩
theorem l2Of_c (n : Int) (k : Nat) (h0 : 0 ≤ n) (h1 : n ≤ 1000000000000) (h2 : k ≤ 200) (w : World) : Calls Try.prog 116 #[.int .i64 n, .int .i64 k] w fun r' w' => r' = .returned (.string (str (bitsL n k))) ∧ w = w' := by
  go_enter Try.func116, Try.ntmps116
  go_wp2
  go_loop [0, 5, 6] (fun nv sv iv => ∃ (i : Nat) (m : Int) (l : List UInt8), i ≤ k ∧ nv = .int .i64 m ∧ sv = .string (str l) ∧ iv = .int .i64 i ∧ Hid (m = n / 2 ^ i ∧ l = bitsL n i) ∧ 0 ≤ m ∧ m ≤ n ∧ l.length ≤ 200) (fun _ _ iv => k - (intOf iv).toNat)
  case atStart => exact ⟨0, n, [], by omega, rfl, rfl, rfl, hide ⟨by simp, rfl⟩, h0, by omega, by simp⟩
  case round =>
    obtain ⟨i, m, l, hi, rfl, rfl, rfl, H, m0, m1, hl⟩ := hrel
    have e1 : m.tmod 2 = m % 2 := Int.tmod_eq_emod_of_nonneg m0
    have e2 : m.tdiv 2 = m / 2 := Int.tdiv_eq_ediv_of_nonneg m0
    by_cases hlt : i < k
    · have HS := hide (show m / 2 = n / 2 ^ (i + 1) ∧ (if m % 2 = 0 then 48 else 49) :: l = bitsL n (i + 1) from by
        rw [H.out.1, div_pow_succ, H.out.2, bitsL]; exact ⟨rfl, rfl⟩)
      have hl2 : l.length + 1 ≤ 200 := by have := congrArg List.length HS.out.2; rw [List.length_cons, bitsL_len] at this; omega
      have hadd : ∀ (x : ByteArray) (c : UInt8) W, x = str [c] → (Op.stringOp .add x (str l)).run Try.prog W = .ok (.string (str (c :: l))) W := fun x c W e => by
        rw [e, run_string_add_sum W _ _ (by rw [str_size, str_size]; simp; omega), str_app]; rfl
      rcases hp : decide (m % 2 = 0) with _ | _
      · have hp := of_decide_eq_false hp
        have hm : m % 2 = 1 := by omega
        rw [if_neg hp] at HS
        have h49 := fun W => hadd (({ data := #[48, 49] } : ByteArray).extract 1 2) 49 W (by decide)
        clear hadd hp
        go_wp2
        go_round
        case rel => exact ⟨i + 1, m / 2, 49 :: l, by omega, by first | rfl | go_num, rfl, by go_num, HS, by omega, by omega, by simp; omega⟩
        case measure => simp [intOf]; omega
      · have hp := of_decide_eq_true hp
        rw [if_pos hp] at HS
        have h48 := fun W => hadd (({ data := #[48, 49] } : ByteArray).extract 0 1) 48 W (by decide)
        clear hadd
        go_wp2
        go_round
        case rel => exact ⟨i + 1, m / 2, 48 :: l, by omega, by first | rfl | go_num, rfl, by go_num, HS, by omega, by omega, by simp; omega⟩
        case measure => simp [intOf]; omega
    · obtain rfl : i = k := by omega
      go_wp2
      go_ret
      exact ⟨ret_eq (by rw [← H.out.2]; rfl), rfl⟩
theorem l2FromHex_c (s : ByteArray) (hmax : s.size ≤ 1000000000000) (w : World) : Calls Try.prog 94 #[.string s] w (Gives w (.tuple #[.string (str (hxB s)), .bool (hxK s)])) := by
  by_cases hsz : 16 < s.size
  · have HK := hide (show hxK s = false from by unfold hxK; rw [decide_eq_false (by omega)]; rfl)
    have HB := hide (show hxB s = [] from by unfold hxB; rw [HK.out]; rfl)
    go_enter Try.func94, Try.ntmps94
    go_wp2
    go_returns
    exact ⟨ret_eq (by rw [HK.out, HB.out]; rfl), by go_grown⟩
  have hle : s.size ≤ 16 := by omega
  go_enter Try.func94, Try.ntmps94
  rw [← show hexS = { data := #[48, 49, 50, 51, 52, 53, 54, 55, 56, 57, 65, 66, 67, 68, 69, 70] } from rfl]
  have hhz := hexS_size
  obtain ⟨S, hS⟩ : ∃ S, hexS = S := ⟨_, rfl⟩
  have HE := hide (fun (i : Nat) (h : i < S.size) => (show (S[i].toNat : Int) = (hexL.getD i 0).toNat from by subst hS; rw [hexS_at h]))
  rw [hS] at hhz ⊢
  go_wp2
  go_loopw [4, 5] (fun ov iv wr => ∃ (i : Nat) (l : List UInt8), i ≤ s.size ∧ iv = .int .i64 i ∧ ov = .string (str l) ∧ Hid (l = hxA (s.data.toList.take i)) ∧ Hid (hxO (s.data.toList.take i) = true) ∧ Below w.heap.size w wr) (fun _ iv _ => s.size - (intOf iv).toNat)
  case atStart => exact ⟨0, [], by omega, rfl, rfl, hide rfl, hide rfl, Below.refl _ _⟩
  case round =>
    obtain ⟨i, l, hi, rfl, rfl, HL, HO, hB⟩ := hrel
    have hzw : w.heap.size ≤ wr.heap.size := hB.size
    by_cases hlt : i < s.size
    · have hts := take_snoc s i hlt
      have hlen : s.data.toList.length = s.size := by simp
      have hget : s.data.toList[i]'(by omega) = s[i] := rfl
      obtain ⟨d0, d1⟩ := hxd_bd s[i]
      go_wp2
      go_loopw [6, 7] (fun nv kv wx => ∃ (k : Nat), k ≤ 16 ∧ kv = .int .i64 k ∧ nv = .int .i64 (hxp s[i] k) ∧ Below w.heap.size w wx) (fun _ kv _ => 16 - (intOf kv).toNat)
      case atStart => exact ⟨0, by omega, rfl, rfl, hB⟩
      case round =>
        obtain ⟨k, hk, rfl, rfl, hB⟩ := hrel
        have hzw : w.heap.size ≤ wr.heap.size := hB.size
        by_cases hkl : k < 16
        · have hls : k < S.size := by omega
          have hc := HE.out k hls
          by_cases he : hexL.getD k 0 = s[i]
          · have HF := hide (show hxp s[i] (k + 1) = k from by rw [hxp, if_pos he])
            rw [he] at hc
            clear he hts hlen hget d0 d1
            go_wp2
            refine wp_region_det (fun w' => Below w.heap.size w w') (by kernel_rfl) (by kernel_rfl) (by first | (with_reducible assumption) | go_grown) ?_
            repeat (first
              | ((refine wpDet_skip (by rfl) ?_); simp only [Act.put, zp1, zp2, zp3])
              | ((refine wpDet_val (v := ?_) (by rfl) (fun w hS => ?_) ?_); rotate_left; (focus ((try dsimp only at hS); go_simp; (try (with_reducible rfl)); done)); simp only [Act.put, zp1, zp2, zp3]))
            refine wpDet_nil ?_
            intro wd hS
            have hT : Below w.heap.size w wd := hS
            clear hS
            have hS := hT
            have hB := hT
            have hzw : w.heap.size ≤ wd.heap.size := hB.size
            go_wp2
            go_roundw
            case rel => exact ⟨k + 1, by omega, by go_num, by rw [HF.out], by go_grown⟩
            case measure => simp [intOf]; omega
          · have HF := hide (show hxp s[i] (k + 1) = hxp s[i] k from by rw [hxp, if_neg he])
            have hne : ¬ (S[k].toNat : Int) = (s[i].toNat : Int) := by
              rw [hc]; intro e
              exact he (UInt8.toNat_inj.1 (by omega))
            clear he hc hts hlen hget d0 d1
            go_wp2
            refine wp_region_det (fun w' => Below w.heap.size w w') (by kernel_rfl) (by kernel_rfl) (by first | (with_reducible assumption) | go_grown) ?_
            repeat (first
              | ((refine wpDet_skip (by rfl) ?_); simp only [Act.put, zp1, zp2, zp3])
              | ((refine wpDet_val (v := ?_) (by rfl) (fun w hS => ?_) ?_); rotate_left; (focus ((try dsimp only at hS); go_simp; (try (with_reducible rfl)); done)); simp only [Act.put, zp1, zp2, zp3]))
            refine wpDet_nil ?_
            intro wd hS
            have hT : Below w.heap.size w wd := hS
            clear hS
            have hS := hT
            have hB := hT
            have hzw : w.heap.size ≤ wd.heap.size := hB.size
            go_wp2
            go_roundw
            case rel => exact ⟨k + 1, by omega, by go_num, by rw [HF.out], by go_grown⟩
            case measure => simp [intOf]; omega
        obtain rfl : k = 16 := by omega
        rw [show hxp s[i] 16 = hxd s[i] from rfl]
        by_cases hd : hxd s[i] < 0
        · have HK := hide (show hxK s = false from by unfold hxK; rw [hxO_no (i := i) (by omega) (by rw [hget]; exact hd)]; simp)
          have HB := hide (show hxB s = [] from by unfold hxB; rw [HK.out]; rfl)
          obtain ⟨d, hdd⟩ : ∃ d, hxd s[i] = d := ⟨_, rfl⟩
          rw [hdd] at hd d0 d1 ⊢
          clear hts hlen hget hdd
          go_wp2
          go_returns
          exact ⟨ret_eq (by rw [HK.out, HB.out]; rfl), by go_grown⟩
        · have HO2 := hide (hxO_step (l := s.data.toList) (i := i) (by omega) HO.out (by rw [hget]; omega))
          obtain ⟨d, hdd⟩ : ∃ d, hxd s[i] = d := ⟨_, rfl⟩
          have HS := hide (show l ++ bitsL d 4 = hxA (s.data.toList.take (i + 1)) from by rw [hts, hxA_snoc, ← HL.out, hdd])
          have HLL := hide (show l.length ≤ 64 from by rw [HL.out, hxA_len, List.length_take]; omega)
          rw [hdd] at hd d0 d1 ⊢
          have hadd : ∀ W, (Op.stringOp .add (str l) (str (bitsL d 4))).run Try.prog W = .ok (.string (str (l ++ bitsL d 4))) W := fun W => by
            rw [run_string_add_sum W _ _ (by rw [str_size, str_size, bitsL_len]; have := HLL.out; omega), str_app]
          clear hts hlen hget hdd
          go_wp2_with (first | (go_at_call 116; refine (l2Of_c d 4 (by omega) (by omega) (by omega) _).mono ?_; rintro e w1 ⟨rfl, rfl⟩))
          go_roundw
          case rel => exact ⟨i + 1, _, by omega, by go_num, rfl, HS, HO2, by go_grown⟩
          case measure => simp [intOf]; omega
    · obtain rfl : i = s.size := by omega
      have hl : s.data.toList.take s.size = s.data.toList := List.take_of_length_le (by simp)
      have HK := hide (show hxK s = true from by unfold hxK; rw [decide_eq_true hle, ← hl, HO.out]; rfl)
      have HB := hide (show hxB s = l from by unfold hxB; rw [if_pos HK.out, HL.out, hl])
      clear hl
      go_wp2
      go_returns
      exact ⟨ret_eq (by rw [HK.out, HB.out]; rfl), hB⟩
theorem isBits_c (s : ByteArray) (hb : Hid (isB s.data.toList)) (hs : s.size ≤ 64) (w : World) : Calls Try.prog 121 #[.string s] w fun r' w' => r' = .returned (.bool true) ∧ w = w' := by
  go_enter Try.func121, Try.ntmps121
  go_wp2
  go_loop [3] (fun iv => ∃ (i : Nat), i ≤ s.size ∧ iv = .int .i64 i) (fun iv => s.size - (intOf iv).toNat)
  case atStart => exact ⟨0, by omega, rfl⟩
  case round =>
    obtain ⟨i, hi, rfl⟩ := hrel
    by_cases hlt : i < s.size
    · rcases isB_at hb.out hlt with hc | hc
      all_goals
        go_wp2
        go_round
        case rel => exact ⟨i + 1, by omega, by go_num⟩
        case measure => simp [intOf]; omega
    · go_wp2
      go_ret
      exact ⟨ret_eq rfl, rfl⟩
theorem isCarrier_c (s : ByteArray) (hb : Hid (isB s.data.toList)) (h12 : 12 ≤ s.size) (hs : s.size ≤ 64) (w : World) : Calls Try.prog 104 #[.string s] w fun r' w' => r' = .returned (.bool true) ∧ w = w' := by
  go_enter Try.func104, Try.ntmps104
  go_wp2_with (first | (go_at_call 121; refine (isBits_c s hb hs _).mono ?_; rintro e w1 ⟨rfl, rfl⟩))
  go_ret
  exact ⟨ret_eq (by simp; omega), rfl⟩
end Go.Proofs.Ytbeojfhakmbacaa
namespace Go.Proofs.Ytbeojfhakmbacaa
open Go.RowKit
theorem ext_str (l : List UInt8) (a b : Nat) : (str l).extract a b = str ((l.take b).drop a) := by
  have h := ByteArray.extract_mk l a b
  rw [List.drop_take]
  exact h
theorem xor_step {a b : ByteArray} {i : Nat} (ha : i < a.size) (hb : i < b.size) : xorL (a.data.toList.take (i + 1)) (b.data.toList.take (i + 1)) = xorL (a.data.toList.take i) (b.data.toList.take i) ++ [if a[i] = b[i] then 48 else 49] := by
  rw [take_snoc a i ha, take_snoc b i hb, xorL_snoc _ _ _ _ (by simp; omega)]
theorem xor_full {a b : ByteArray} (h : a.size ≤ b.size) : xorL (a.data.toList.take a.size) (b.data.toList.take a.size) = xorL a.data.toList b.data.toList := by
  rw [xorL_take, List.take_of_length_le (by rw [xorL_len]; simp; omega)]
theorem rep_succ (q : Nat) (z : Value) : List.replicate (q + 1) z = z :: List.replicate q z := rfl
theorem xorBits_c (a b : ByteArray) (hab : a.size ≤ b.size) (ha : a.size ≤ 1000) (w : World) : Calls Try.prog 128 #[.string a, .string b] w (Gives w (.string (str (xorL a.data.toList b.data.toList)))) := by
  obtain ⟨i0, hi, iz0, iz1, iz2⟩ := info_parts infoByte
  go_enter Try.func128, Try.ntmps128
  go_wp2_with (first | (at_make; refine wpList_make_full _ rfl _ _ 22 rfl w.heap.size 5 i0 (.int .u8 0) 1 Try.underlying22 hi iz0 iz1 .i64 .i64 a.size a.size a.size rfl rfl rfl rfl (by rw [iz2]; omega) (by unfold maxLen; omega) (by simp) ?_; intro w1 hown hgrow))
  have hB1 : Below w.heap.size w w1 := (Below.refl _ _).grown hgrow (Nat.le_refl _) (by intro k hk; cases hk)
  have hz : (madeCells (Value.int .u8 0).cells (a.size * 1)).toList = List.replicate a.size (.int .u8 0) := by
    rw [Nat.mul_one]; exact toList_madeCells_one _ _
  rw [hz] at hown
  have HO := hide hown
  clear hown hz hgrow hi iz0 iz1 iz2
  go_loopw [12] (fun iv wr => ∃ (i p : Nat), i + p = a.size ∧ iv = .int .i64 i ∧ Hid (wr.ownsRow w.heap.size 5 1 (.slice (some ⟨w.heap.size, 0, none⟩) a.size a.size) a.size ((xorL (a.data.toList.take i) (b.data.toList.take i)).map byteVal ++ List.replicate p (Value.int .u8 0))) ∧ Below w.heap.size w wr) (fun iv _ => a.size - (intOf iv).toNat)
  case atStart => exact ⟨0, a.size, by omega, rfl, hide (by simpa [xorL] using HO.out), hB1⟩
  case round =>
    obtain ⟨i, p, hip, rfl, hown, hB⟩ := hrel
    have hzw : w.heap.size ≤ wr.heap.size := hB.size
    by_cases hp : p = 0
    · subst hp
      obtain rfl : i = a.size := by omega
      have hl : (xorL a.data.toList b.data.toList).length = a.size := by rw [xorL_len]; simp; omega
      have h9 := hown.out
      rw [xor_full hab] at h9
      have hc := conv_row (l := xorL a.data.toList b.data.toList) (cap := a.size) (W := wr) (base := w.heap.size) (e := 5) (g := w.heap.size) (by rw [hl]; simpa using h9)
      rw [hl] at hc
      clear h9 hl
      go_wp2
      go_returns
      exact ⟨ret_eq rfl, hB⟩
    · obtain ⟨q, rfl⟩ : ∃ q, p = q + 1 := ⟨p - 1, by omega⟩
      have hia : i < a.size := by omega
      have hib : i < b.size := by omega
      have hxl : i = ((xorL (a.data.toList.take i) (b.data.toList.take i)).map byteVal).length := by rw [List.length_map, xorL_len]; simp; omega
      have hcell : wr.cell? ⟨w.heap.size, i, none⟩ = some (.int .u8 0) := by
        rw [hown.out.cellAt i (by omega), rep_succ, List.getElem?_append_right (by omega), ← hxl, Nat.sub_self]; rfl
      have hfr := hown.out.frozenAt i
      have hst := hown.out.stored i (byteVal 48)
      have hset : ((xorL (a.data.toList.take i) (b.data.toList.take i)).map byteVal ++ List.replicate (q + 1) (Value.int .u8 0)).set i (byteVal 48) = (xorL (a.data.toList.take i) (b.data.toList.take i)).map byteVal ++ byteVal 48 :: List.replicate q (Value.int .u8 0) := by
        rw [rep_succ, set_mid _ _ _ _ hxl]
      rw [hset] at hst
      have HST := hide hst.1
      have hbv : byteVal 48 = .int .u8 48 := rfl
      rw [hbv] at HST
      have HB2 := hide (hB.setCell (p := ⟨w.heap.size, i, none⟩) (Nat.le_refl _) (.int .u8 48))
      have HXS := hide (xor_step hia hib)
      have HXL := hide hxl
      clear hxl hst hset hbv hp
      by_cases he : a[i] = b[i]
      · have hbyte : (a[i].toNat : Int) = (b[i].toNat : Int) := by rw [he]
        have HR := hide (show (xorL (a.data.toList.take (i + 1)) (b.data.toList.take (i + 1))).map byteVal ++ List.replicate q (Value.int .u8 0) = (xorL (a.data.toList.take i) (b.data.toList.take i)).map byteVal ++ Value.int .u8 48 :: List.replicate q (Value.int .u8 0) from by
          rw [HXS.out, if_pos he, List.map_append, List.append_assoc]; rfl)
        clear he
        go_wp2
        refine wp_region_det (fun w' => w'.ownsRow (w.heap.size) 5 1 (.slice (some ⟨w.heap.size, 0, none⟩) a.size a.size) (a.size) ((xorL (a.data.toList.take i) (b.data.toList.take i)).map byteVal ++ Value.int .u8 48 :: List.replicate q (.int .u8 0)) ∧ Below w.heap.size w w') (by kernel_rfl) (by kernel_rfl) ⟨own_below HST.out (by go_grown), below_via HB2.out (by go_grown)⟩ ?_
        repeat (first
          | ((refine wpDet_skip (by rfl) ?_); simp only [Act.put, zp1, zp2, zp3])
          | ((refine wpDet_val (v := ?_) (by rfl) (fun w hS => ?_) ?_); rotate_left; (focus ((try dsimp only at hS); go_simp; (try (with_reducible rfl)); done)); simp only [Act.put, zp1, zp2, zp3]))
        refine wpDet_nil ?_
        intro wd hS
        have hT : wd.ownsRow (w.heap.size) 5 1 (.slice (some ⟨w.heap.size, 0, none⟩) a.size a.size) (a.size) ((xorL (a.data.toList.take i) (b.data.toList.take i)).map byteVal ++ Value.int .u8 48 :: List.replicate q (.int .u8 0)) ∧ Below w.heap.size w wd := hS
        clear hS
        have hS := hT
        obtain ⟨c0, hB⟩ := hT
        have hzw : w.heap.size ≤ wd.heap.size := hB.size
        go_wp2
        go_roundw
        case rel => exact ⟨i + 1, q, by omega, by go_num, hide (by rw [HR.out]; exact hS.1), hB⟩
        case measure => simp [intOf]; omega
      · have hbyte : ¬ (a[i].toNat : Int) = (b[i].toNat : Int) := fun e => he (UInt8.toNat_inj.1 (by omega))
        have HR := hide (show (xorL (a.data.toList.take (i + 1)) (b.data.toList.take (i + 1))).map byteVal ++ List.replicate q (Value.int .u8 0) = (xorL (a.data.toList.take i) (b.data.toList.take i)).map byteVal ++ Value.int .u8 49 :: List.replicate q (Value.int .u8 0) from by
          rw [HXS.out, if_neg he, List.map_append, List.append_assoc]; rfl)
        clear he
        go_wp2
        refine wp_region_det (fun w' => w'.ownsRow (w.heap.size) 5 1 (.slice (some ⟨w.heap.size, 0, none⟩) a.size a.size) (a.size) ((xorL (a.data.toList.take i) (b.data.toList.take i)).map byteVal ++ Value.int .u8 48 :: List.replicate q (.int .u8 0)) ∧ Below w.heap.size w w') (by kernel_rfl) (by kernel_rfl) ⟨own_below HST.out (by go_grown), below_via HB2.out (by go_grown)⟩ ?_
        repeat (first
          | ((refine wpDet_skip (by rfl) ?_); simp only [Act.put, zp1, zp2, zp3])
          | ((refine wpDet_val (v := ?_) (by rfl) (fun w hS => ?_) ?_); rotate_left; (focus ((try dsimp only at hS); go_simp; (try (with_reducible rfl)); done)); simp only [Act.put, zp1, zp2, zp3]))
        refine wpDet_nil ?_
        intro wd hS
        have hT : wd.ownsRow (w.heap.size) 5 1 (.slice (some ⟨w.heap.size, 0, none⟩) a.size a.size) (a.size) ((xorL (a.data.toList.take i) (b.data.toList.take i)).map byteVal ++ Value.int .u8 48 :: List.replicate q (.int .u8 0)) ∧ Below w.heap.size w wd := hS
        clear hS
        have hS := hT
        obtain ⟨c0, hB⟩ := hT
        have hzw : w.heap.size ≤ wd.heap.size := hB.size
        have hcell2 : wd.cell? ⟨w.heap.size, i, none⟩ = some (.int .u8 48) := by
          rw [hS.1.cellAt i (by omega), List.getElem?_append_right (by have := HXL.out; omega), ← HXL.out, Nat.sub_self]; rfl
        have hfr2 := hS.1.frozenAt i
        have hst2 := hS.1.stored i (.int .u8 49)
        rw [set_mid _ _ _ _ HXL.out] at hst2
        have HST2 := hide hst2.1
        clear hst2
        go_wp2
        go_roundw
        case rel => exact ⟨i + 1, q, by omega, by go_num, hide (by rw [HR.out]; exact HST2.out), hB.setCell (p := ⟨w.heap.size, i, none⟩) (Nat.le_refl _) _⟩
        case measure => simp [intOf]; omega
theorem flip_set (l : List UInt8) (i : Nat) (h : i < l.length) : l.set i (fbit l[i]) = flipL l i := by
  unfold flipL
  rw [List.set_eq_take_append_cons_drop, if_pos h, List.getD_eq_getElem?_getD, List.getElem?_eq_getElem h]; rfl
theorem flip_c (s : ByteArray) (i : Nat) (hi : i < s.size) (hb : Hid (isB s.data.toList)) (hs : s.size ≤ 1000000) (w : World) : Calls Try.prog 106 #[.string s, .int .i64 i] w (Gives w (.string (str (flipL s.data.toList i)))) := by
  obtain ⟨cap, hcv, hbr⟩ := BR.new w s
  obtain ⟨W1, hW1⟩ : ∃ W, w.drew.alloc (.cells (bytesRow s cap) 5 ((bytesRow s cap).size, (bytesRow s cap).size + 1)) = W := ⟨_, rfl⟩
  have hB1 : Below w.heap.size w W1 := by rw [← hW1]; go_grown
  rw [hW1] at hcv hbr
  clear hW1
  have hlen : s.data.toList.length = s.size := by simp
  have hget : s.data.toList[i]'(by omega) = s[i] := rfl
  have hcell := hbr.cell (i := i) (by omega)
  have hfr := hbr.frozen (i := i) (by omega)
  have HBR := hide hbr
  rw [hget] at hcell
  have hby := isB_byte hb.out hi
  have key : ∀ c : UInt8, fbit s[i] = c → Hid (BR (W1.setCell ⟨w.heap.size, i, none⟩ (byteVal c)) w.heap.size (flipL s.data.toList i) cap) := fun c hc => hide (by
    have := HBR.out.set (i := i) c
    rw [← hc, ← hget, flip_set _ _ (by omega), hget, hc] at this
    exact this)
  have hfl : (flipL s.data.toList i).length = s.size := by rw [flip_len (by omega)]; exact hlen
  rcases hby with h8 | h8
  · have K := key 49 (by rw [h8]; rfl)
    have hp := K.out.part 0 s.size cap (by omega)
    rw [List.drop_zero, List.take_of_length_le (by omega)] at hp
    rw [h8] at hcell
    have e1 : byteVal 48 = .int .u8 48 := rfl
    have e2 : byteVal 49 = .int .u8 49 := rfl
    rw [e1] at hcell
    rw [e2] at hp
    clear hbr key K hfl hlen hget e1 e2 h8 HBR
    go_enter Try.func106, Try.ntmps106
    go_wp2
    go_returns
    exact ⟨ret_eq rfl, by go_grown⟩
  · have K := key 48 (by rw [h8]; rfl)
    have hp := K.out.part 0 s.size cap (by omega)
    rw [List.drop_zero, List.take_of_length_le (by omega)] at hp
    rw [h8] at hcell
    have e1 : byteVal 48 = .int .u8 48 := rfl
    have e2 : byteVal 49 = .int .u8 49 := rfl
    rw [e2] at hcell
    rw [e1] at hp
    clear hbr key K hfl hlen hget e1 e2 h8 HBR
    go_enter Try.func106, Try.ntmps106
    go_wp2
    go_returns
    exact ⟨ret_eq rfl, by go_grown⟩
end Go.Proofs.Ytbeojfhakmbacaa
namespace Go.Proofs.Ytbeojfhakmbacaa
open Go.RowKit
def deedc (o : Oper) : Bool := deed o || (match o.op with | .convert .. => true | _ => false)
theorem iter_pos {w : World} {k : Nat} {s : ByteArray} {p : Nat} (h : w.heap[k]? = some (.stringIter s p)) : w.iterPos k = p := by simp [World.iterPos, h]
theorem bits0 (W : World) : Calls Try.prog 103 #[.int .i64 0, .int .i64 12] W (Gives W (.string (str z12))) := by
  have h := bitsOf_c 0 12 (by omega) (by omega) (by omega) W
  rw [z12_bits] at h
  exact h
theorem div_head {l : List UInt8} (hb : isB l) {p : Nat} (hp : p < l.length) : ∃ c t, divN p (l ++ z12) = c :: t ∧ (c = 48 ∨ c = 49) ∧ t.length + p = l.length + 11 := by
  have hl := divN_len p (l := l ++ z12) (by simp [z12]; omega)
  have hi := divN_isB p (isB_app hb z12_isB)
  have hz : z12.length = 12 := rfl
  rw [List.length_append, hz] at hl
  cases hd : divN p (l ++ z12) with
  | nil => rw [hd] at hl; simp at hl; omega
  | cons c t =>
    rw [hd] at hl hi
    exact ⟨c, t, rfl, hi c List.mem_cons_self, by simp at hl; omega⟩
theorem isB_asc {l : List UInt8} (hb : isB l) {p : Nat} (hp : p < (str l).size) : ((str l)[p]'hp).toNat < 128 := by
  have h1 : p < l.length := by rw [str_size] at hp; exact hp
  have h2 : (str l)[p]'hp = l[p] := rfl
  rw [h2]
  rcases hb _ (List.getElem_mem h1) with e | e <;> rw [e] <;> decide
set_option maxRecDepth 100000 in
theorem parityOf_c (l : List UInt8) (hb : Hid (isB l)) (hl : l.length ≤ 64) (w : World) : Calls Try.prog 129 #[.string (str l)] w (Gives w (.string (str (parL l)))) := by
  have hadd : ∀ W, (Op.stringOp .add (str l) (str z12)).run Try.prog W = .ok (.string (str (l ++ z12))) W := fun W => by
    rw [run_string_add_sum W _ _ (by rw [str_size, str_size]; have : z12.length = 12 := rfl; omega), str_app]
  have hsz := str_size l
  go_enter Try.func129, Try.ntmps129
  go_wp2_with fail
  refine (bits0 _).mono ?_
  rintro e w1 ⟨rfl, hb1⟩
  obtain ⟨cap, hcv, hbr⟩ := BR.new w1 (str (l ++ z12))
  obtain ⟨W1, hW1⟩ : ∃ W, w1.drew.alloc (.cells (bytesRow (str (l ++ z12)) cap) 5 ((bytesRow (str (l ++ z12)) cap).size, (bytesRow (str (l ++ z12)) cap).size + 1)) = W := ⟨_, rfl⟩
  have hz1 := hb1.size
  have hB1 : Below w.heap.size w W1 := by
    rw [← hW1]
    exact (hb1.trans (Below.drew (Below.refl _ _))).alloc hz1 _
  obtain ⟨N, hN⟩ : ∃ N, (str (l ++ z12)).size = N := ⟨_, rfl⟩
  have hN2 : N = l.length + 12 := by rw [← hN, str_size, List.length_append]; rfl
  rw [hW1] at hcv hbr
  rw [hN] at hcv
  have hGK := hbr.lt
  have HBR := hide hbr
  have hNl : l.length ≤ N := by omega
  have hNi : (l.length : Int) ≤ (N : Int) := by omega
  have HN2 := hide hN2
  clear hbr hW1 hb1 hN hN2
  go_wp2
  obtain ⟨G, hG⟩ : ∃ G, w1.heap.size = G := ⟨_, rfl⟩
  rw [hG] at hz1 hGK HBR hcv ⊢
  rw [str_list] at HBR
  go_loopw [4] (fun _ wr => ∃ (p : Nat) (Z : List UInt8), p ≤ l.length ∧ Z.length = p ∧ wr.heap[W1.heap.size]? = some (.stringIter (str l) p) ∧ Hid (BR wr G (Z ++ divN p (l ++ z12)) cap) ∧ Below w.heap.size w wr) (fun _ wr => l.length - wr.iterPos W1.heap.size)
  case atStart => exact ⟨0, [], by omega, rfl, World.iter_heap W1 _ 0, hide (HBR.out.below ((Below.refl _ _).alloc (Nat.le_refl _) _)), hB1.trans ((Below.refl _ _).alloc hB1.size _)⟩
  case round =>
    obtain ⟨p, Z, hp, hZ, hit, HR, hB⟩ := hrel
    have hpos0 := iter_pos hit
    by_cases hlt : p < l.length
    · have hnx : ∀ ty, (Instr.next (.pointer (some ⟨W1.heap.size, 0, none⟩)) true ty).run Try.prog wr = _ := fun ty => Lib.run_next_ascii_at wr W1.heap.size (str l) p ty hit (by rw [str_size]; exact hlt) (isB_asc hb.out _)
      have hit2 := Lib.iterAt_heap wr W1.heap.size (str l) p (p + 1) hit
      have hB2 := Lib.below_iterAt hB (k := W1.heap.size) hB1.size (str l) (p + 1)
      have HR2 := hide (HR.out.keep (Lib.iterAt_other wr W1.heap.size G (str l) (p + 1) (by omega)))
      obtain ⟨W2, hW2⟩ : ∃ W, wr.iterAt W1.heap.size (str l) (p + 1) = W := ⟨_, rfl⟩
      rw [hW2] at hnx hit2 hB2 HR2
      obtain ⟨c, t, hR, hc, ht⟩ := div_head hb.out hlt
      have hds : divN (p + 1) (l ++ z12) = dstep (c :: t) := by rw [divN_succ, hR]
      rw [hR] at HR2
      have hcell := HR2.out.cell (i := p) (by simp; omega)
      have hga : (Z ++ c :: t)[p]'(by simp; omega) = c := by rw [List.getElem_append_right (by omega)]; simp [hZ]
      rw [hga] at hcell
      have HDS := hide hds
      have hW2z : W1.heap.size < W2.heap.size := (Array.getElem?_eq_some_iff.1 hit2).1
      have hBG : p + 13 ≤ cap := by have := HR2.out.le; simp at this; omega
      clear hW2 hga hR hds HR hit hB
      rcases hc with rfl | rfl
      · replace hcell : W2.cell? ⟨G, p, none⟩ = some (.int .u8 48) := hcell
        have HN := hide (show BR W2 G ((Z ++ [48]) ++ divN (p + 1) (l ++ z12)) cap from by rw [HDS.out, dstep_cons, if_neg (by decide), List.append_assoc]; exact HR2.out)
        go_wp2
        go_roundw
        case rel => exact ⟨p + 1, Z ++ [48], by omega, by simp; omega, hit2, HN, hB2⟩
        case measure => rw [iter_pos hit2, hpos0]; omega
      · replace hcell : W2.cell? ⟨G, p, none⟩ = some (.int .u8 49) := hcell
        go_wp2
        have h9 := HR2.out.le
        have h8 := HN2.out
        have h7 : (Z ++ 49 :: t).length = p + 1 + t.length := by simp [hZ]; omega
        have q1 : p ≤ N := by omega
        have q1i : (p : Int) ≤ (N : Int) := by omega
        have q2 : N ≤ cap := by omega
        have q2i : (N : Int) ≤ (cap : Int) := by omega
        have q3 : (p : Int) + 13 ≤ (cap : Int) := by omega
        have q4 : IntKind.i64.wrap ((p : Int) + 13) = (p : Int) + 13 := IntWalk.i64_in _ (by omega)
        have q5 : (p : Int) ≤ (p : Int) + 13 := by omega
        have q6 : (0 : Int) ≤ (p : Int) + 13 := by omega
        have q7 : ((p : Int) + 13).toNat = p + 13 := by omega
        have q8 : p + 13 - p = 13 := by omega
        have q9 : ¬ cap = p := by omega
        have hcv1 : ∀ W, Below W2.heap.size W2 W → (convert 22 9 (.slice (some ⟨G, p, none⟩) 13 (cap - p))).run Try.prog W = .ok (.string (str (49 :: t.take 12))) W := fun W hW => by
          have h9 := (HR2.out.below hW).part p 13 (cap - p) (by omega)
          rw [List.drop_append_of_le_length (by omega), List.drop_of_length_le (by omega)] at h9
          exact h9
        have hX : xorL (49 :: t.take 12) dvL = 48 :: xorL (t.take 12) (dvL.drop 1) := rfl
        have hXl : (48 :: xorL (t.take 12) (dvL.drop 1)).length = 13 := by rw [List.length_cons, xorL_len]; simp [dvL]; omega
        have hxo : ∀ W, Calls Try.prog 128 #[.string (str (49 :: t.take 12)), .string { data := #[49, 49, 48, 48, 48, 48, 48, 48, 48, 49, 49, 49, 49] }] W (Gives W (.string (str (48 :: xorL (t.take 12) (dvL.drop 1))))) := fun W => by
          have h := xorBits_c (str (49 :: t.take 12)) (str dvL) (by rw [str_size, str_size]; simp [dvL]; omega) (by rw [str_size]; simp; omega) W
          rw [str_list, str_list, hX] at h
          exact h
        have hcp : ∀ W, Below W2.heap.size W2 W → ∃ C, (∀ ty, (Builtin.copy_ #[22, 9] ty #[.slice (some ⟨G, p, none⟩) (N - p) (cap - p), .string (str (48 :: xorL (t.take 12) (dvL.drop 1)))]).run Try.prog W = .ok (goInt 13) (W.setRow G C)) ∧ Hid (BR (W.setRow G C) G ((Z ++ [48]) ++ divN (p + 1) (l ++ z12)) cap) := fun W hW => by
          obtain ⟨C, h1, h2⟩ := (HR2.out.below hW).copy (48 :: xorL (t.take 12) (dvL.drop 1)) p (N - p) (cap - p) (by omega) (by omega)
          rw [hXl] at h1 h2
          refine ⟨C, h1, hide ?_⟩
          have e1 : (Z ++ 49 :: t).take p = Z := by rw [← hZ]; simp
          have e2 : (Z ++ 49 :: t).drop (p + 13) = t.drop 12 := by rw [List.drop_append, List.drop_of_length_le (by omega), List.nil_append, hZ, show p + 13 - p = 12 + 1 from by omega, List.drop_succ_cons]
          rw [e1, e2] at h2
          rw [HDS.out, dstep_cons, if_pos rfl]
          simpa using h2
        obtain ⟨X, hXX⟩ : ∃ X, 48 :: xorL (t.take 12) (dvL.drop 1) = X := ⟨_, rfl⟩
        rw [hXX] at hxo hcp
        clear h9 h8 h7 hX hXl hXX HDS HR2 hcell
        refine wp_region_seq deedc [0, 1, 2, 3, 4, 5, 6, 7, 8, 9, 10] (fun _ => True) (by kernel_rfl) (by kernel_rfl) trivial ?_
        simp only [byNum, List.getElem?_cons_zero, List.getElem?_cons_succ]
        repeat (first
          | ((refine seq_skip (by rfl) (by rfl) ?_); simp only [Act.put, zp1, zp2, zp3])
          | ((refine seq_val (v := ?_) (by rfl) (by rfl) (fun w hS => ?_) ?_); rotate_left; (focus ((try dsimp only at hS); go_simp; (try (with_reducible rfl)); done)); simp only [Act.put, zp1, zp2, zp3]))
        have hcv2 := hcv1 W2.drew (by go_grown)
        refine seq_deed (v := ?_) (w' := ?_) (by rfl) (by rfl) ?_ ?_
        rotate_left
        rotate_left
        focus (go_simp; (constructor <;> (with_reducible rfl)); done)
        refine ⟨(fun _ => True), trivial, (fun W h => h), ?_⟩
        simp only [Act.put, zp1, zp2, zp3]
        repeat (first
          | ((refine seq_skip (by rfl) (by rfl) ?_); simp only [Act.put, zp1, zp2, zp3])
          | ((refine seq_val (v := ?_) (by rfl) (by rfl) (fun w hS => ?_) ?_); rotate_left; (focus ((try dsimp only at hS); go_simp; (try (with_reducible rfl)); done)); simp only [Act.put, zp1, zp2, zp3]))
        refine seq_call (f := ?_) (args := ?_) (by rfl) (by rfl) ?_ ?_
        rotate_left
        rotate_left
        focus (go_simp; (constructor <;> (with_reducible rfl)); done)
        refine (hxo _).mono ?_
        rintro e w3 ⟨rfl, hb3⟩
        have hb4 : Below W2.heap.size W2 w3 := below_via (by go_grown) hb3
        obtain ⟨C, hcopy, HBN⟩ := hcp w3 hb4
        refine ⟨_, rfl, (fun _ => True), trivial, (fun W h => h), ?_⟩
        simp only [Act.put, zp1, zp2, zp3]
        repeat (first
          | ((refine seq_skip (by rfl) (by rfl) ?_); simp only [Act.put, zp1, zp2, zp3])
          | ((refine seq_val (v := ?_) (by rfl) (by rfl) (fun w hS => ?_) ?_); rotate_left; (focus ((try dsimp only at hS); go_simp; (try (with_reducible rfl)); done)); simp only [Act.put, zp1, zp2, zp3]))
        refine seq_deed (v := ?_) (w' := ?_) (by rfl) (by rfl) ?_ ?_
        rotate_left
        rotate_left
        focus (go_simp; (constructor <;> (with_reducible rfl)); done)
        refine ⟨(fun _ => True), trivial, (fun W h => h), ?_⟩
        simp only [Act.put, zp1, zp2, zp3]
        repeat (first
          | ((refine seq_skip (by rfl) (by rfl) ?_); simp only [Act.put, zp1, zp2, zp3])
          | ((refine seq_val (v := ?_) (by rfl) (by rfl) (fun w hS => ?_) ?_); rotate_left; (focus ((try dsimp only at hS); go_simp; (try (with_reducible rfl)); done)); simp only [Act.put, zp1, zp2, zp3]))
        refine seq_nil ?_
        have hit3 : (w3.setRow G C).heap[W1.heap.size]? = some (.stringIter (str l) (p + 1)) := by
          rw [setRow_other _ _ _ _ (by omega), hb4.block _ hW2z]; exact hit2
        have hB3 : Below w.heap.size w (w3.setRow G C) := below_setRow (below_via hB2 hb4) hz1 C
        go_wp2
        go_roundw
        case rel => exact ⟨p + 1, Z ++ [48], by omega, by simp; omega, hit3, HBN, hB3⟩
        case measure => rw [iter_pos hit3, hpos0]; omega
    · obtain rfl : p = l.length := by omega
      have hnx : ∀ ty, (Instr.next (.pointer (some ⟨W1.heap.size, 0, none⟩)) true ty).run Try.prog wr = _ := fun ty => Lib.run_next_end_at wr W1.heap.size (str l) l.length ty hit (by rw [str_size]; omega)
      have hpl : (parL l).length = 12 := par_len l
      have hpt := HR.out.part l.length 12 (cap - l.length) (by rw [List.length_append, hZ]; show l.length + 12 ≤ l.length + (parL l).length; omega)
      rw [List.drop_append_of_le_length (by omega), List.drop_of_length_le (by omega), List.nil_append, show (divN l.length (l ++ z12)).take 12 = parL l from List.take_of_length_le (by show (parL l).length ≤ 12; omega)] at hpt
      have h9 := HR.out.le
      have h7 : (Z ++ divN l.length (l ++ z12)).length = l.length + 12 := by rw [List.length_append, hZ]; show l.length + (parL l).length = _; omega
      have h8 := HN2.out
      have q2 : N ≤ cap := by omega
      have q2i : (N : Int) ≤ (cap : Int) := by omega
      have q9 : ¬ cap = l.length := by omega
      have q8 : N - l.length = 12 := by omega
      clear h7 h8 h9 hpl
      go_wp2
      go_returns
      exact ⟨ret_eq rfl, hB⟩
end Go.Proofs.Ytbeojfhakmbacaa
namespace Go.Proofs.Ytbeojfhakmbacaa
open Go.RowKit
theorem ext_take (l : List UInt8) (k : Nat) : (str l).extract 0 k = str (l.take k) := by rw [ext_str]; simp
theorem ext_drop (l : List UInt8) (k n : Nat) (h : l.length ≤ n) : (str l).extract k n = str (l.drop k) := by rw [ext_str, List.take_of_length_le h]
theorem syndromeOf_c (l : List UInt8) (hb : Hid (isB l)) (h12 : 12 ≤ l.length) (hl : l.length ≤ 64) (w : World) : Calls Try.prog 123 #[.string (str l)] w (Gives w (.string (str (xorL (l.drop (l.length - 12)) (parL (l.take (l.length - 12))))))) := by
  obtain ⟨k, hk⟩ : ∃ k, l.length = k + 12 := ⟨l.length - 12, by omega⟩
  rw [show l.length - 12 = k from by omega]
  have hp1 : ∀ W, Calls Try.prog 129 #[.string ((str l).extract 0 k)] W (Gives W (.string (str (parL (l.take k))))) := fun W => by
    rw [ext_take]; exact parityOf_c _ (hide (isB_take hb.out _)) (by simp; omega) W
  have hp2 : ∀ W, Calls Try.prog 128 #[.string ((str l).extract k (k + 12)), .string (str (parL (l.take k)))] W (Gives W (.string (str (xorL (l.drop k) (parL (l.take k)))))) := fun W => by
    rw [ext_drop _ _ _ (by omega)]
    have h := xorBits_c (str (l.drop k)) (str (parL (l.take k))) (by rw [str_size, str_size, par_len]; simp; omega) (by rw [str_size]; simp; omega) W
    rw [str_list, str_list] at h
    exact h
  have hsz : (str l).size = k + 12 := by rw [str_size]; exact hk
  obtain ⟨s, hs⟩ : ∃ s, str l = s := ⟨_, rfl⟩
  obtain ⟨P, hP⟩ : ∃ P, str (parL (l.take k)) = P := ⟨_, rfl⟩
  obtain ⟨V, hV⟩ : ∃ V, str (xorL (l.drop k) (parL (l.take k))) = V := ⟨_, rfl⟩
  rw [hs] at hsz hp1 hp2 ⊢
  rw [hP] at hp1 hp2
  rw [hV] at hp2 ⊢
  clear hs hP hV
  have e1 : IntKind.i64.wrap (((k + 12 : Nat) : Int) - 12) = (k : Int) := by rw [IntWalk.i64_in _ (by omega)]; omega
  have e2 : IntKind.i64.wrap ((k : Int) + 12 - 12) = (k : Int) := by rw [IntWalk.i64_in _ (by omega)]; omega
  have e3 : wrap64 (k : Int) = (k : Int) := IntWalk.wrap64_in _ (by omega)
  have k1 : (k : Int) ≤ (k : Int) + 12 := by omega
  have k2 : k ≤ k + 12 := by omega
  clear hk h12
  go_enter Try.func123, Try.ntmps123
  go_wp2
  refine wp_region_det (fun w' => Below w.heap.size w w') (by kernel_rfl) (by kernel_rfl) (by first | (with_reducible assumption) | go_grown) ?_
  repeat (first
    | ((refine wpDet_skip (by rfl) ?_); simp only [Act.put, zp1, zp2, zp3])
    | ((refine wpDet_val (v := ?_) (by rfl) (fun w hS => ?_) ?_); rotate_left; (focus ((try dsimp only at hS); go_simp; (try (with_reducible rfl)); done)); simp only [Act.put, zp1, zp2, zp3])
    | ((refine wpDet_call (v := ?_) (f := ?_) (args := ?_) (by rfl) (fun w => ?_) (fun w hS => ?_) ?_); rotate_left; rotate_left; rotate_left; (focus (go_simp; (constructor <;> (with_reducible rfl)); done)); (focus (first | (go_at_call 129; refine (hp1 _).mono ?_; intro e w' h; refine ⟨h.1.trans ?_, below_via hS (h.2)⟩; with_reducible rfl) | (go_at_call 128; refine (hp2 _).mono ?_; intro e w' h; refine ⟨h.1.trans ?_, below_via hS (h.2)⟩; with_reducible rfl))); simp only [Act.put, zp1, zp2, zp3]))
  refine wpDet_nil ?_
  intro wd hS
  have hT : Below w.heap.size w wd := hS
  clear hS
  have hS := hT
  have hB := hT
  have hzw : w.heap.size ≤ wd.heap.size := hB.size
  go_wp2
  go_returns
  exact ⟨ret_eq rfl, by go_grown⟩
theorem isSound_c (l : List UInt8) (hb : Hid (isB l)) (h12 : 12 ≤ l.length) (hl : l.length ≤ 64) (w : World) : Calls Try.prog 105 #[.string (str l)] w (Gives w (.bool (sdB l))) := by
  have h1 := syndromeOf_c l hb h12 hl
  have HS := hide (sdB_ones hb.out h12)
  have hon : ∀ W, Calls Try.prog 122 #[.string (str (xorL (l.drop (l.length - 12)) (parL (l.take (l.length - 12)))))] W fun r' w' => r' = .returned (.int .i64 (onesL (xorL (l.drop (l.length - 12)) (parL (l.take (l.length - 12)))))) ∧ W = w' := fun W => by
    have h := ones_c (str (xorL (l.drop (l.length - 12)) (parL (l.take (l.length - 12))))) (by rw [str_size, xorL_len, par_len]; omega) W
    rw [str_list] at h
    exact h
  obtain ⟨X, hX⟩ : ∃ X, xorL (l.drop (l.length - 12)) (parL (l.take (l.length - 12))) = X := ⟨_, rfl⟩
  rw [hX] at h1 HS hon
  clear hX
  go_enter Try.func105, Try.ntmps105
  go_wp2_with (first | (go_at_call 123; refine (h1 _).mono ?_; rintro e w1 ⟨rfl, hb1⟩) | (go_at_call 122; refine (hon _).mono ?_; rintro e w2 ⟨rfl, rfl⟩))
  go_returns
  exact ⟨ret_eq (by rw [← HS.out]; simp), hb1⟩
end Go.Proofs.Ytbeojfhakmbacaa
namespace Go.Proofs.Ytbeojfhakmbacaa
open Go.RowKit
theorem repairBit_c (l : List UInt8) (hb : Hid (isB l)) (h12 : 12 ≤ l.length) (hl : l.length ≤ 64) (w : World) : Calls Try.prog 66 #[.string (str l)] w (Gives w (.tuple #[.string (str (rpS l)), .int .i64 (rpI l), .bool (rpK l)])) := by
  have hca : ∀ W, Calls Try.prog 104 #[.string (str l)] W fun r' w' => r' = .returned (.bool true) ∧ W = w' := isCarrier_c (str l) (hide (by rw [str_list]; exact hb.out)) (by rw [str_size]; exact h12) (by rw [str_size]; exact hl)
  have hso := isSound_c l hb h12 hl
  have hfl : ∀ i : Nat, i < l.length → ∀ W, Calls Try.prog 106 #[.string (str l), .int .i64 i] W (Gives W (.string (str (flipL l i)))) := fun i hi W => by
    have h := flip_c (str l) i (by rw [str_size]; exact hi) (hide (by rw [str_list]; exact hb.out)) (by rw [str_size]; omega) W
    rw [str_list] at h
    exact h
  have hsf : ∀ i : Nat, i < l.length → ∀ W, Calls Try.prog 105 #[.string (str (flipL l i))] W (Gives W (.bool (sdB (flipL l i)))) := fun i hi W => isSound_c _ (hide (flip_isB hb.out i)) (by rw [flip_len hi]; exact h12) (by rw [flip_len hi]; exact hl) W
  have hsz := str_size l
  rcases hs : sdB l with _ | _
  rotate_left
  · obtain ⟨r1, r2, r3⟩ := rp_sound hs
    have HF := hide (show rpK l = true ∧ rpI l = -1 ∧ rpS l = l from ⟨r1, r2, r3⟩)
    rw [hs] at hso
    clear r1 r2 r3 hs
    go_enter Try.func66, Try.ntmps66
    go_wp2_with (first | (go_at_call 104; refine (hca _).mono ?_; rintro e wz ⟨rfl, rfl⟩) | (go_at_call 105; refine (hso _).mono ?_; rintro e w1 ⟨rfl, hb1⟩))
    go_returns
    exact ⟨ret_eq (by rw [HF.out.1, HF.out.2.1, HF.out.2.2]; rfl), hb1⟩
  have HS := hide hs
  rw [hs] at hso
  clear hs
  go_enter Try.func66, Try.ntmps66
  go_wp2_with (first | (go_at_call 104; refine (hca _).mono ?_; rintro e wz ⟨rfl, rfl⟩) | (go_at_call 105; refine (hso _).mono ?_; rintro e w1 ⟨rfl, hb1⟩; have hz1 := hb1.size))
  clear hca hso
  go_loopw [5] (fun _ wr => ∃ (p : Nat), p ≤ l.length ∧ wr.heap[w1.heap.size]? = some (.stringIter (str l) p) ∧ Hid (∀ j, j < p → sdB (flipL l j) = false) ∧ Below w.heap.size w wr) (fun _ wr => l.length - wr.iterPos w1.heap.size)
  case atStart => exact ⟨0, by omega, World.iter_heap w1 _ 0, hide (fun j hj => absurd hj (by omega)), hb1.trans ((Below.refl _ _).alloc hz1 _)⟩
  case round =>
    obtain ⟨p, hp, hit, HN, hB⟩ := hrel
    have hpos0 := iter_pos hit
    by_cases hlt : p < l.length
    · have hnx : ∀ ty, (Instr.next (.pointer (some ⟨w1.heap.size, 0, none⟩)) true ty).run Try.prog wr = _ := fun ty => Lib.run_next_ascii_at wr w1.heap.size (str l) p ty hit (by rw [str_size]; exact hlt) (isB_asc hb.out _)
      have hit2 := Lib.iterAt_heap wr w1.heap.size (str l) p (p + 1) hit
      have hB2 := Lib.below_iterAt hB (k := w1.heap.size) hz1 (str l) (p + 1)
      obtain ⟨W2, hW2⟩ : ∃ W, wr.iterAt w1.heap.size (str l) (p + 1) = W := ⟨_, rfl⟩
      rw [hW2] at hnx hit2 hB2
      have hW2z : w1.heap.size < W2.heap.size := (Array.getElem?_eq_some_iff.1 hit2).1
      have hf := hfl p hlt
      have hs2 := hsf p hlt
      clear hW2 hit hB
      rcases hk : sdB (flipL l p) with _ | _
      · rw [hk] at hs2
        have HN2 := hide (show ∀ j, j < p + 1 → sdB (flipL l j) = false from fun j hj => by
          by_cases e : j = p
          · subst e; exact hk
          · exact HN.out j (by omega))
        obtain ⟨S, hS⟩ : ∃ S, str (flipL l p) = S := ⟨_, rfl⟩
        rw [hS] at hf hs2
        clear hk hfl hsf hS
        go_wp2_with (first | (go_at_call 106; refine (hf _).mono ?_; rintro e w3 ⟨rfl, hb3⟩; have hz3 := hb3.size) | (go_at_call 105; refine (hs2 _).mono ?_; rintro e w4 ⟨rfl, hb4⟩; have hb5 : Below W2.heap.size W2 w4 := below_via hb3 hb4))
        go_roundw
        case rel => exact ⟨p + 1, by omega, by rw [hb5.block _ hW2z]; exact hit2, HN2, below_via hB2 hb5⟩
        case measure => rw [iter_pos (show w4.heap[w1.heap.size]? = some (.stringIter (str l) (p + 1)) from by rw [hb5.block _ hW2z]; exact hit2), hpos0]; omega
      · rw [hk] at hs2
        obtain ⟨r1, r2, r3⟩ := rp_at HS.out (repI_at hlt HN.out hk)
        obtain ⟨S, hS⟩ : ∃ S, str (flipL l p) = S := ⟨_, rfl⟩
        have HF := hide (show rpK l = true ∧ rpI l = p ∧ str (rpS l) = S from ⟨r1, r2, by rw [r3]; exact hS⟩)
        rw [hS] at hf hs2
        clear hk r1 r2 r3 hfl hsf hS
        have hBB := hB2
        go_wp2_with (first | (go_at_call 106; refine (hf _).mono ?_; rintro e w3 ⟨rfl, hb3⟩; have hBB := below_via hBB hb3; clear hb3) | (go_at_call 105; refine (hs2 _).mono ?_; rintro e w4 ⟨rfl, hb4⟩; have hBB := below_via hBB hb4; clear hb4))
        go_returns
        exact ⟨ret_eq (by rw [HF.out.1, HF.out.2.1, HF.out.2.2]; rfl), hBB⟩
    · obtain rfl : p = l.length := by omega
      have hnx : ∀ ty, (Instr.next (.pointer (some ⟨w1.heap.size, 0, none⟩)) true ty).run Try.prog wr = _ := fun ty => Lib.run_next_end_at wr w1.heap.size (str l) l.length ty hit (by rw [str_size]; omega)
      obtain ⟨r1, r2, r3⟩ := rp_none HS.out (repI_none HN.out)
      have HF := hide (show rpK l = false ∧ rpI l = 0 ∧ str (rpS l) = { data := #[] } from ⟨r1, r2, by rw [r3]; rfl⟩)
      clear r1 r2 r3 hfl hsf
      go_wp2
      go_returns
      exact ⟨ret_eq (by rw [HF.out.1, HF.out.2.1, HF.out.2.2]; rfl), hB⟩
theorem validFrame_c (k a d : Int) (w : World) : Calls Try.prog 108 #[.agg #[.int .i64 k, .int .i64 a, .int .i64 d]] w (Gives w (.bool (vFr k a d))) := by
  rcases h1 : wi k 1 4 with _ | _ <;> rcases h2 : wi a 1 65535 with _ | _ <;> rcases h3 : wi d 0 16777215 with _ | _
  all_goals
    go_enter Try.func108, Try.ntmps108
    go_wp2_with (first | (go_at_call 63; refine (within_c _ _ _ _).mono ?_; rintro e wz ⟨rfl, rfl⟩) | (go_at_call 62; refine (isAddress_c _ _).mono ?_; rintro e wz ⟨rfl, rfl⟩))
    go_returns
    exact ⟨ret_eq (by simp [vFr, h1, h2, h3]), by go_grown⟩
end Go.Proofs.Ytbeojfhakmbacaa
namespace Go.Proofs.Ytbeojfhakmbacaa
open Go.RowKit
theorem lfs_snoc (l : List UInt8) (c : UInt8) : lfs (l ++ [c]) = lstep (lfs l) c := by simp [lfs]
theorem msg_at {l : List UInt8} {i : Nat} (hi : i < l.length + 12) : (l ++ z12)[i]'(by simp [z12]; omega) = if h : i < l.length then l[i] else 48 := by
  split
  · rename_i h; rw [List.getElem_append_left h]
  · rename_i h; rw [List.getElem_append_right (by omega)]; exact List.getElem_replicate _
theorem lfs_bd {l : List UInt8} (hb : isB l) (k : Nat) (hk : k ≤ l.length + 12) : 0 ≤ lfs ((l ++ z12).take k) ∧ lfs ((l ++ z12).take k) < 4096 := by
  have hb2 := isB_app hb z12_isB
  have hl : (l ++ z12).length = l.length + 12 := by simp [z12]
  by_cases h : k ≤ 12
  · rw [lfs_small _ (isB_take hb2 k) (by simp; omega)]
    obtain ⟨n0, n1⟩ := numL_bd (isB_take hb2 k)
    have h9 : (2 : Nat) ^ ((l ++ z12).take k).length ≤ 2 ^ 12 := Nat.pow_le_pow_right (by omega) (by simp; omega)
    have e9 : (((2 : Nat) ^ ((l ++ z12).take k).length : Nat) : Int) = (2 : Int) ^ ((l ++ z12).take k).length := by simp
    omega
  · obtain ⟨m, rfl⟩ : ∃ m, k = m + 12 := ⟨k - 12, by omega⟩
    have h2 := div_lfs m ((l ++ z12).take (m + 12)) (isB_take hb2 _) (by rw [List.length_take]; omega)
    have h3 := lfs_small (((l ++ z12).take (m + 12)).take 12) (isB_take (isB_take hb2 _) 12) (by simp; omega)
    have h4 : lfs ((l ++ z12).take (m + 12)) = numL (divN m ((l ++ z12).take (m + 12))) := by
      rw [h2, ← h3]; unfold lfs; rw [← List.foldl_append, List.take_append_drop]
    have h5 := numL_bd (divN_isB m (isB_take hb2 (m + 12)))
    have h6 := divN_len m (l := (l ++ z12).take (m + 12)) (by rw [List.length_take]; omega)
    have h7 : (divN m ((l ++ z12).take (m + 12))).length = 12 := by rw [List.length_take] at h6; omega
    rw [h7] at h5
    rw [h4]
    exact h5
theorem l4Parity_c (l : List UInt8) (hb : Hid (isB l)) (hl : l.length ≤ 64) (w : World) : Calls Try.prog 127 #[.string (str l)] w fun r' w' => r' = .returned (.int .i64 (par l)) ∧ w = w' := by
  have hsz := str_size l
  have hat : ∀ i (h : i < (str l).size), (str l)[i]'h = l[i]'(by rw [str_size] at h; exact h) := fun i h => rfl
  obtain ⟨s, hs⟩ : ∃ s, str l = s := ⟨_, rfl⟩
  rw [hs] at hsz ⊢
  have HAT := hide (fun (i : Nat) (h : i < s.size) => (show (s[i]'h).toNat = (l[i]'(by omega)).toNat from by subst hs; rfl))
  clear hat hs
  go_enter Try.func127, Try.ntmps127
  go_wp2
  go_loop [3, 4] (fun rv iv => ∃ (i : Nat) (r : Int), i ≤ l.length + 12 ∧ iv = .int .i64 i ∧ rv = .int .i64 r ∧ Hid (r = lfs ((l ++ z12).take i)) ∧ 0 ≤ r ∧ r < 4096) (fun _ iv => l.length + 12 - (intOf iv).toNat)
  case atStart => exact ⟨0, 0, by omega, rfl, rfl, hide rfl, by omega, by omega⟩
  case round =>
    obtain ⟨i, r, hi, rfl, rfl, H, r0, r1⟩ := hrel
    have ewN : IntKind.i64.wrap ((l.length : Int) + 12) = (l.length : Int) + 12 := IntWalk.i64_in _ (by omega)
    by_cases hlt : i < l.length + 12
    · have hlti : (i : Int) < (l.length : Int) + 12 := by omega
      have hmsg := msg_at (l := l) hlt
      have htk : (l ++ z12).take (i + 1) = (l ++ z12).take i ++ [(l ++ z12)[i]'(by simp [z12]; omega)] := take_snocL (by simp [z12]; omega)
      have hbd := lfs_bd hb.out (i + 1) (by omega)
      rw [htk, lfs_snoc, ← H.out] at hbd
      have HS : Hid (lfs ((l ++ z12).take (i + 1)) = lstep r ((l ++ z12)[i]'(by simp [z12]; omega))) := hide (by rw [htk, lfs_snoc, ← H.out])
      obtain ⟨c, hc⟩ : ∃ c, (l ++ z12)[i]'(by simp [z12]; omega) = c := ⟨_, rfl⟩
      rw [hc] at hmsg hbd HS
      obtain ⟨u0, u1⟩ := hbd
      clear hc htk
      have fin : ∀ b : Int, (if c = 49 then (1 : Int) else 0) = b → (¬ 2 * r + b ≥ 4096 → lstep r c = 2 * r + b) ∧ (2 * r + b ≥ 4096 → lstep r c = xr (2 * r + b) 6159) := fun b hb => ⟨fun h => by unfold lstep; rw [hb, if_neg h], fun h => by unfold lstep; rw [hb, if_pos h]⟩
      have hx : ∀ b : Int, 0 ≤ b → b ≤ 1 → bits .xor .i64 (2 * r + b) 6159 = xr (2 * r + b) 6159 := fun b h0 h1 => i64_xor (by omega) (by omega) (by omega) (by omega)
      by_cases hin : i < l.length
      rotate_left
      · rw [dif_neg hin] at hmsg
        have hc9 : ¬ c = 49 := by rw [hmsg]; decide
        clear hmsg
        obtain ⟨f1, f2⟩ := fin 0 (by first | rw [if_pos hc9] | rw [if_neg hc9])
        have hxb := hx 0 (by omega) (by omega)
        rw [Int.add_zero] at f1 f2 hxb
        clear fin hx
        by_cases h4 : 2 * r ≥ 4096
        · have HF := hide (f2 h4)
          rw [f2 h4] at u0 u1
          clear f1 f2
          go_wp2
          go_round
          case rel => exact ⟨i + 1, _, by omega, by go_num, rfl, hide (by rw [HS.out, HF.out]), u0, u1⟩
          case measure => simp [intOf]; omega
        · have HF := hide (f1 h4)
          rw [f1 h4] at u0 u1
          clear f1 f2
          go_wp2
          go_round
          case rel => exact ⟨i + 1, _, by omega, by go_num, rfl, hide (by rw [HS.out, HF.out]), u0, u1⟩
          case measure => simp [intOf]; omega
      rw [dif_pos hin] at hmsg
      have his : i < s.size := by omega
      have hbyte := HAT.out i his
      rw [← hmsg] at hbyte
      rcases hb.out _ (List.getElem_mem hin) with h8 | h8
      · rw [← hmsg] at h8
        have hc9 : ¬ c = 49 := by rw [h8]; decide
        have hb48 : ((s[i]).toNat : Int) = 48 := by rw [hbyte, h8]; rfl
        clear hmsg h8 hbyte
        obtain ⟨f1, f2⟩ := fin 0 (by first | rw [if_pos hc9] | rw [if_neg hc9])
        have hxb := hx 0 (by omega) (by omega)
        rw [Int.add_zero] at f1 f2 hxb
        clear fin hx
        by_cases h4 : 2 * r ≥ 4096
        · have HF := hide (f2 h4)
          rw [f2 h4] at u0 u1
          clear f1 f2
          go_wp2
          go_round
          case rel => exact ⟨i + 1, _, by omega, by go_num, rfl, hide (by rw [HS.out, HF.out]), u0, u1⟩
          case measure => simp [intOf]; omega
        · have HF := hide (f1 h4)
          rw [f1 h4] at u0 u1
          clear f1 f2
          go_wp2
          go_round
          case rel => exact ⟨i + 1, _, by omega, by go_num, rfl, hide (by rw [HS.out, HF.out]), u0, u1⟩
          case measure => simp [intOf]; omega
      · rw [← hmsg] at h8
        have hc9 : c = 49 := h8
        have hb49 : ((s[i]).toNat : Int) = 49 := by rw [hbyte, h8]; rfl
        clear hmsg h8 hbyte
        obtain ⟨f1, f2⟩ := fin 1 (by first | rw [if_pos hc9] | rw [if_neg hc9])
        have hxb := hx 1 (by omega) (by omega)
        clear fin hx
        by_cases h4 : 2 * r + 1 ≥ 4096
        · have HF := hide (f2 h4)
          rw [f2 h4] at u0 u1
          clear f1 f2
          go_wp2
          go_round
          case rel => exact ⟨i + 1, _, by omega, by go_num, rfl, hide (by rw [HS.out, HF.out]), u0, u1⟩
          case measure => simp [intOf]; omega
        · have HF := hide (f1 h4)
          rw [f1 h4] at u0 u1
          clear f1 f2
          go_wp2
          go_round
          case rel => exact ⟨i + 1, _, by omega, by go_num, rfl, hide (by rw [HS.out, HF.out]), u0, u1⟩
          case measure => simp [intOf]; omega
    · obtain rfl : i = l.length + 12 := by omega
      have HF := hide (show r = par l from by rw [H.out, List.take_of_length_le (by simp [z12])]; rfl)
      go_wp2
      go_ret
      exact ⟨ret_eq (int_eq (by rw [HF.out])), rfl⟩
theorem l4Syndrome_c (l : List UInt8) (hb : Hid (isB l)) (h12 : 12 ≤ l.length) (hl : l.length ≤ 64) (w : World) : Calls Try.prog 118 #[.string (str l)] w fun r' w' => ∃ v, r' = .returned (.int .i64 v) ∧ (v == 0) = sdB l ∧ Below w.heap.size w w' := by
  obtain ⟨k, hk⟩ : ∃ k, l.length = k + 12 := ⟨l.length - 12, by omega⟩
  have hsn := sdB_xr hb.out
  rw [show l.length - 12 = k from by omega] at hsn
  have hp1 : ∀ W, Calls Try.prog 127 #[.string ((str l).extract 0 k)] W (fun r' w' => r' = .returned (.int .i64 (par (l.take k))) ∧ W = w') := fun W => by
    rw [ext_take]; exact l4Parity_c _ (hide (isB_take hb.out _)) (by simp; omega) W
  have hp2 : ∀ W, Calls Try.prog 117 #[.string ((str l).extract k (k + 12))] W (fun r' w' => r' = .returned (.int .i64 (numL (l.drop k))) ∧ W = w') := fun W => by
    rw [ext_drop _ _ _ (by omega)]
    have h := l2Number_c (str (l.drop k)) (hide (by rw [str_list]; exact isB_drop hb.out _)) (by rw [str_size]; simp; omega) W
    rw [str_list] at h
    exact h
  obtain ⟨p0, p1⟩ := par_bd (isB_take hb.out k)
  obtain ⟨n0, n1⟩ := numL_bd (isB_drop hb.out k)
  have hdl : (l.drop k).length = 12 := by simp; omega
  rw [hdl] at n1
  have hsz : (str l).size = k + 12 := by rw [str_size]; exact hk
  obtain ⟨s, hs⟩ : ∃ s, str l = s := ⟨_, rfl⟩
  obtain ⟨P, hP⟩ : ∃ P, par (l.take k) = P := ⟨_, rfl⟩
  obtain ⟨N, hN⟩ : ∃ N, numL (l.drop k) = N := ⟨_, rfl⟩
  rw [hs] at hsz hp1 hp2 ⊢
  rw [hP] at hp1 p0 p1 hsn
  rw [hN] at hp2 n0 n1 hsn
  have hx : bits .xor .i64 P N = xr P N := i64_xor p0 (by omega) n0 (by omega)
  have HSN := hide hsn
  clear hs hP hN hdl hsn
  have e1 : IntKind.i64.wrap (((k + 12 : Nat) : Int) - 12) = (k : Int) := by rw [IntWalk.i64_in _ (by omega)]; omega
  have e2 : IntKind.i64.wrap ((k : Int) + 12 - 12) = (k : Int) := by rw [IntWalk.i64_in _ (by omega)]; omega
  have e3 : wrap64 (k : Int) = (k : Int) := IntWalk.wrap64_in _ (by omega)
  have k1 : (k : Int) ≤ (k : Int) + 12 := by omega
  have k2 : k ≤ k + 12 := by omega
  clear hk h12
  go_enter Try.func118, Try.ntmps118
  go_wp2
  refine wp_region_det (fun w' => Below w.heap.size w w') (by kernel_rfl) (by kernel_rfl) (by first | (with_reducible assumption) | go_grown) ?_
  repeat (first
    | ((refine wpDet_skip (by rfl) ?_); simp only [Act.put, zp1, zp2, zp3])
    | ((refine wpDet_val (v := ?_) (by rfl) (fun w hS => ?_) ?_); rotate_left; (focus ((try dsimp only at hS); go_simp; (try (with_reducible rfl)); done)); simp only [Act.put, zp1, zp2, zp3])
    | ((refine wpDet_call (v := ?_) (f := ?_) (args := ?_) (by rfl) (fun w => ?_) (fun w hS => ?_) ?_); rotate_left; rotate_left; rotate_left; (focus (go_simp; (constructor <;> (with_reducible rfl)); done)); (focus (first | (go_at_call 127; refine (hp1 _).mono ?_; intro e w' h; refine ⟨h.1.trans ?_, h.2 ▸ hS⟩; with_reducible rfl) | (go_at_call 117; refine (hp2 _).mono ?_; intro e w' h; refine ⟨h.1.trans ?_, h.2 ▸ hS⟩; with_reducible rfl))); simp only [Act.put, zp1, zp2, zp3]))
  refine wpDet_nil ?_
  intro wd hS
  have hT : Below w.heap.size w wd := hS
  clear hS
  have hS := hT
  have hB := hT
  have hzw : w.heap.size ≤ wd.heap.size := hB.size
  go_wp2
  go_returns
  exact ⟨_, rfl, HSN.out, by go_grown⟩
theorem l2Flip_c (l : List UInt8) (i : Nat) (hi : i < l.length) (hb : Hid (isB l)) (hl : l.length ≤ 100000) (w : World) : Calls Try.prog 91 #[.string (str l), .int .i64 i] w (Gives w (.string (str (flipL l i)))) := by
  have hsz := str_size l
  have his : i < (str l).size := by omega
  have hbit := isB_at (s := str l) (by rw [str_list]; exact hb.out) his
  have hgd : l.getD i 0 = l[i]'hi := by rw [List.getD_eq_getElem?_getD, List.getElem?_eq_getElem hi]; rfl
  have hgs : (str l)[i]'his = l[i]'hi := rfl
  have ha1 : ∀ (x : ByteArray) (c : UInt8), x = str [c] → ∀ W, (Op.stringOp .add ((str l).extract 0 i) x).run Try.prog W = .ok (.string (str (l.take i ++ [c]))) W := fun x c e W => by
    rw [e, ext_take, run_string_add_sum W _ _ (by rw [str_size, str_size]; simp; omega), str_app]
  have ha2 : ∀ (c : UInt8) W, (Op.stringOp .add (str (l.take i ++ [c])) ((str l).extract (i + 1) l.length)).run Try.prog W = .ok (.string (str (l.take i ++ c :: l.drop (i + 1)))) W := fun c W => by
    rw [ext_drop _ _ _ (Nat.le_refl _), run_string_add_sum W _ _ (by rw [str_size, str_size]; simp; omega), str_app, List.append_assoc]; rfl
  have i1 : i + 1 ≤ l.length := by omega
  have i4 : (i : Int) ≤ (l.length : Int) := by omega
  have i5 : i ≤ l.length := by omega
  have i2 : (i : Int) + 1 ≤ (l.length : Int) := by omega
  have i3 : ((i : Int) + 1).toNat = i + 1 := by omega
  have i6 : (0 : Int) ≤ (i : Int) + 1 := by omega
  have ew : IntKind.i64.wrap ((i : Int) + 1) = (i : Int) + 1 := IntWalk.i64_in _ (by omega)
  rcases hbit with h8 | h8
  · have hc : l[i]'hi = 48 := by rw [hgs] at h8; exact UInt8.toNat_inj.1 (by have : UInt8.toNat 48 = 48 := rfl; omega)
    have HF := hide (show l.take i ++ (49 : UInt8) :: l.drop (i + 1) = flipL l i from by unfold flipL; rw [hgd, hc]; rfl)
    have a1 := ha1 { data := #[49] } 49 rfl
    have a2 := ha2 49
    clear ha1 ha2 hgd hgs hc
    go_enter Try.func91, Try.ntmps91
    go_wp2
    refine wp_region_det (fun w' => Below w.heap.size w w') (by kernel_rfl) (by kernel_rfl) (by first | (with_reducible assumption) | go_grown) ?_
    repeat (first
      | ((refine wpDet_skip (by rfl) ?_); simp only [Act.put, zp1, zp2, zp3])
      | ((refine wpDet_val (v := ?_) (by rfl) (fun w hS => ?_) ?_); rotate_left; (focus ((try dsimp only at hS); go_simp; (try (with_reducible rfl)); done)); simp only [Act.put, zp1, zp2, zp3]))
    refine wpDet_nil ?_
    intro wd hS
    have hT : Below w.heap.size w wd := hS
    clear hS
    have hS := hT
    have hB := hT
    have hzw : w.heap.size ≤ wd.heap.size := hB.size
    go_wp2
    go_returns
    exact ⟨ret_eq (by rw [← HF.out]; rfl), by go_grown⟩
  · have hc : l[i]'hi = 49 := by rw [hgs] at h8; exact UInt8.toNat_inj.1 (by have : UInt8.toNat 49 = 49 := rfl; omega)
    have HF := hide (show l.take i ++ (48 : UInt8) :: l.drop (i + 1) = flipL l i from by unfold flipL; rw [hgd, hc]; rfl)
    have a1 := ha1 { data := #[48] } 48 rfl
    have a2 := ha2 48
    clear ha1 ha2 hgd hgs hc
    go_enter Try.func91, Try.ntmps91
    go_wp2
    refine wp_region_det (fun w' => Below w.heap.size w w') (by kernel_rfl) (by kernel_rfl) (by first | (with_reducible assumption) | go_grown) ?_
    repeat (first
      | ((refine wpDet_skip (by rfl) ?_); simp only [Act.put, zp1, zp2, zp3])
      | ((refine wpDet_val (v := ?_) (by rfl) (fun w hS => ?_) ?_); rotate_left; (focus ((try dsimp only at hS); go_simp; (try (with_reducible rfl)); done)); simp only [Act.put, zp1, zp2, zp3]))
    refine wpDet_nil ?_
    intro wd hS
    have hT : Below w.heap.size w wd := hS
    clear hS
    have hS := hT
    have hB := hT
    have hzw : w.heap.size ≤ wd.heap.size := hB.size
    go_wp2
    go_returns
    exact ⟨ret_eq (by rw [← HF.out]; rfl), by go_grown⟩
end Go.Proofs.Ytbeojfhakmbacaa
namespace Go.Proofs.Ytbeojfhakmbacaa
open Go.RowKit
theorem l4Repair_c (l : List UInt8) (hb : Hid (isB l)) (h12 : 12 ≤ l.length) (hl : l.length ≤ 64) (w : World) : Calls Try.prog 95 #[.string (str l)] w (Gives w (.tuple #[.string (str (rpS l)), .int .i64 (rpI l), .bool (rpK l)])) := by
  have hso := l4Syndrome_c l hb h12 hl
  have hfl : ∀ i : Nat, i < l.length → ∀ W, Calls Try.prog 91 #[.string (str l), .int .i64 i] W (Gives W (.string (str (flipL l i)))) := fun i hi W => l2Flip_c l i hi hb (by omega) W
  have hsf : ∀ i : Nat, i < l.length → ∀ W, Calls Try.prog 118 #[.string (str (flipL l i))] W (fun r' w' => ∃ v, r' = .returned (.int .i64 v) ∧ (v == 0) = sdB (flipL l i) ∧ Below W.heap.size W w') := fun i hi W => l4Syndrome_c _ (hide (flip_isB hb.out i)) (by rw [flip_len hi]; exact h12) (by rw [flip_len hi]; exact hl) W
  have hsz := str_size l
  rcases hs : sdB l with _ | _
  rotate_left
  · obtain ⟨r1, r2, r3⟩ := rp_sound hs
    have HF := hide (show rpK l = true ∧ rpI l = -1 ∧ rpS l = l from ⟨r1, r2, r3⟩)
    rw [hs] at hso
    clear r1 r2 r3 hs
    go_enter Try.func95, Try.ntmps95
    go_wp2_with (first | (go_at_call 118; refine (hso _).mono ?_; rintro e w1 ⟨v, rfl, hv, hb1⟩))
    go_returns
    exact ⟨ret_eq (by rw [HF.out.1, HF.out.2.1, HF.out.2.2]; rfl), hb1⟩
  have HS := hide hs
  rw [hs] at hso
  clear hs
  go_enter Try.func95, Try.ntmps95
  go_wp2_with (first | (go_at_call 118; refine (hso _).mono ?_; rintro e w1 ⟨v, rfl, hv, hb1⟩; have hz1 := hb1.size))
  clear hso
  go_loopw [5] (fun iv wr => ∃ (p : Nat), p ≤ l.length ∧ iv = .int .i64 p ∧ Hid (∀ j, j < p → sdB (flipL l j) = false) ∧ Below w.heap.size w wr) (fun iv _ => l.length - (intOf iv).toNat)
  case atStart => exact ⟨0, by omega, rfl, hide (fun j hj => absurd hj (by omega)), hb1⟩
  case round =>
    obtain ⟨p, hp, rfl, HN, hB⟩ := hrel
    by_cases hlt : p < l.length
    · have hf := hfl p hlt
      have hs2 := hsf p hlt
      rcases hk : sdB (flipL l p) with _ | _
      · rw [hk] at hs2
        have HN2 := hide (show ∀ j, j < p + 1 → sdB (flipL l j) = false from fun j hj => by
          by_cases e : j = p
          · subst e; exact hk
          · exact HN.out j (by omega))
        obtain ⟨S, hS⟩ : ∃ S, str (flipL l p) = S := ⟨_, rfl⟩
        rw [hS] at hf hs2
        clear hk hfl hsf hS
        have hBB := hB
        go_wp2_with (first | (go_at_call 91; refine (hf _).mono ?_; rintro e w3 ⟨rfl, hb3⟩; have hBB := below_via hBB hb3; clear hb3) | (go_at_call 118; refine (hs2 _).mono ?_; rintro e w4 ⟨u, rfl, hu, hb4⟩; have hBB := below_via hBB hb4; clear hb4))
        go_roundw
        case rel => exact ⟨p + 1, by omega, by go_num, HN2, hBB⟩
        case measure => simp [intOf]; omega
      · rw [hk] at hs2
        obtain ⟨r1, r2, r3⟩ := rp_at HS.out (repI_at hlt HN.out hk)
        obtain ⟨S, hS⟩ : ∃ S, str (flipL l p) = S := ⟨_, rfl⟩
        have HF := hide (show rpK l = true ∧ rpI l = p ∧ str (rpS l) = S from ⟨r1, r2, by rw [r3]; exact hS⟩)
        rw [hS] at hf hs2
        clear hk r1 r2 r3 hfl hsf hS
        have hBB := hB
        go_wp2_with (first | (go_at_call 91; refine (hf _).mono ?_; rintro e w3 ⟨rfl, hb3⟩; have hBB := below_via hBB hb3; clear hb3) | (go_at_call 118; refine (hs2 _).mono ?_; rintro e w4 ⟨u, rfl, hu, hb4⟩; have hBB := below_via hBB hb4; clear hb4))
        go_returns
        exact ⟨ret_eq (by rw [HF.out.1, HF.out.2.1, HF.out.2.2]; rfl), hBB⟩
    · obtain rfl : p = l.length := by omega
      obtain ⟨r1, r2, r3⟩ := rp_none HS.out (repI_none HN.out)
      have HF := hide (show rpK l = false ∧ rpI l = 0 ∧ str (rpS l) = { data := #[] } from ⟨r1, r2, by rw [r3]; rfl⟩)
      clear r1 r2 r3 hfl hsf
      go_wp2
      go_returns
      exact ⟨ret_eq (by rw [HF.out.1, HF.out.2.1, HF.out.2.2]; rfl), hB⟩
theorem l5Good_c (k a d : Int) (w : World) : Calls Try.prog 119 #[.agg #[.int .i64 k, .int .i64 a, .int .i64 d]] w (Gives w (.bool (vFr k a d))) := by
  rcases h1 : wi k 1 4 with _ | _ <;> rcases h2 : wi a 1 65535 with _ | _ <;> rcases h3 : wi d 0 16777215 with _ | _
  all_goals
    go_enter Try.func119, Try.ntmps119
    go_wp2_with (first | (go_at_call 98; refine (l1In_c _ _ _ _).mono ?_; rintro e wz ⟨rfl, rfl⟩) | (go_at_call 97; refine (l5Address_c _ _).mono ?_; rintro e wz ⟨rfl, rfl⟩))
    go_returns
    exact ⟨ret_eq (by simp [vFr, h1, h2, h3]), by go_grown⟩
end Go.Proofs.Ytbeojfhakmbacaa
