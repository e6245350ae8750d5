/- Contracts: the parity of a text of bits and its repair, by the reference. -/
import Derived.Test.YtbeojfhakmbacaaFrF
namespace Go.Proofs.Ytbeojfhakmbacaa
open Go.RowKit
theorem lfs_snoc (l : List UInt8) (c : UInt8) : lfs (l ++ [c]) = lstep (lfs l) c := by simp [lfs]
theorem z12_take (k : Nat) : z12.take k = List.replicate (min k 12) 48 := by unfold z12; rw [List.take_replicate]
theorem msg_at {l : List UInt8} {i : Nat} (hi : i < l.length + 12) : (l ++ z12)[i]'(by simp [z12]; omega) = if h : i < l.length then l[i] else 48 := by
  split
  · rename_i h; rw [List.getElem_append_left h]
  · rename_i h; rw [List.getElem_append_right (by omega)]; exact List.getElem_replicate _
theorem lfs_bd {l : List UInt8} (hb : isB l) (k : Nat) (hk : k ≤ l.length + 12) : 0 ≤ lfs ((l ++ z12).take k) ∧ lfs ((l ++ z12).take k) < 4096 := by
  have hb2 := isB_app hb z12_isB
  have hl : (l ++ z12).length = l.length + 12 := by simp [z12]
  by_cases h : k ≤ 12
  · rw [lfs_small _ (isB_take hb2 k) (by simp; omega)]
    obtain ⟨n0, n1⟩ := numL_bd (isB_take hb2 k)
    have h9 : (2 : Nat) ^ ((l ++ z12).take k).length ≤ 2 ^ 12 := Nat.pow_le_pow_right (by omega) (by simp; omega)
    have e9 : (((2 : Nat) ^ ((l ++ z12).take k).length : Nat) : Int) = (2 : Int) ^ ((l ++ z12).take k).length := by simp
    omega
  · obtain ⟨m, rfl⟩ : ∃ m, k = m + 12 := ⟨k - 12, by omega⟩
    have h2 := div_lfs m ((l ++ z12).take (m + 12)) (isB_take hb2 _) (by rw [List.length_take]; omega)
    have h3 := lfs_small (((l ++ z12).take (m + 12)).take 12) (isB_take (isB_take hb2 _) 12) (by simp; omega)
    have h4 : lfs ((l ++ z12).take (m + 12)) = numL (divN m ((l ++ z12).take (m + 12))) := by
      rw [h2, ← h3]; unfold lfs; rw [← List.foldl_append, List.take_append_drop]
    have h5 := numL_bd (divN_isB m (isB_take hb2 (m + 12)))
    have h6 := divN_len m (l := (l ++ z12).take (m + 12)) (by rw [List.length_take]; omega)
    have h7 : (divN m ((l ++ z12).take (m + 12))).length = 12 := by rw [List.length_take] at h6; omega
    rw [h7] at h5
    rw [h4]
    exact h5
theorem l4Parity_c (l : List UInt8) (hb : Hid (isB l)) (hl : l.length ≤ 64) (w : World) : Calls Try.prog 127 #[.string (str l)] w fun r' w' => r' = .returned (.int .i64 (par l)) ∧ w = w' := by
  have hsz := str_size l
  have hat : ∀ i (h : i < (str l).size), (str l)[i]'h = l[i]'(by rw [str_size] at h; exact h) := fun i h => rfl
  obtain ⟨s, hs⟩ : ∃ s, str l = s := ⟨_, rfl⟩
  rw [hs] at hsz ⊢
  have HAT := hide (fun (i : Nat) (h : i < s.size) => (show (s[i]'h).toNat = (l[i]'(by omega)).toNat from by subst hs; rfl))
  clear hat hs
  go_enter Try.func127, Try.ntmps127
  go_wp2
  go_loop [3, 4] (fun rv iv => ∃ (i : Nat) (r : Int), i ≤ l.length + 12 ∧ iv = .int .i64 i ∧ rv = .int .i64 r ∧ Hid (r = lfs ((l ++ z12).take i)) ∧ 0 ≤ r ∧ r < 4096) (fun _ iv => l.length + 12 - (intOf iv).toNat)
  case atStart => exact ⟨0, 0, by omega, rfl, rfl, hide rfl, by omega, by omega⟩
  case round =>
    obtain ⟨i, r, hi, rfl, rfl, H, r0, r1⟩ := hrel
    have ewN : IntKind.i64.wrap ((l.length : Int) + 12) = (l.length : Int) + 12 := IntWalk.i64_in _ (by omega)
    by_cases hlt : i < l.length + 12
    · have hlti : (i : Int) < (l.length : Int) + 12 := by omega
      have hmsg := msg_at (l := l) hlt
      have htk : (l ++ z12).take (i + 1) = (l ++ z12).take i ++ [(l ++ z12)[i]'(by simp [z12]; omega)] := take_snocL (by simp [z12]; omega)
      have hbd := lfs_bd hb.out (i + 1) (by omega)
      rw [htk, lfs_snoc, ← H.out] at hbd
      have HS : Hid (lfs ((l ++ z12).take (i + 1)) = lstep r ((l ++ z12)[i]'(by simp [z12]; omega))) := hide (by rw [htk, lfs_snoc, ← H.out])
      obtain ⟨c, hc⟩ : ∃ c, (l ++ z12)[i]'(by simp [z12]; omega) = c := ⟨_, rfl⟩
      rw [hc] at hmsg hbd HS
      obtain ⟨u0, u1⟩ := hbd
      clear hc htk
      have fin : ∀ b : Int, (if c = 49 then (1 : Int) else 0) = b → (¬ 2 * r + b ≥ 4096 → lstep r c = 2 * r + b) ∧ (2 * r + b ≥ 4096 → lstep r c = xr (2 * r + b) 6159) := fun b hb => ⟨fun h => by unfold lstep; rw [hb, if_neg h], fun h => by unfold lstep; rw [hb, if_pos h]⟩
      have hx : ∀ b : Int, 0 ≤ b → b ≤ 1 → bits .xor .i64 (2 * r + b) 6159 = xr (2 * r + b) 6159 := fun b h0 h1 => i64_xor (by omega) (by omega) (by omega) (by omega)
      by_cases hin : i < l.length
      rotate_left
      · rw [dif_neg hin] at hmsg
        have hc9 : ¬ c = 49 := by rw [hmsg]; decide
        clear hmsg
        obtain ⟨f1, f2⟩ := fin 0 (by first | rw [if_pos hc9] | rw [if_neg hc9])
        have hxb := hx 0 (by omega) (by omega)
        rw [Int.add_zero] at f1 f2 hxb
        clear fin hx
        by_cases h4 : 2 * r ≥ 4096
        · have HF := hide (f2 h4)
          rw [f2 h4] at u0 u1
          clear f1 f2
          go_wp2
          go_round
          case rel => exact ⟨i + 1, _, by omega, by go_num, rfl, hide (by rw [HS.out, HF.out]), u0, u1⟩
          case measure => simp [intOf]; omega
        · have HF := hide (f1 h4)
          rw [f1 h4] at u0 u1
          clear f1 f2
          go_wp2
          go_round
          case rel => exact ⟨i + 1, _, by omega, by go_num, rfl, hide (by rw [HS.out, HF.out]), u0, u1⟩
          case measure => simp [intOf]; omega
      rw [dif_pos hin] at hmsg
      have his : i < s.size := by omega
      have hbyte := HAT.out i his
      rw [← hmsg] at hbyte
      rcases hb.out _ (List.getElem_mem hin) with h8 | h8
      · rw [← hmsg] at h8
        have hc9 : ¬ c = 49 := by rw [h8]; decide
        have hb48 : ((s[i]).toNat : Int) = 48 := by rw [hbyte, h8]; rfl
        clear hmsg h8 hbyte
        obtain ⟨f1, f2⟩ := fin 0 (by first | rw [if_pos hc9] | rw [if_neg hc9])
        have hxb := hx 0 (by omega) (by omega)
        rw [Int.add_zero] at f1 f2 hxb
        clear fin hx
        by_cases h4 : 2 * r ≥ 4096
        · have HF := hide (f2 h4)
          rw [f2 h4] at u0 u1
          clear f1 f2
          go_wp2
          go_round
          case rel => exact ⟨i + 1, _, by omega, by go_num, rfl, hide (by rw [HS.out, HF.out]), u0, u1⟩
          case measure => simp [intOf]; omega
        · have HF := hide (f1 h4)
          rw [f1 h4] at u0 u1
          clear f1 f2
          go_wp2
          go_round
          case rel => exact ⟨i + 1, _, by omega, by go_num, rfl, hide (by rw [HS.out, HF.out]), u0, u1⟩
          case measure => simp [intOf]; omega
      · rw [← hmsg] at h8
        have hc9 : c = 49 := h8
        have hb49 : ((s[i]).toNat : Int) = 49 := by rw [hbyte, h8]; rfl
        clear hmsg h8 hbyte
        obtain ⟨f1, f2⟩ := fin 1 (by first | rw [if_pos hc9] | rw [if_neg hc9])
        have hxb := hx 1 (by omega) (by omega)
        clear fin hx
        by_cases h4 : 2 * r + 1 ≥ 4096
        · have HF := hide (f2 h4)
          rw [f2 h4] at u0 u1
          clear f1 f2
          go_wp2
          go_round
          case rel => exact ⟨i + 1, _, by omega, by go_num, rfl, hide (by rw [HS.out, HF.out]), u0, u1⟩
          case measure => simp [intOf]; omega
        · have HF := hide (f1 h4)
          rw [f1 h4] at u0 u1
          clear f1 f2
          go_wp2
          go_round
          case rel => exact ⟨i + 1, _, by omega, by go_num, rfl, hide (by rw [HS.out, HF.out]), u0, u1⟩
          case measure => simp [intOf]; omega
    · obtain rfl : i = l.length + 12 := by omega
      have HF := hide (show r = par l from by rw [H.out, List.take_of_length_le (by simp [z12])]; rfl)
      go_wp2
      go_ret
      exact ⟨ret_eq (int_eq (by rw [HF.out])), rfl⟩
theorem l4Syndrome_c (l : List UInt8) (hb : Hid (isB l)) (h12 : 12 ≤ l.length) (hl : l.length ≤ 64) (w : World) : Calls Try.prog 118 #[.string (str l)] w fun r' w' => ∃ v, r' = .returned (.int .i64 v) ∧ (v == 0) = sdB l ∧ Below w.heap.size w w' := by
  obtain ⟨k, hk⟩ : ∃ k, l.length = k + 12 := ⟨l.length - 12, by omega⟩
  have hsn := sdB_xr hb.out
  rw [show l.length - 12 = k from by omega] at hsn
  have hp1 : ∀ W, Calls Try.prog 127 #[.string ((str l).extract 0 k)] W (fun r' w' => r' = .returned (.int .i64 (par (l.take k))) ∧ W = w') := fun W => by
    rw [ext_take]; exact l4Parity_c _ (hide (isB_take hb.out _)) (by simp; omega) W
  have hp2 : ∀ W, Calls Try.prog 117 #[.string ((str l).extract k (k + 12))] W (fun r' w' => r' = .returned (.int .i64 (numL (l.drop k))) ∧ W = w') := fun W => by
    rw [ext_drop _ _ _ (by omega)]
    have h := l2Number_c (str (l.drop k)) (hide (by rw [str_list]; exact isB_drop hb.out _)) (by rw [str_size]; simp; omega) W
    rw [str_list] at h
    exact h
  obtain ⟨p0, p1⟩ := par_bd (isB_take hb.out k)
  obtain ⟨n0, n1⟩ := numL_bd (isB_drop hb.out k)
  have hdl : (l.drop k).length = 12 := by simp; omega
  rw [hdl] at n1
  have hsz : (str l).size = k + 12 := by rw [str_size]; exact hk
  obtain ⟨s, hs⟩ : ∃ s, str l = s := ⟨_, rfl⟩
  obtain ⟨P, hP⟩ : ∃ P, par (l.take k) = P := ⟨_, rfl⟩
  obtain ⟨N, hN⟩ : ∃ N, numL (l.drop k) = N := ⟨_, rfl⟩
  rw [hs] at hsz hp1 hp2 ⊢
  rw [hP] at hp1 p0 p1 hsn
  rw [hN] at hp2 n0 n1 hsn
  have hx : bits .xor .i64 P N = xr P N := i64_xor p0 (by omega) n0 (by omega)
  have HSN := hide hsn
  clear hs hP hN hdl hsn
  have e1 : IntKind.i64.wrap (((k + 12 : Nat) : Int) - 12) = (k : Int) := by rw [IntWalk.i64_in _ (by omega)]; omega
  have e2 : IntKind.i64.wrap ((k : Int) + 12 - 12) = (k : Int) := by rw [IntWalk.i64_in _ (by omega)]; omega
  have e3 : wrap64 (k : Int) = (k : Int) := IntWalk.wrap64_in _ (by omega)
  have k1 : (k : Int) ≤ (k : Int) + 12 := by omega
  have k2 : k ≤ k + 12 := by omega
  clear hk h12
  go_enter Try.func118, Try.ntmps118
  go_wp2
  refine wp_region_det (fun w' => Below w.heap.size w w') (by kernel_rfl) (by kernel_rfl) (by first | (with_reducible assumption) | go_grown) ?_
  repeat (first
    | ((refine wpDet_skip (by rfl) ?_); simp only [Act.put, List.setIfInBounds_toArray, List.set_cons_zero, List.set_cons_succ])
    | ((refine wpDet_val (v := ?_) (by rfl) (fun w hS => ?_) ?_); rotate_left; (focus ((try dsimp only at hS); go_simp; (try (with_reducible rfl)); done)); simp only [Act.put, List.setIfInBounds_toArray, List.set_cons_zero, List.set_cons_succ])
    | ((refine wpDet_call (v := ?_) (f := ?_) (args := ?_) (by rfl) (fun w => ?_) (fun w hS => ?_) ?_); rotate_left; rotate_left; rotate_left; (focus (go_simp; (constructor <;> (with_reducible rfl)); done)); (focus (first | (go_at_call 127; refine (hp1 _).mono ?_; intro e w' h; refine ⟨h.1.trans ?_, h.2 ▸ hS⟩; with_reducible rfl) | (go_at_call 117; refine (hp2 _).mono ?_; intro e w' h; refine ⟨h.1.trans ?_, h.2 ▸ hS⟩; with_reducible rfl))); simp only [Act.put, List.setIfInBounds_toArray, List.set_cons_zero, List.set_cons_succ]))
  refine wpDet_nil ?_
  intro wd hS
  have hT : Below w.heap.size w wd := hS
  clear hS
  have hS := hT
  have hB := hT
  have hzw : w.heap.size ≤ wd.heap.size := hB.size
  go_wp2
  go_returns
  exact ⟨_, rfl, HSN.out, by go_grown⟩
theorem l2Flip_c (l : List UInt8) (i : Nat) (hi : i < l.length) (hb : Hid (isB l)) (hl : l.length ≤ 100000) (w : World) : Calls Try.prog 91 #[.string (str l), .int .i64 i] w (Gives w (.string (str (flipL l i)))) := by
  have hsz := str_size l
  have his : i < (str l).size := by omega
  have hbit := isB_at (s := str l) (by rw [str_list]; exact hb.out) his
  have hgd : l.getD i 0 = l[i]'hi := by rw [List.getD_eq_getElem?_getD, List.getElem?_eq_getElem hi]; rfl
  have hgs : (str l)[i]'his = l[i]'hi := rfl
  have ha1 : ∀ (x : ByteArray) (c : UInt8), x = str [c] → ∀ W, (Op.stringOp .add ((str l).extract 0 i) x).run Try.prog W = .ok (.string (str (l.take i ++ [c]))) W := fun x c e W => by
    rw [e, ext_take, run_string_add_sum W _ _ (by rw [str_size, str_size]; simp; omega), str_app]
  have ha2 : ∀ (c : UInt8) W, (Op.stringOp .add (str (l.take i ++ [c])) ((str l).extract (i + 1) l.length)).run Try.prog W = .ok (.string (str (l.take i ++ c :: l.drop (i + 1)))) W := fun c W => by
    rw [ext_drop _ _ _ (Nat.le_refl _), run_string_add_sum W _ _ (by rw [str_size, str_size]; simp; omega), str_app, List.append_assoc]; rfl
  have i1 : i + 1 ≤ l.length := by omega
  have i4 : (i : Int) ≤ (l.length : Int) := by omega
  have i5 : i ≤ l.length := by omega
  have i2 : (i : Int) + 1 ≤ (l.length : Int) := by omega
  have i3 : ((i : Int) + 1).toNat = i + 1 := by omega
  have i6 : (0 : Int) ≤ (i : Int) + 1 := by omega
  have ew : IntKind.i64.wrap ((i : Int) + 1) = (i : Int) + 1 := IntWalk.i64_in _ (by omega)
  rcases hbit with h8 | h8
  · have hc : l[i]'hi = 48 := by rw [hgs] at h8; exact UInt8.toNat_inj.1 (by have : UInt8.toNat 48 = 48 := rfl; omega)
    have HF := hide (show l.take i ++ (49 : UInt8) :: l.drop (i + 1) = flipL l i from by unfold flipL; rw [hgd, hc]; rfl)
    have a1 := ha1 { data := #[49] } 49 rfl
    have a2 := ha2 49
    clear ha1 ha2 hgd hgs hc
    go_enter Try.func91, Try.ntmps91
    go_wp2
    refine wp_region_det (fun w' => Below w.heap.size w w') (by kernel_rfl) (by kernel_rfl) (by first | (with_reducible assumption) | go_grown) ?_
    repeat (first
      | ((refine wpDet_skip (by rfl) ?_); simp only [Act.put, List.setIfInBounds_toArray, List.set_cons_zero, List.set_cons_succ])
      | ((refine wpDet_val (v := ?_) (by rfl) (fun w hS => ?_) ?_); rotate_left; (focus ((try dsimp only at hS); go_simp; (try (with_reducible rfl)); done)); simp only [Act.put, List.setIfInBounds_toArray, List.set_cons_zero, List.set_cons_succ]))
    refine wpDet_nil ?_
    intro wd hS
    have hT : Below w.heap.size w wd := hS
    clear hS
    have hS := hT
    have hB := hT
    have hzw : w.heap.size ≤ wd.heap.size := hB.size
    go_wp2
    go_returns
    exact ⟨ret_eq (by rw [← HF.out]; rfl), by go_grown⟩
  · have hc : l[i]'hi = 49 := by rw [hgs] at h8; exact UInt8.toNat_inj.1 (by have : UInt8.toNat 49 = 49 := rfl; omega)
    have HF := hide (show l.take i ++ (48 : UInt8) :: l.drop (i + 1) = flipL l i from by unfold flipL; rw [hgd, hc]; rfl)
    have a1 := ha1 { data := #[48] } 48 rfl
    have a2 := ha2 48
    clear ha1 ha2 hgd hgs hc
    go_enter Try.func91, Try.ntmps91
    go_wp2
    refine wp_region_det (fun w' => Below w.heap.size w w') (by kernel_rfl) (by kernel_rfl) (by first | (with_reducible assumption) | go_grown) ?_
    repeat (first
      | ((refine wpDet_skip (by rfl) ?_); simp only [Act.put, List.setIfInBounds_toArray, List.set_cons_zero, List.set_cons_succ])
      | ((refine wpDet_val (v := ?_) (by rfl) (fun w hS => ?_) ?_); rotate_left; (focus ((try dsimp only at hS); go_simp; (try (with_reducible rfl)); done)); simp only [Act.put, List.setIfInBounds_toArray, List.set_cons_zero, List.set_cons_succ]))
    refine wpDet_nil ?_
    intro wd hS
    have hT : Below w.heap.size w wd := hS
    clear hS
    have hS := hT
    have hB := hT
    have hzw : w.heap.size ≤ wd.heap.size := hB.size
    go_wp2
    go_returns
    exact ⟨ret_eq (by rw [← HF.out]; rfl), by go_grown⟩
end Go.Proofs.Ytbeojfhakmbacaa
