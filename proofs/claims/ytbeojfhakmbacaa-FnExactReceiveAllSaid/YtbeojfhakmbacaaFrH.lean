/- Contracts: a text of bits of which one may be wrong, by the reference. -/
import Derived.Test.YtbeojfhakmbacaaFrG
namespace Go.Proofs.Ytbeojfhakmbacaa
open Go.RowKit
theorem l4Repair_c (l : List UInt8) (hb : Hid (isB l)) (h12 : 12 ≤ l.length) (hl : l.length ≤ 64) (w : World) : Calls Try.prog 95 #[.string (str l)] w (Gives w (.tuple #[.string (str (rpS l)), .int .i64 (rpI l), .bool (rpK l)])) := by
  have hso := l4Syndrome_c l hb h12 hl
  have hfl : ∀ i : Nat, i < l.length → ∀ W, Calls Try.prog 91 #[.string (str l), .int .i64 i] W (Gives W (.string (str (flipL l i)))) := fun i hi W => l2Flip_c l i hi hb (by omega) W
  have hsf : ∀ i : Nat, i < l.length → ∀ W, Calls Try.prog 118 #[.string (str (flipL l i))] W (fun r' w' => ∃ v, r' = .returned (.int .i64 v) ∧ (v == 0) = sdB (flipL l i) ∧ Below W.heap.size W w') := fun i hi W => l4Syndrome_c _ (hide (flip_isB hb.out i)) (by rw [flip_len hi]; exact h12) (by rw [flip_len hi]; exact hl) W
  have hsz := str_size l
  rcases hs : sdB l with _ | _
  rotate_left
  · obtain ⟨r1, r2, r3⟩ := rp_sound hs
    have HF := hide (show rpK l = true ∧ rpI l = -1 ∧ rpS l = l from ⟨r1, r2, r3⟩)
    rw [hs] at hso
    clear r1 r2 r3 hs
    go_enter Try.func95, Try.ntmps95
    go_wp2_with (first | (go_at_call 118; refine (hso _).mono ?_; rintro e w1 ⟨v, rfl, hv, hb1⟩))
    go_returns
    exact ⟨ret_eq (by rw [HF.out.1, HF.out.2.1, HF.out.2.2]; rfl), hb1⟩
  have HS := hide hs
  rw [hs] at hso
  clear hs
  go_enter Try.func95, Try.ntmps95
  go_wp2_with (first | (go_at_call 118; refine (hso _).mono ?_; rintro e w1 ⟨v, rfl, hv, hb1⟩; have hz1 := hb1.size))
  clear hso
  go_loopw [5] (fun iv wr => ∃ (p : Nat), p ≤ l.length ∧ iv = .int .i64 p ∧ Hid (∀ j, j < p → sdB (flipL l j) = false) ∧ Below w.heap.size w wr) (fun iv _ => l.length - (intOf iv).toNat)
  case atStart => exact ⟨0, by omega, rfl, hide (fun j hj => absurd hj (by omega)), hb1⟩
  case round =>
    obtain ⟨p, hp, rfl, HN, hB⟩ := hrel
    by_cases hlt : p < l.length
    · have hf := hfl p hlt
      have hs2 := hsf p hlt
      rcases hk : sdB (flipL l p) with _ | _
      · rw [hk] at hs2
        have HN2 := hide (show ∀ j, j < p + 1 → sdB (flipL l j) = false from fun j hj => by
          by_cases e : j = p
          · subst e; exact hk
          · exact HN.out j (by omega))
        obtain ⟨S, hS⟩ : ∃ S, str (flipL l p) = S := ⟨_, rfl⟩
        rw [hS] at hf hs2
        clear hk hfl hsf hS
        have hBB := hB
        go_wp2_with (first | (go_at_call 91; refine (hf _).mono ?_; rintro e w3 ⟨rfl, hb3⟩; have hBB := below_via hBB hb3; clear hb3) | (go_at_call 118; refine (hs2 _).mono ?_; rintro e w4 ⟨u, rfl, hu, hb4⟩; have hBB := below_via hBB hb4; clear hb4))
        go_roundw
        case rel => exact ⟨p + 1, by omega, by go_num, HN2, hBB⟩
        case measure => simp [intOf]; omega
      · rw [hk] at hs2
        obtain ⟨r1, r2, r3⟩ := rp_at HS.out (repI_at hlt HN.out hk)
        obtain ⟨S, hS⟩ : ∃ S, str (flipL l p) = S := ⟨_, rfl⟩
        have HF := hide (show rpK l = true ∧ rpI l = p ∧ str (rpS l) = S from ⟨r1, r2, by rw [r3]; exact hS⟩)
        rw [hS] at hf hs2
        clear hk r1 r2 r3 hfl hsf hS
        have hBB := hB
        go_wp2_with (first | (go_at_call 91; refine (hf _).mono ?_; rintro e w3 ⟨rfl, hb3⟩; have hBB := below_via hBB hb3; clear hb3) | (go_at_call 118; refine (hs2 _).mono ?_; rintro e w4 ⟨u, rfl, hu, hb4⟩; have hBB := below_via hBB hb4; clear hb4))
        go_returns
        exact ⟨ret_eq (by rw [HF.out.1, HF.out.2.1, HF.out.2.2]; rfl), hBB⟩
    · obtain rfl : p = l.length := by omega
      obtain ⟨r1, r2, r3⟩ := rp_none HS.out (repI_none HN.out)
      have HF := hide (show rpK l = false ∧ rpI l = 0 ∧ str (rpS l) = { data := #[] } from ⟨r1, r2, by rw [r3]; rfl⟩)
      clear r1 r2 r3 hfl hsf
      go_wp2
      go_returns
      exact ⟨ret_eq (by rw [HF.out.1, HF.out.2.1, HF.out.2.2]; rfl), hB⟩
theorem l5Good_c (k a d : Int) (w : World) : Calls Try.prog 119 #[.agg #[.int .i64 k, .int .i64 a, .int .i64 d]] w (Gives w (.bool (vFr k a d))) := by
  rcases h1 : wi k 1 4 with _ | _ <;> rcases h2 : wi a 1 65535 with _ | _ <;> rcases h3 : wi d 0 16777215 with _ | _
  all_goals
    go_enter Try.func119, Try.ntmps119
    go_wp2_with (first | (go_at_call 98; refine (l1In_c _ _ _ _).mono ?_; rintro e wz ⟨rfl, rfl⟩) | (go_at_call 97; refine (l5Address_c _ _).mono ?_; rintro e wz ⟨rfl, rfl⟩))
    go_returns
    exact ⟨ret_eq (by simp [vFr, h1, h2, h3]), by go_grown⟩
end Go.Proofs.Ytbeojfhakmbacaa
