/- Contracts: a text of bits of which one may be wrong; the frame in it, by the program. -/
import Derived.Test.YtbeojfhakmbacaaFrE
import Derived.Test.YtbeojfhakmbacaaReA
namespace Go.Proofs.Ytbeojfhakmbacaa
open Go.RowKit
theorem isB_asc2 {l : List UInt8} (hb : isB l) {p : Nat} (hp : p < (str l).size) : ((str l)[p]'hp).toNat < 128 := isB_asc hb hp
theorem repairBit_c (l : List UInt8) (hb : Hid (isB l)) (h12 : 12 ≤ l.length) (hl : l.length ≤ 64) (w : World) : Calls Try.prog 66 #[.string (str l)] w (Gives w (.tuple #[.string (str (rpS l)), .int .i64 (rpI l), .bool (rpK l)])) := by
  have hca : ∀ W, Calls Try.prog 104 #[.string (str l)] W fun r' w' => r' = .returned (.bool true) ∧ W = w' := isCarrier_c (str l) (hide (by rw [str_list]; exact hb.out)) (by rw [str_size]; exact h12) (by rw [str_size]; exact hl)
  have hso := isSound_c l hb h12 hl
  have hfl : ∀ i : Nat, i < l.length → ∀ W, Calls Try.prog 106 #[.string (str l), .int .i64 i] W (Gives W (.string (str (flipL l i)))) := fun i hi W => by
    have h := flip_c (str l) i (by rw [str_size]; exact hi) (hide (by rw [str_list]; exact hb.out)) (by rw [str_size]; omega) W
    rw [str_list] at h
    exact h
  have hsf : ∀ i : Nat, i < l.length → ∀ W, Calls Try.prog 105 #[.string (str (flipL l i))] W (Gives W (.bool (sdB (flipL l i)))) := fun i hi W => isSound_c _ (hide (flip_isB hb.out i)) (by rw [flip_len hi]; exact h12) (by rw [flip_len hi]; exact hl) W
  have hsz := str_size l
  rcases hs : sdB l with _ | _
  rotate_left
  · obtain ⟨r1, r2, r3⟩ := rp_sound hs
    have HF := hide (show rpK l = true ∧ rpI l = -1 ∧ rpS l = l from ⟨r1, r2, r3⟩)
    rw [hs] at hso
    clear r1 r2 r3 hs
    go_enter Try.func66, Try.ntmps66
    go_wp2_with (first | (go_at_call 104; refine (hca _).mono ?_; rintro e wz ⟨rfl, rfl⟩) | (go_at_call 105; refine (hso _).mono ?_; rintro e w1 ⟨rfl, hb1⟩))
    go_returns
    exact ⟨ret_eq (by rw [HF.out.1, HF.out.2.1, HF.out.2.2]; rfl), hb1⟩
  have HS := hide hs
  rw [hs] at hso
  clear hs
  go_enter Try.func66, Try.ntmps66
  go_wp2_with (first | (go_at_call 104; refine (hca _).mono ?_; rintro e wz ⟨rfl, rfl⟩) | (go_at_call 105; refine (hso _).mono ?_; rintro e w1 ⟨rfl, hb1⟩; have hz1 := hb1.size))
  clear hca hso
  go_loopw [5] (fun _ wr => ∃ (p : Nat), p ≤ l.length ∧ wr.heap[w1.heap.size]? = some (.stringIter (str l) p) ∧ Hid (∀ j, j < p → sdB (flipL l j) = false) ∧ Below w.heap.size w wr) (fun _ wr => l.length - wr.iterPos w1.heap.size)
  case atStart => exact ⟨0, by omega, World.iter_heap w1 _ 0, hide (fun j hj => absurd hj (by omega)), hb1.trans ((Below.refl _ _).alloc hz1 _)⟩
  case round =>
    obtain ⟨p, hp, hit, HN, hB⟩ := hrel
    have hpos0 := iter_pos hit
    by_cases hlt : p < l.length
    · have hnx : ∀ ty, (Instr.next (.pointer (some ⟨w1.heap.size, 0, none⟩)) true ty).run Try.prog wr = _ := fun ty => Lib.run_next_ascii_at wr w1.heap.size (str l) p ty hit (by rw [str_size]; exact hlt) (isB_asc hb.out _)
      have hit2 := Lib.iterAt_heap wr w1.heap.size (str l) p (p + 1) hit
      have hB2 := Lib.below_iterAt hB (k := w1.heap.size) hz1 (str l) (p + 1)
      obtain ⟨W2, hW2⟩ : ∃ W, wr.iterAt w1.heap.size (str l) (p + 1) = W := ⟨_, rfl⟩
      rw [hW2] at hnx hit2 hB2
      have hW2z : w1.heap.size < W2.heap.size := (Array.getElem?_eq_some_iff.1 hit2).1
      have hf := hfl p hlt
      have hs2 := hsf p hlt
      clear hW2 hit hB
      rcases hk : sdB (flipL l p) with _ | _
      · rw [hk] at hs2
        have HN2 := hide (show ∀ j, j < p + 1 → sdB (flipL l j) = false from fun j hj => by
          by_cases e : j = p
          · subst e; exact hk
          · exact HN.out j (by omega))
        obtain ⟨S, hS⟩ : ∃ S, str (flipL l p) = S := ⟨_, rfl⟩
        rw [hS] at hf hs2
        clear hk hfl hsf hS
        go_wp2_with (first | (go_at_call 106; refine (hf _).mono ?_; rintro e w3 ⟨rfl, hb3⟩; have hz3 := hb3.size) | (go_at_call 105; refine (hs2 _).mono ?_; rintro e w4 ⟨rfl, hb4⟩; have hb5 : Below W2.heap.size W2 w4 := below_via hb3 hb4))
        go_roundw
        case rel => exact ⟨p + 1, by omega, by rw [hb5.block _ hW2z]; exact hit2, HN2, below_via hB2 hb5⟩
        case measure => rw [iter_pos (show w4.heap[w1.heap.size]? = some (.stringIter (str l) (p + 1)) from by rw [hb5.block _ hW2z]; exact hit2), hpos0]; omega
      · rw [hk] at hs2
        obtain ⟨r1, r2, r3⟩ := rp_at HS.out (repI_at hlt HN.out hk)
        obtain ⟨S, hS⟩ : ∃ S, str (flipL l p) = S := ⟨_, rfl⟩
        have HF := hide (show rpK l = true ∧ rpI l = p ∧ str (rpS l) = S from ⟨r1, r2, by rw [r3]; exact hS⟩)
        rw [hS] at hf hs2
        clear hk r1 r2 r3 hfl hsf hS
        have hBB := hB2
        go_wp2_with (first | (go_at_call 106; refine (hf _).mono ?_; rintro e w3 ⟨rfl, hb3⟩; have hBB := below_via hBB hb3; clear hb3) | (go_at_call 105; refine (hs2 _).mono ?_; rintro e w4 ⟨rfl, hb4⟩; have hBB := below_via hBB hb4; clear hb4))
        go_returns
        exact ⟨ret_eq (by rw [HF.out.1, HF.out.2.1, HF.out.2.2]; rfl), hBB⟩
    · obtain rfl : p = l.length := by omega
      have hnx : ∀ ty, (Instr.next (.pointer (some ⟨w1.heap.size, 0, none⟩)) true ty).run Try.prog wr = _ := fun ty => Lib.run_next_end_at wr w1.heap.size (str l) l.length ty hit (by rw [str_size]; omega)
      obtain ⟨r1, r2, r3⟩ := rp_none HS.out (repI_none HN.out)
      have HF := hide (show rpK l = false ∧ rpI l = 0 ∧ str (rpS l) = { data := #[] } from ⟨r1, r2, by rw [r3]; rfl⟩)
      clear r1 r2 r3 hfl hsf
      go_wp2
      go_returns
      exact ⟨ret_eq (by rw [HF.out.1, HF.out.2.1, HF.out.2.2]; rfl), hB⟩
theorem validFrame_c (k a d : Int) (w : World) : Calls Try.prog 108 #[.agg #[.int .i64 k, .int .i64 a, .int .i64 d]] w (Gives w (.bool (vFr k a d))) := by
  rcases h1 : wi k 1 4 with _ | _ <;> rcases h2 : wi a 1 65535 with _ | _ <;> rcases h3 : wi d 0 16777215 with _ | _
  all_goals
    go_enter Try.func108, Try.ntmps108
    go_wp2_with (first | (go_at_call 63; refine (within_c _ _ _ _).mono ?_; rintro e wz ⟨rfl, rfl⟩) | (go_at_call 62; refine (isAddress_c _ _).mono ?_; rintro e wz ⟨rfl, rfl⟩))
    go_returns
    exact ⟨ret_eq (by simp [vFr, h1, h2, h3]), by go_grown⟩
end Go.Proofs.Ytbeojfhakmbacaa
