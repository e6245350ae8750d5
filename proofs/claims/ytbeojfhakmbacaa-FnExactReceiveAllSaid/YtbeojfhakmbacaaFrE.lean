/- Contracts: sound texts of bits, by the program. -/
import Derived.Test.YtbeojfhakmbacaaFrD
namespace Go.Proofs.Ytbeojfhakmbacaa
open Go.RowKit
theorem ext_take (l : List UInt8) (k : Nat) : (str l).extract 0 k = str (l.take k) := by rw [ext_str]; simp
theorem ext_drop (l : List UInt8) (k n : Nat) (h : l.length ≤ n) : (str l).extract k n = str (l.drop k) := by rw [ext_str, List.take_of_length_le h]
theorem syndromeOf_c (l : List UInt8) (hb : Hid (isB l)) (h12 : 12 ≤ l.length) (hl : l.length ≤ 64) (w : World) : Calls Try.prog 123 #[.string (str l)] w (Gives w (.string (str (xorL (l.drop (l.length - 12)) (parL (l.take (l.length - 12))))))) := by
  obtain ⟨k, hk⟩ : ∃ k, l.length = k + 12 := ⟨l.length - 12, by omega⟩
  rw [show l.length - 12 = k from by omega]
  have hp1 : ∀ W, Calls Try.prog 129 #[.string ((str l).extract 0 k)] W (Gives W (.string (str (parL (l.take k))))) := fun W => by
    rw [ext_take]; exact parityOf_c _ (hide (isB_take hb.out _)) (by simp; omega) W
  have hp2 : ∀ W, Calls Try.prog 128 #[.string ((str l).extract k (k + 12)), .string (str (parL (l.take k)))] W (Gives W (.string (str (xorL (l.drop k) (parL (l.take k)))))) := fun W => by
    rw [ext_drop _ _ _ (by omega)]
    have h := xorBits_c (str (l.drop k)) (str (parL (l.take k))) (by rw [str_size, str_size, par_len]; simp; omega) (by rw [str_size]; simp; omega) W
    rw [str_list, str_list] at h
    exact h
  have hsz : (str l).size = k + 12 := by rw [str_size]; exact hk
  obtain ⟨s, hs⟩ : ∃ s, str l = s := ⟨_, rfl⟩
  obtain ⟨P, hP⟩ : ∃ P, str (parL (l.take k)) = P := ⟨_, rfl⟩
  obtain ⟨V, hV⟩ : ∃ V, str (xorL (l.drop k) (parL (l.take k))) = V := ⟨_, rfl⟩
  rw [hs] at hsz hp1 hp2 ⊢
  rw [hP] at hp1 hp2
  rw [hV] at hp2 ⊢
  clear hs hP hV
  have e1 : IntKind.i64.wrap (((k + 12 : Nat) : Int) - 12) = (k : Int) := by rw [IntWalk.i64_in _ (by omega)]; omega
  have e2 : IntKind.i64.wrap ((k : Int) + 12 - 12) = (k : Int) := by rw [IntWalk.i64_in _ (by omega)]; omega
  have e3 : wrap64 (k : Int) = (k : Int) := IntWalk.wrap64_in _ (by omega)
  have k1 : (k : Int) ≤ (k : Int) + 12 := by omega
  have k2 : k ≤ k + 12 := by omega
  clear hk h12
  go_enter Try.func123, Try.ntmps123
  go_wp2
  refine wp_region_det (fun w' => Below w.heap.size w w') (by kernel_rfl) (by kernel_rfl) (by first | (with_reducible assumption) | go_grown) ?_
  repeat (first
    | ((refine wpDet_skip (by rfl) ?_); simp only [Act.put, List.setIfInBounds_toArray, List.set_cons_zero, List.set_cons_succ])
    | ((refine wpDet_val (v := ?_) (by rfl) (fun w hS => ?_) ?_); rotate_left; (focus ((try dsimp only at hS); go_simp; (try (with_reducible rfl)); done)); simp only [Act.put, List.setIfInBounds_toArray, List.set_cons_zero, List.set_cons_succ])
    | ((refine wpDet_call (v := ?_) (f := ?_) (args := ?_) (by rfl) (fun w => ?_) (fun w hS => ?_) ?_); rotate_left; rotate_left; rotate_left; (focus (go_simp; (constructor <;> (with_reducible rfl)); done)); (focus (first | (go_at_call 129; refine (hp1 _).mono ?_; intro e w' h; refine ⟨h.1.trans ?_, below_via hS (h.2)⟩; with_reducible rfl) | (go_at_call 128; refine (hp2 _).mono ?_; intro e w' h; refine ⟨h.1.trans ?_, below_via hS (h.2)⟩; with_reducible rfl))); simp only [Act.put, List.setIfInBounds_toArray, List.set_cons_zero, List.set_cons_succ]))
  refine wpDet_nil ?_
  intro wd hS
  have hT : Below w.heap.size w wd := hS
  clear hS
  have hS := hT
  have hB := hT
  have hzw : w.heap.size ≤ wd.heap.size := hB.size
  go_wp2
  go_returns
  exact ⟨ret_eq rfl, by go_grown⟩
theorem isSound_c (l : List UInt8) (hb : Hid (isB l)) (h12 : 12 ≤ l.length) (hl : l.length ≤ 64) (w : World) : Calls Try.prog 105 #[.string (str l)] w (Gives w (.bool (sdB l))) := by
  have h1 := syndromeOf_c l hb h12 hl
  have HS := hide (sdB_ones hb.out h12)
  have hon : ∀ W, Calls Try.prog 122 #[.string (str (xorL (l.drop (l.length - 12)) (parL (l.take (l.length - 12)))))] W fun r' w' => r' = .returned (.int .i64 (onesL (xorL (l.drop (l.length - 12)) (parL (l.take (l.length - 12)))))) ∧ W = w' := fun W => by
    have h := ones_c (str (xorL (l.drop (l.length - 12)) (parL (l.take (l.length - 12))))) (by rw [str_size, xorL_len, par_len]; omega) W
    rw [str_list] at h
    exact h
  obtain ⟨X, hX⟩ : ∃ X, xorL (l.drop (l.length - 12)) (parL (l.take (l.length - 12))) = X := ⟨_, rfl⟩
  rw [hX] at h1 HS hon
  clear hX
  go_enter Try.func105, Try.ntmps105
  go_wp2_with (first | (go_at_call 123; refine (h1 _).mono ?_; rintro e w1 ⟨rfl, hb1⟩) | (go_at_call 122; refine (hon _).mono ?_; rintro e w2 ⟨rfl, rfl⟩))
  go_returns
  exact ⟨ret_eq (by rw [← HS.out]; simp), hb1⟩
end Go.Proofs.Ytbeojfhakmbacaa
