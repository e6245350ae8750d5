/- Locating: plain. -/
import Derived.Test.YtnocgcfepkdjeaaArMath
import Derived.Test.YtnocgcfepkdjeaaSbK
namespace Go.Proofs.Ytnocgcfepkdjeaa
open Go.RowKit
theorem best_facts (l : List Pt) (a : List Int) : ∀ n, 0 < n → 0 ≤ (bestN l a n).2 ∧ (∀ k, k < n → (bestN l a n).2 ≤ spread l a (gpt k)) ∧ ∃ k, k < n ∧ (bestN l a n).1 = gpt k ∧ (bestN l a n).2 = spread l a (gpt k)
  | 0, h => absurd h (by omega)
  | 1, _ => by
    have e : bestN l a 1 = (gpt 0, spread l a (gpt 0)) := by
      rw [bestN, if_pos (Or.inl (by rw [bestN]; decide))]
    rw [e]
    exact ⟨spread_pos _ _ _, fun k hk => by have : k = 0 := by omega
                                            subst this; exact Int.le_refl _, 0, by omega, rfl, rfl⟩
  | n + 2, _ => by
    obtain ⟨h0, h1, k, hk, h2, h3⟩ := best_facts l a (n + 1) (by omega)
    by_cases hc : (bestN l a (n + 1)).2 < 0 ∨ spread l a (gpt (n + 1)) < (bestN l a (n + 1)).2
    · have e : bestN l a (n + 2) = (gpt (n + 1), spread l a (gpt (n + 1))) := by rw [bestN, if_pos hc]
      rw [e]
      refine ⟨spread_pos _ _ _, fun j hj => ?_, n + 1, by omega, rfl, rfl⟩
      by_cases hj2 : j = n + 1
      · subst hj2; exact Int.le_refl _
      · have := h1 j (by omega)
        show spread l a (gpt (n + 1)) ≤ _
        omega
    · have e : bestN l a (n + 2) = bestN l a (n + 1) := by rw [bestN, if_neg hc]
      rw [e]
      refine ⟨h0, fun j hj => ?_, k, by omega, h2, h3⟩
      by_cases hj2 : j = n + 1
      · subst hj2; omega
      · exact h1 j (by omega)
theorem gpt_pt {k : Nat} (h : k < 961) : pt (gpt k) = true := by
  have := groundN_small (n := 961) h (by omega)
  obtain ⟨e1, e2⟩ := groundN_at (n := 961) h
  rw [gpt_of (n := 961) h]
  exact pt_iff.2 this
theorem best_zero {l : List Pt} {a : List Int} {x y : Int} (hp : pt (x, y) = true) (hs : spread l a (x, y) = 0) : (bestN l a 961).2 = 0 ∧ pt (bestN l a 961).1 = true ∧ spread l a (bestN l a 961).1 = 0 := by
  obtain ⟨h0, h1, k, hk, h2, h3⟩ := best_facts l a 961 (by omega)
  obtain ⟨⟨x0, x1⟩, y0, y1⟩ := pt_iff.1 hp
  obtain ⟨X, rfl⟩ := Int.eq_ofNat_of_zero_le x0
  obtain ⟨Y, rfl⟩ := Int.eq_ofNat_of_zero_le y0
  have hg := gpt_at (x := X) (y := Y) (by omega)
  have h4 := h1 (31 * Y + X) (by omega)
  rw [hg, hs] at h4
  have h5 : (bestN l a 961).2 = 0 := by omega
  exact ⟨h5, by rw [h2]; exact gpt_pt hk, by rw [h2, ← h3, h5]⟩
theorem fit_mem {l : List Pt} {a : List Int} {tol : Int} {i : Nat} (h : i < (fitV l a tol).length) : fitK l a tol = true ∧ spK l a (px (fitV l a tol) i, py (fitV l a tol) i) = true ∧ spV l a (px (fitV l a tol) i, py (fitV l a tol) i) ≤ tol := by
  have hk : fitK l a tol = true := by
    rcases hk : fitK l a tol with _ | _
    · unfold fitV at h; rw [hk, if_neg (by simp)] at h; simp at h
    · rfl
  have hm : ((px (fitV l a tol) i, py (fitV l a tol) i) : Pt) ∈ fitV l a tol := px_mem h
  generalize (px (fitV l a tol) i, py (fitV l a tol) i) = q at hm ⊢
  unfold fitV at hm
  rw [if_pos hk] at hm
  unfold fitN groundN at hm
  simp only [List.mem_filter, List.mem_map, List.mem_range, decide_eq_true_eq] at hm
  obtain ⟨⟨k, hk2, rfl⟩, h3⟩ := hm
  have h4 : spK l a (gpt k) = true := by unfold spK; rw [(fitK_iff.1 hk).1, gpt_pt hk2]; rfl
  exact ⟨hk, h4, by unfold spV; rw [if_pos h4]; exact h3⟩
theorem bx_min (f : Nat → Int) : ∀ n i, i < n → bxL f min n ≤ f i
  | 0, i, h => absurd h (by omega)
  | n + 1, i, h => by
    unfold bxL
    by_cases hi : i = n
    · subst hi; omega
    · have := bx_min f n i (by omega); omega
theorem bx_max (f : Nat → Int) : ∀ n i, i < n → f i ≤ bxL f max n
  | 0, i, h => absurd h (by omega)
  | n + 1, i, h => by
    unfold bxL
    by_cases hi : i = n
    · subst hi; omega
    · have := bx_max f n i (by omega); omega
theorem fit_box {l : List Pt} {a : List Int} {tol : Int} {i : Nat} (h : i < (fitV l a tol).length) :
    ((boxV l a tol).1.1 ≤ px (fitV l a tol) i ∧ px (fitV l a tol) i ≤ (boxV l a tol).2.1) ∧ (boxV l a tol).1.2 ≤ py (fitV l a tol) i ∧ py (fitV l a tol) i ≤ (boxV l a tol).2.2 := by
  obtain ⟨hk, _⟩ := fit_mem h
  have hf : fitV l a tol = fitN l a tol 961 := by unfold fitV; rw [if_pos hk]
  rw [hf] at h ⊢
  have hb : boxK l a tol = true := by unfold boxK; rw [hk]; simp; omega
  have hv : boxV l a tol = ((bxL (px (fitN l a tol 961)) min (fitN l a tol 961).length, bxL (py (fitN l a tol 961)) min (fitN l a tol 961).length), (bxL (px (fitN l a tol 961)) max (fitN l a tol 961).length, bxL (py (fitN l a tol 961)) max (fitN l a tol 961).length)) := by unfold boxV; rw [if_pos hb]
  rw [hv]
  clear hv hb hf hk
  generalize fitN l a tol 961 = G at h ⊢
  exact ⟨⟨bx_min _ _ _ h, bx_max _ _ _ h⟩, bx_min _ _ _ h, bx_max _ _ _ h⟩
theorem loc_len (l : List Pt) (a : List Int) (tol : Int) : locV l a tol = decide ((fitV l a tol).length = 1) ∧ boxK l a tol = decide (0 < (fitV l a tol).length) := by
  unfold locV boxK fitV
  rcases hk : fitK l a tol with _ | _
  · simp
  · simp
end Go.Proofs.Ytnocgcfepkdjeaa
