/- The law of blind points: plain. -/
import Derived.Test.YtnocgcfepkdjeaaBlMath
namespace Go.Proofs.Ytnocgcfepkdjeaa
theorem bl_ne_one (l : List Pt) : blV l ≠ 1 := by
  unfold blV
  split
  · rename_i hk
    have h1 := (okS_iff.1 hk).1.1
    obtain ⟨L, hL⟩ : ∃ L, (List.range 961).map (blF l) = L := ⟨_, rfl⟩
    rw [ib_count h1 hL]
    intro e
    have e1 : (List.range 961).countP (fun k => decide (1 < L.count (blF l k))) = 1 := by omega
    obtain ⟨k, _, hp⟩ := List.countP_pos_iff.1 (show 0 < (List.range 961).countP (fun k => decide (1 < L.count (blF l k))) by omega)
    have hp2 : 1 < L.count (blF l k) := of_decide_eq_true hp
    have e2 : L.count (blF l k) = (List.range 961).countP (fun j => blF l j == blF l k) := by rw [← hL, List.count, List.countP_map]; rfl
    have e3 := List.countP_mono_left (l := List.range 961) (p := fun j => blF l j == blF l k) (q := fun k => decide (1 < L.count (blF l k))) (fun j _ hj => by
      rw [beq_iff_eq] at hj
      show decide (1 < L.count (blF l j)) = true
      rw [hj]
      exact decide_eq_true hp2)
    omega
  · omega
theorem bl_one_site {l : List Pt} (hk : okS l = true) (h1 : l.length = 1) : blV l = 961 := by
  unfold blV
  rw [if_pos hk]
  obtain ⟨L, hL⟩ : ∃ L, (List.range 961).map (blF l) = L := ⟨_, rfl⟩
  rw [ib_count (by omega) hL]
  have hall : ∀ j k, blF l j = blF l k := fun j k => nrm_eq.2 (fun i hi => by
    obtain rfl : i = 0 := by omega
    rfl)
  have hlen : L.length = 961 := by rw [← hL, List.length_map, List.length_range]
  have hc : ∀ k, L.count (blF l k) = 961 := fun k => by
    rw [← hlen, List.count_eq_length]
    intro b hb
    rw [← hL] at hb
    obtain ⟨j, _, e⟩ := List.mem_map.1 hb
    rw [← e]; exact hall k j
  have e : (List.range 961).countP (fun k => decide (1 < L.count (blF l k))) = (List.range 961).length := by
    rw [List.countP_eq_length]
    intro k _
    rw [hc k]
    rfl
  rw [e, List.length_range]
  rfl
theorem hlp_bd (l : List Pt) (a : List Int) (tol : Int) : ∀ n, 0 ≤ (hlpN l a tol n).1 ∧ (hlpN l a tol n).1 < max (n : Int) 1
  | 0 => ⟨Int.le_refl _, by simp only [hlpN]; omega⟩
  | n + 1 => by
    have ih := hlp_bd l a tol n
    simp only [hlpN]
    split
    · simp only; omega
    · rename_i h
      cases n with
      | zero => simp [hlpN]
      | succ n => omega
theorem hlpV_bd {l : List Pt} {a : List Int} {tol : Int} (h : hlpK l a tol = true) : 0 ≤ hlpV l a tol ∧ hlpV l a tol < l.length := by
  have hk := h
  unfold hlpK at hk
  have h2 := (fitK_iff.1 (Bool.and_eq_true_iff.1 hk).1).1
  have h3 := (okS_iff.1 (askB_iff.1 h2).1).1
  have h4 := hlp_bd l a tol l.length
  unfold hlpV
  rw [if_pos h]
  omega
theorem send_arr {l : List Pt} {b : List Int} {p : Pt} (h : stK l b p = true) : arrK l p (stV l b p) = true ∧ arrV l p (stV l b p) = b := by
  have hv : stV l b p = stT l b p := by unfold stV; rw [if_pos h]
  have hk := h
  unfold stK at hk
  simp only [Bool.and_eq_true, decide_eq_true_eq] at hk
  obtain ⟨h1, h2, h3, h4⟩ := hk
  obtain ⟨k1, k2, _⟩ := askB_iff.1 h1
  have hn := (okS_iff.1 k1).1
  have ha : arrK l p (stV l b p) = true := by unfold arrK; rw [k1, h2, hv, h4]; rfl
  refine ⟨ha, ?_⟩
  unfold arrV
  rw [if_pos ha, hv]
  have hsl : (sentN l b p l.length).length = l.length := sentN_len _ _ _ _
  refine list_nth (by rw [arrL_len]; exact k2.symm) fun i hi => ?_
  rw [arrL_len] at hi
  rw [arrL_at hi]
  have e0 : stT l b p = nth b 0 - dst (px l 0, py l 0) p := sentN_at _ _ _ _ (by omega)
  have ei := sentN_at l b p l.length hi
  have a1 := mn_le (sentN l b p l.length) l.length (by omega) i hi
  have a2 := mx_ge (sentN l b p l.length) l.length (by omega) i hi
  have b1 := mn_le (sentN l b p l.length) l.length (by omega) 0 (by omega)
  have b2 := mx_ge (sentN l b p l.length) l.length (by omega) 0 (by omega)
  have e00 := sentN_at l b p l.length (show 0 < l.length by omega)
  rw [ei] at a1 a2
  rw [e00] at b1 b2
  unfold spread at h3
  rw [e0]
  generalize mnN _ _ = m at *
  generalize mxN _ _ = m2 at *
  omega
end Go.Proofs.Ytnocgcfepkdjeaa
