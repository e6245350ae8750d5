/- Covers: what the law of covers asks, in plain terms. -/
import Derived.Test.YtnocgcfepkdjeaaSiMath
namespace Go.Proofs.Ytnocgcfepkdjeaa
open Go.RowKit

theorem mem_covN {l : List Pt} {p : Pt} {r : Int} {n i : Nat} : (i : Int) ∈ covN l p r n ↔ i < n ∧ dst (px l i, py l i) p ≤ r := by
  simp only [covN, List.mem_map, List.mem_filter, List.mem_range, decide_eq_true_eq]
  constructor
  · rintro ⟨a, h, e⟩
    obtain rfl : a = i := Int.ofNat_inj.1 e
    exact h
  · intro h
    exact ⟨i, h, rfl⟩
theorem has_covV {l : List Pt} {p : Pt} {r : Int} (hk : covK l p r = true) {i : Nat} (hi : i < l.length) : decide ((i : Int) ∈ covV l p r) = decide (dst (px l i, py l i) p ≤ r) := by
  unfold covV
  rw [if_pos hk]
  by_cases h : dst (px l i, py l i) p ≤ r
  · rw [decide_eq_true h]; exact decide_eq_true (mem_covN.2 ⟨hi, h⟩)
  · rw [decide_eq_false h]; exact decide_eq_false fun e => h (mem_covN.1 e).2
theorem covN_cnt (l : List Pt) (p : Pt) (r : Int) : ∀ n, n ≤ l.length → (covN l p r n).length = ((l.take n).filter fun s => decide (dst s p ≤ r)).length
  | 0, _ => by simp [covN]
  | n + 1, h => by
    rw [take_pt l n (by omega), List.filter_append, List.length_append, ← covN_cnt l p r n (by omega)]
    by_cases hd : dst (px l n, py l n) p ≤ r
    · rw [covN_yes hd]; simp [hd]
    · rw [covN_no hd]; simp [hd]
theorem px_drop0 (l : List Pt) (k : Nat) : px (dropL l 0) k = px l (k + 1) ∧ py (dropL l 0) k = py l (k + 1) := by
  have e : (dropL l 0)[k]? = l[k + 1]? := by simp [dropL]
  simp [px, py, List.getD, e]
theorem cov_drop (l : List Pt) (p : Pt) (r : Int) : (covN (dropL l 0) p r (dropL l 0).length).length ≤ (covN l p r l.length).length := by
  rw [covN_cnt _ _ _ _ (Nat.le_refl _), covN_cnt _ _ _ _ (Nat.le_refl _), List.take_length, List.take_length]
  cases l with
  | nil => simp [dropL]
  | cons q l =>
    have e : dropL (q :: l) 0 = l := by simp [dropL]
    rw [e, List.filter_cons]
    split <;> simp
theorem cpN_mono {l l' : List Pt} {r cnt : Int} (h : ∀ p, (covN l' p r l'.length).length ≤ (covN l p r l.length).length) : ∀ n, cpN l' r cnt n ≤ cpN l r cnt n
  | 0 => Nat.le_refl _
  | n + 1 => by
    have ih := cpN_mono (cnt := cnt) h n
    have hp := h (gpt n)
    unfold cpN
    split <;> split <;> omega
theorem okS_drop0 {l : List Pt} (h : okS l = true) (h2 : 2 ≤ l.length) : okS (dropL l 0) = true ∧ (dropL l 0).length + 1 = l.length := by
  obtain ⟨⟨a, b⟩, c⟩ := okS_iff.1 h
  have hl : (dropL l 0).length + 1 = l.length := by rw [dropL_len (by omega)]; omega
  refine ⟨okS_iff.2 ⟨⟨by omega, by omega⟩, fun i hi => ?_⟩, hl⟩
  obtain ⟨c1, c2⟩ := c (i + 1) (by omega)
  rw [(px_drop0 l i).1, (px_drop0 l i).2]
  refine ⟨c1, fun k hk => ?_⟩
  rw [(px_drop0 l k).1, (px_drop0 l k).2]
  exact c2 (k + 1) (by omega)
theorem drop_less {l : List Pt} {r cnt : Int} (hk : cpK l r cnt = true) (hd : drpK l 0 = true) :
    cpK (drpV l 0) r cnt = true ∧ cpV (drpV l 0) r cnt ≤ cpV l r cnt ∧ (drpV l 0).length + 1 = l.length := by
  have e : drpV l 0 = dropL l 0 := by unfold drpV; rw [if_pos hd]; rfl
  rw [e]
  unfold cpK at hk
  simp only [Bool.and_eq_true] at hk
  unfold drpK at hd
  simp only [Bool.and_eq_true, decide_eq_true_eq] at hd
  obtain ⟨⟨a, b⟩, c⟩ := okS_iff.1 hk.1
  obtain ⟨h1, h2⟩ := okS_drop0 hk.1 (by have := hd.2.2; omega)
  have hk' : cpK (dropL l 0) r cnt = true := by unfold cpK; simp [h1, hk.2]
  have hk0 : cpK l r cnt = true := by unfold cpK; simp [hk.1, hk.2]
  refine ⟨hk', ?_, h2⟩
  unfold cpV
  rw [if_pos hk', if_pos hk0]
  have := cpN_mono (cnt := cnt) (cov_drop l · r) 961
  omega
end Go.Proofs.Ytnocgcfepkdjeaa
