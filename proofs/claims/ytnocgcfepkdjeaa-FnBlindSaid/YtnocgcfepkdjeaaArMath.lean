/- Arrivals of a point: what the law of arrivals asks, in plain terms. -/
import Derived.Test.YtnocgcfepkdjeaaSiMath
namespace Go.Proofs.Ytnocgcfepkdjeaa
open Go.RowKit

theorem arrL_at {l : List Pt} {p : Pt} {t : Int} {i : Nat} (h : i < l.length) : nth (arrL l p t) i = t + dst (px l i, py l i) p := by
  unfold nth arrL px py
  simp [List.getElem?_map, List.getElem?_eq_getElem h]
theorem ab_tri (u v : Int) : ab u - ab v ≤ ab (u - v) ∧ ab v - ab u ≤ ab (u - v) := by
  unfold ab
  constructor <;> split <;> split <;> split <;> omega
theorem ab_le {z c : Int} (h1 : z ≤ c) (h2 : -z ≤ c) : ab z ≤ c := by unfold ab; split <;> omega
theorem dst_pt {x y u v : Int} (h1 : pt (x, y) = true) (h2 : pt (u, v) = true) : 0 ≤ dst (x, y) (u, v) ∧ dst (x, y) (u, v) ≤ 60 := by
  obtain ⟨⟨a, b⟩, c, d⟩ := pt_iff.1 h1
  obtain ⟨⟨e, f⟩, g, h⟩ := pt_iff.1 h2
  have k1 := ab_bd (n := x - u) (m := 30) (by omega) (by omega)
  have k2 := ab_bd (n := y - v) (m := 30) (by omega) (by omega)
  simp only [dst]
  omega
theorem argN_min (a : List Int) : ∀ n i, i < n → nth a (argN a n) ≤ nth a i
  | n + 1, i, h => by
    rw [argN]
    by_cases hc : nth a n < nth a (argN a n)
    · rw [if_pos hc]
      rcases Nat.lt_or_ge i n with h1 | h1
      · have := argN_min a n i h1; omega
      · obtain rfl : i = n := by omega
        omega
    · rw [if_neg hc]
      rcases Nat.lt_or_ge i n with h1 | h1
      · exact argN_min a n i h1
      · obtain rfl : i = n := by omega
        omega
theorem sent_all (l : List Pt) (p : Pt) (t : Int) : ∀ n, n ≤ l.length → sentN l (arrL l p t) p n = List.replicate n t
  | 0, _ => rfl
  | n + 1, h => by
    rw [sentN_succ, sent_all l p t n (by omega), arrL_at (by omega), List.replicate_succ']
    congr 2
    omega
theorem fold_rep (f : Int → Int → Int) (t : Int) (hf : f t t = t) : ∀ n, (List.replicate n t).foldl f t = t
  | 0 => rfl
  | n + 1 => by rw [List.replicate_succ, List.foldl_cons, hf, fold_rep f t hf n]
structure ArrFacts (l : List Pt) (p : Pt) (t : Int) (a : List Int) : Prop where
  ask : askB l a = true
  len : a.length = l.length
  pos : posV l a = true
  sndk : sndK l p a = true
  snd : sndV l p a = List.replicate l.length t
  stk : stK l a p = true
  stv : stV l a p = t
  spr : spread l a p = 0
  arg : ∃ f : Nat, argV l a = (f : Int) ∧ f < l.length ∧ ∀ i, i < l.length → nth a f ≤ nth a i
theorem arr_facts {l : List Pt} {x y t : Int} (hk : arrK l (x, y) t = true) : ArrFacts l (x, y) t (arrL l (x, y) t) := by
  obtain ⟨h1, h2, h3⟩ : okS l = true ∧ pt (x, y) = true ∧ wi t 0 100000 = true := by unfold arrK at hk; simpa using hk
  obtain ⟨⟨n1, n5⟩, hg⟩ := okS_iff.1 h1
  obtain ⟨t0, t1⟩ := wi_iff.1 h3
  have hlen := arrL_len l (x, y) t
  have hd : ∀ i, i < l.length → 0 ≤ dst (px l i, py l i) (x, y) ∧ dst (px l i, py l i) (x, y) ≤ 60 := fun i hi => dst_pt (hg i hi).1 h2
  have hall : allW (arrL l (x, y) t) 0 100060 = true := allW_yes fun i hi => by
    rw [hlen] at hi
    have := hd i hi
    rw [arrL_at hi]
    exact wi_iff.2 (by omega)
  have hask : askB l (arrL l (x, y) t) = true := askB_iff.2 ⟨h1, hlen, hall⟩
  have hs := sent_all l (x, y) t l.length (Nat.le_refl _)
  have hn0 : nth (List.replicate l.length t) 0 = t := by
    cases hl : l.length with
    | zero => omega
    | succ n => rfl
  have hsp : spread l (arrL l (x, y) t) (x, y) = 0 := by
    unfold spread mxN mnN
    rw [hs, hn0, List.take_of_length_le (by simp), fold_rep max t (by omega), fold_rep min t (by omega)]
    omega
  have hstT : stT l (arrL l (x, y) t) (x, y) = t := by unfold stT; rw [hs, hn0]
  have hstk : stK l (arrL l (x, y) t) (x, y) = true := by unfold stK; rw [hask, h2, hsp, hstT]; simp [h3]
  have hsk : sndK l (x, y) (arrL l (x, y) t) = true := by unfold sndK; rw [hask, h2]; rfl
  refine ⟨hask, hlen, ?_, hsk, ?_, hstk, ?_, hsp, argN (arrL l (x, y) t) (arrL l (x, y) t).length, ?_, ?_, ?_⟩
  · unfold posV
    rw [hask, Bool.true_and]
    refine posB_yes fun i hi k hk => ?_
    unfold okPair
    rw [arrL_at hi, arrL_at hk]
    simp only [dst]
    have e1 := ab_tri (px l i - x) (px l k - x)
    have e2 := ab_tri (py l i - y) (py l k - y)
    rw [show px l i - x - (px l k - x) = px l i - px l k by omega] at e1
    rw [show py l i - y - (py l k - y) = py l i - py l k by omega] at e2
    exact ab_le (by omega) (by omega)
  · unfold sndV; rw [if_pos hsk, hs]
  · unfold stV; rw [if_pos hstk, hstT]
  · unfold argV; rw [if_pos hask]
  · have := argN_lt (arrL l (x, y) t) (arrL l (x, y) t).length (by omega); omega
  · intro i hi; exact argN_min _ _ _ (by omega)
theorem nth_rep {n i : Nat} {t : Int} (h : i < n) : nth (List.replicate n t) i = t := by simp [nth, h]
end Go.Proofs.Ytnocgcfepkdjeaa
