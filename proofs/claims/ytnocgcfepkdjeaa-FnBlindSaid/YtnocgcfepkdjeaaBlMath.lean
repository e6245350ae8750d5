/- Points that are not told from others: plain. -/
import Derived.Test.YtnocgcfepkdjeaaSbMath
import Derived.Test.YtnocgcfepkdjeaaArMath
namespace Go.Proofs.Ytnocgcfepkdjeaa
/-- The arrivals from a point, less the first one. -/
def nrm (l : List Pt) (p : Pt) : List Int := (arrL l p 0).map fun x => x - nth (arrL l p 0) 0
theorem nrm_len (l : List Pt) (p : Pt) : (nrm l p).length = l.length := by simp [nrm, arrL]
theorem nrm_at {l : List Pt} {p : Pt} {i : Nat} (h : i < l.length) : nth (nrm l p) i = dst (px l i, py l i) p - dst (px l 0, py l 0) p := by
  have h1 : i < (nrm l p).length := by rw [nrm_len]; exact h
  have e1 := arrL_at (p := p) (t := 0) h
  have e2 := arrL_at (p := p) (t := 0) (show 0 < l.length by omega)
  have e3 : nth (nrm l p) i = nth (arrL l p 0) i - nth (arrL l p 0) 0 := by
    have h3 : i < (arrL l p 0).length := by rw [arrL_len]; exact h
    unfold nrm
    show List.getD _ _ _ = List.getD _ _ _ - nth (arrL l p 0) 0
    rw [List.getD_eq_getElem?_getD, List.getD_eq_getElem?_getD, List.getElem?_map, List.getElem?_eq_getElem h3]
    rfl
  rw [e3, e1, e2]
  omega
theorem list_nth {a b : List Int} (hl : a.length = b.length) (h : ∀ i, i < a.length → nth a i = nth b i) : a = b := by
  apply List.ext_getElem hl
  intro i h1 h2
  have e := h i h1
  unfold nth at e
  rw [List.getD_eq_getElem?_getD, List.getD_eq_getElem?_getD, List.getElem?_eq_getElem h1, List.getElem?_eq_getElem h2] at e
  exact e
theorem nrm_eq {l : List Pt} {p q : Pt} : nrm l p = nrm l q ↔ ∀ i, i < l.length → dst (px l i, py l i) p - dst (px l i, py l i) q = dst (px l 0, py l 0) p - dst (px l 0, py l 0) q := by
  constructor
  · intro e i hi
    have h1 := nrm_at (p := p) hi
    have h2 := nrm_at (p := q) hi
    rw [e] at h1
    omega
  · intro h
    refine list_nth (by rw [nrm_len, nrm_len]) fun i hi => ?_
    rw [nrm_len] at hi
    rw [nrm_at hi, nrm_at hi]
    have := h i hi
    omega
theorem mn_le (s : List Int) : ∀ n, n ≤ s.length → ∀ i, i < n → mnN s n ≤ nth s i
  | 0, _, _, h => absurd h (by omega)
  | n + 1, hn, i, h => by
    rw [mnN_succ (by omega)]
    by_cases e : i = n
    · subst e; omega
    · have := mn_le s n (by omega) i (by omega); omega
theorem mx_ge (s : List Int) : ∀ n, n ≤ s.length → ∀ i, i < n → nth s i ≤ mxN s n
  | 0, _, _, h => absurd h (by omega)
  | n + 1, hn, i, h => by
    rw [mxN_succ (by omega)]
    by_cases e : i = n
    · subst e; omega
    · have := mx_ge s n (by omega) i (by omega); omega
theorem mn_same {s : List Int} {t : Int} : ∀ n, n ≤ s.length → nth s 0 = t → (∀ i, i < n → nth s i = t) → mnN s n = t ∧ mxN s n = t
  | 0, _, h0, _ => ⟨h0, h0⟩
  | n + 1, hn, h0, h => by
    rw [mnN_succ (by omega), mxN_succ (by omega)]
    obtain ⟨a, b⟩ := mn_same n (by omega) h0 (fun i hi => h i (by omega))
    have := h n (by omega)
    omega
/-- A point fits the arrivals from another one just if both have the same arrivals, less the first one. -/
theorem fits_iff {l : List Pt} {p q : Pt} (h1 : 1 ≤ l.length) : spread l (arrL l p 0) q ≤ 0 ↔ nrm l q = nrm l p := by
  have hs : ∀ i, i < l.length → nth (sentN l (arrL l p 0) q l.length) i = dst (px l i, py l i) p - dst (px l i, py l i) q := fun i hi => by
    rw [sentN_at _ _ _ _ hi, arrL_at hi]; omega
  have hn : (sentN l (arrL l p 0) q l.length).length = l.length := sentN_len _ _ _ _
  rw [show (nrm l q = nrm l p) = (nrm l p = nrm l q) from propext ⟨Eq.symm, Eq.symm⟩, nrm_eq]
  unfold spread
  constructor
  · intro h i hi
    have a1 := mn_le (sentN l (arrL l p 0) q l.length) l.length (by omega) i hi
    have a2 := mx_ge (sentN l (arrL l p 0) q l.length) l.length (by omega) i hi
    have b1 := mn_le (sentN l (arrL l p 0) q l.length) l.length (by omega) 0 (by omega)
    have b2 := mx_ge (sentN l (arrL l p 0) q l.length) l.length (by omega) 0 (by omega)
    rw [hs i hi] at a1 a2
    rw [hs 0 (by omega)] at b1 b2
    generalize mnN _ _ = m at *
    generalize mxN _ _ = m2 at *
    omega
  · intro h
    obtain ⟨a, b⟩ := mn_same (s := sentN l (arrL l p 0) q l.length) (t := dst (px l 0, py l 0) p - dst (px l 0, py l 0) q) l.length (by omega) (hs 0 (by omega)) (fun i hi => by rw [hs i hi]; exact h i hi)
    rw [a, b]
    omega

/-- The classes, as the reference keeps them: what was seen, and how often. -/
def clS (S : List (List Int) × List Int) (a : List Int) : List (List Int) × List Int :=
  if a ∈ S.1 then (S.1, S.2.set (S.1.idxOf a) (nth S.2 (S.1.idxOf a) + 1)) else (S.1 ++ [a], S.2 ++ [1])
def clN (f : Nat → List Int) : Nat → List (List Int) × List Int
  | 0 => ([], [])
  | n + 1 => clS (clN f n) (f n)
theorem clS_no {K : List (List Int)} {T : List Int} {a : List Int} (h : ∀ j, j < K.length → K[j]? ≠ some a) : clS (K, T) a = (K ++ [a], T ++ [1]) := by
  unfold clS
  rw [if_neg]
  intro hm
  obtain ⟨j, hj, e⟩ := List.mem_iff_getElem.1 hm
  exact h j hj (by rw [List.getElem?_eq_getElem hj, e])
theorem idx_first {K : List (List Int)} {a : List Int} : ∀ {j : Nat}, K[j]? = some a → (∀ i, i < j → K[i]? ≠ some a) → K.idxOf a = j := by
  induction K with
  | nil => intro j h _; simp at h
  | cons x K ih =>
    intro j h h2
    cases j with
    | zero => simp at h; subst h; simp [List.idxOf_cons]
    | succ j =>
      have hx : x ≠ a := fun e => h2 0 (by omega) (by simp [e])
      rw [List.idxOf_cons, beq_eq_false_iff_ne.2 hx]
      simp only [cond_false]
      rw [ih (j := j) (by simpa using h) (fun i hi => by have := h2 (i + 1) (by omega); simpa using this)]
theorem clS_yes {K : List (List Int)} {T : List Int} {a : List Int} {j : Nat} (hj : K[j]? = some a) (h : ∀ i, i < j → K[i]? ≠ some a) : clS (K, T) a = (K, T.set j (nth T j + 1)) := by
  have hm : a ∈ K := List.mem_of_getElem? hj
  unfold clS
  rw [if_pos hm, idx_first hj h]
structure ClOk (f : Nat → List Int) (n : Nat) (K : List (List Int)) (T : List Int) : Prop where
  len : T.length = K.length
  nodup : K.Nodup
  all : ∀ x ∈ (List.range n).map f, x ∈ K
  num : ∀ k, k < K.length → ∀ x, K[k]? = some x → nth T k = (((List.range n).map f).count x : Nat)
theorem nth_app {a b : List Int} {i : Nat} (h : i < a.length) : nth (a ++ b) i = nth a i := by
  unfold nth
  rw [List.getD_eq_getElem?_getD, List.getD_eq_getElem?_getD, List.getElem?_append_left h]
theorem nth_last (a : List Int) (x : Int) : nth (a ++ [x]) a.length = x := by
  unfold nth
  rw [List.getD_eq_getElem?_getD, List.getElem?_append_right (Nat.le_refl _)]
  simp
theorem nth_set {a : List Int} {i j : Nat} {x : Int} (h : j < a.length) : nth (a.set i x) j = if i = j then x else nth a j := by
  unfold nth
  rw [List.getD_eq_getElem?_getD, List.getD_eq_getElem?_getD, List.getElem?_set]
  by_cases e : i = j
  · subst e; simp [h]
  · simp [e]
theorem cl_ok (f : Nat → List Int) : ∀ n, ClOk f n (clN f n).1 (clN f n).2
  | 0 => ⟨rfl, List.nodup_nil, by simp, by intro k h; simp [clN] at h⟩
  | n + 1 => by
    have ih := cl_ok f n
    obtain ⟨⟨K, T⟩, hS⟩ : ∃ S, clN f n = S := ⟨_, rfl⟩
    rw [hS] at ih
    have e : clN f (n + 1) = clS (K, T) (f n) := by rw [← hS]; rfl
    have er : (List.range (n + 1)).map f = (List.range n).map f ++ [f n] := by rw [List.range_succ, List.map_append]; rfl
    rw [e]
    by_cases hm : f n ∈ K
    · have hj := List.idxOf_lt_length_iff.2 hm
      have hk : K[K.idxOf (f n)]? = some (f n) := by rw [List.getElem?_eq_getElem hj, List.getElem_idxOf hj]
      have es : clS (K, T) (f n) = (K, T.set (K.idxOf (f n)) (nth T (K.idxOf (f n)) + 1)) := by unfold clS; rw [if_pos hm]
      rw [es]
      refine ⟨by simp [ih.len], ih.nodup, ?_, ?_⟩
      · rw [er]; intro x hx
        rcases List.mem_append.1 hx with h | h
        · exact ih.all x h
        · rw [List.mem_singleton.1 h]; exact hm
      · intro k hk1 x hx
        have hkT : k < T.length := by rw [ih.len]; exact hk1
        have i1 := ih.num k hk1 x hx
        show nth (T.set _ _) k = _
        rw [nth_set hkT, er, List.count_append]
        by_cases ek : K.idxOf (f n) = k
        · have hxf : x = f n := by rw [ek, hx] at hk; injection hk
          have i2 := ih.num _ hj _ hk
          rw [if_pos ek, i2, hxf]
          simp
        · have hxf : f n ≠ x := by
            intro e2
            apply ek
            have := (List.getElem?_eq_some_iff.1 hx).2
            have h3 := (List.getElem?_eq_some_iff.1 hk).2
            exact (List.getElem_inj ih.nodup).1 (h3.trans (e2.trans this.symm))
          rw [if_neg ek, i1]
          simp [List.count_singleton, hxf]
    · have es : clS (K, T) (f n) = (K ++ [f n], T ++ [1]) := by unfold clS; rw [if_neg hm]
      rw [es]
      refine ⟨by simp [ih.len], ?_, ?_, ?_⟩
      · rw [List.nodup_append]
        refine ⟨ih.nodup, by simp, ?_⟩
        intro a ha b hb
        rw [List.mem_singleton.1 hb]
        rintro rfl
        exact hm ha
      · rw [er]; intro x hx
        rcases List.mem_append.1 hx with h | h
        · exact List.mem_append.2 (.inl (ih.all x h))
        · exact List.mem_append.2 (.inr h)
      · intro k hk1 x hx
        show nth (T ++ [1]) k = _
        rw [er, List.count_append]
        by_cases hk2 : k < K.length
        · have hx2 : K[k]? = some x := by rw [← hx]; exact (List.getElem?_append_left hk2).symm
          have hxf : f n ≠ x := by rintro rfl; exact hm (List.mem_of_getElem? hx2)
          rw [nth_app (by rw [ih.len]; exact hk2), ih.num k hk2 x hx2]
          simp [List.count_singleton, hxf]
        · have hk3 : k = K.length := by simp at hk1; omega
          subst hk3
          have hx3 : f n = x := by simpa using hx
          have hc : ((List.range n).map f).count x = 0 := List.count_eq_zero.2 (fun h => hm (by rw [hx3]; exact ih.all x h))
          rw [show K.length = T.length from ih.len.symm, nth_last, hc, hx3]
          simp
/-- The sum over the classes with more than one point. -/
def bsN (T : List Int) : Nat → Int
  | 0 => 0
  | k + 1 => if nth T k > 1 then bsN T k + nth T k else bsN T k
theorem part_count (p : List Int → Bool) (a : List Int) : ∀ L : List (List Int), L.countP p = (if p a = true then L.count a else 0) + (L.filter fun x => x != a).countP p
  | [] => by simp
  | x :: L => by
    have ih := part_count p a L
    by_cases e : x = a
    · subst e
      rw [List.countP_cons, ih, List.count_cons_self, List.filter_cons]
      simp
      split <;> omega
    · have e2 : (x != a) = true := by simp [e]
      rw [List.countP_cons, ih, List.count_cons_of_ne e, List.filter_cons, if_pos e2, List.countP_cons]
      omega
theorem class_sum (p : List Int → Bool) : ∀ (K L : List (List Int)), K.Nodup → (∀ x ∈ L, x ∈ K) → ((K.map fun x => if p x = true then L.count x else 0).sum) = L.countP p
  | [], L, _, h => by
    cases L with
    | nil => rfl
    | cons x L => exact absurd (h x (by simp)) (by simp)
  | a :: K, L, hn, h => by
    have hn2 := List.nodup_cons.1 hn
    have ih := class_sum p K (L.filter fun x => x != a) hn2.2 (fun x hx => by
      obtain ⟨h1, h2⟩ := List.mem_filter.1 hx
      rcases List.mem_cons.1 (h x h1) with rfl | h3
      · simp at h2
      · exact h3)
    rw [part_count p a L, ← ih, List.map_cons, List.sum_cons]
    congr 2
    apply List.map_congr_left
    intro x hx
    have hxa : x ≠ a := by rintro rfl; exact hn2.1 hx
    rw [List.count_filter (by simp [hxa])]
theorem bs_sum (f : Nat → List Int) (n : Nat) (K : List (List Int)) (T : List Int) (h : ClOk f n K T) : ∀ k, k ≤ K.length → bsN T k = ((((K.take k).map fun x => if decide (1 < ((List.range n).map f).count x) = true then ((List.range n).map f).count x else 0).sum : Nat) : Int)
  | 0, _ => by simp [bsN]
  | k + 1, hk => by
    have ih := bs_sum f n K T h k (by omega)
    have hkl : k < K.length := by omega
    have hx := h.num k hkl K[k] (List.getElem?_eq_getElem hkl)
    rw [List.take_succ_eq_append_getElem hkl, List.map_append, List.sum_append]
    simp only [bsN]
    rw [ih, hx, List.map_singleton, List.sum_singleton]
    obtain ⟨c, hc9⟩ : ∃ c, ((List.range n).map f).count K[k] = c := ⟨_, rfl⟩
    rw [hc9]
    by_cases hc : 1 < c
    · rw [if_pos (by omega), if_pos (decide_eq_true hc)]; omega
    · rw [if_neg (by omega), if_neg (by simp [hc])]; omega
/-- What the program counts. -/
def ibN (l : List Pt) : Nat → Int
  | 0 => 0
  | n + 1 => if 1 < (fitN l (arrL l (gpt n) 0) 0 961).length then ibN l n + 1 else ibN l n
theorem ibN_bd (l : List Pt) : ∀ n, 0 ≤ ibN l n ∧ ibN l n ≤ n
  | 0 => ⟨Int.le_refl _, Int.le_refl _⟩
  | n + 1 => by have := ibN_bd l n; simp only [ibN]; split <;> omega
def blF (l : List Pt) (k : Nat) : List Int := nrm l (gpt k)
theorem fit_count {l : List Pt} (h1 : 1 ≤ l.length) (k : Nat) (n : Nat) : (fitN l (arrL l (gpt k) 0) 0 n).length = ((List.range n).map (blF l)).count (blF l k) := by
  unfold fitN groundN
  rw [List.count, List.countP_map, List.countP_eq_length_filter, List.filter_map, List.length_map]
  congr 1
  apply List.filter_congr
  intro j _
  show decide (spread l (arrL l (gpt k) 0) (gpt j) ≤ 0) = ((nrm l (gpt j)) == nrm l (gpt k))
  rw [Bool.eq_iff_iff, decide_eq_true_iff, beq_iff_eq]
  exact fits_iff h1
theorem ib_count {l : List Pt} (h1 : 1 ≤ l.length) {L : List (List Int)} (hL : (List.range 961).map (blF l) = L) : ∀ n, ibN l n = (((List.range n).countP fun k => decide (1 < L.count (blF l k)) : Nat) : Int)
  | 0 => rfl
  | n + 1 => by
    have ih := ib_count h1 hL n
    rw [List.range_succ, List.countP_append]
    simp only [ibN]
    rw [ih, fit_count h1, hL]
    have hs : [n].countP (fun k => decide (1 < L.count (blF l k))) = if 1 < L.count (blF l n) then 1 else 0 := by simp [List.countP_cons]
    rw [hs]
    obtain ⟨c, hc9⟩ : ∃ c, List.count (blF l n) L = c := ⟨_, rfl⟩
    rw [hc9]
    by_cases hc : 1 < c
    · rw [if_pos hc, if_pos hc]; omega
    · rw [if_neg hc, if_neg hc]; omega
/-- Both count the same points. -/
theorem bl_same {l : List Pt} (h1 : 1 ≤ l.length) : bsN (clN (blF l) 961).2 (clN (blF l) 961).2.length = ibN l 961 := by
  have h := cl_ok (blF l) 961
  obtain ⟨⟨K, T⟩, hS⟩ : ∃ S, clN (blF l) 961 = S := ⟨_, rfl⟩
  rw [hS] at h ⊢
  have e := bs_sum (blF l) 961 K T h K.length (Nat.le_refl _)
  have hall := h.all
  obtain ⟨L, hL⟩ : ∃ L, (List.range 961).map (blF l) = L := ⟨_, rfl⟩
  rw [hL] at hall e
  have e2 : ∀ p : List Int → Bool, L.countP p = (List.range 961).countP (fun k => p (blF l k)) := fun p => by rw [← hL, List.countP_map]; rfl
  rw [List.take_of_length_le (Nat.le_refl _), class_sum (fun x => decide (1 < L.count x)) K _ h.nodup hall, e2] at e
  show bsN T T.length = _
  rw [show T.length = K.length from h.len, e, ib_count h1 hL]
theorem bs_bd (f : Nat → List Int) (n : Nat) (K : List (List Int)) (T : List Int) (h : ClOk f n K T) : ∀ k, k ≤ K.length → 0 ≤ bsN T k ∧ bsN T k ≤ n := by
  intro k hk
  have h0 := bs_sum f n K T h k hk
  refine ⟨by rw [h0]; omega, ?_⟩
  have e := class_sum (fun x => decide (1 < ((List.range n).map f).count x)) K _ h.nodup h.all
  have hc : (((List.range n).map f).countP fun x => decide (1 < ((List.range n).map f).count x)) ≤ n := by
    have := List.countP_le_length (p := fun x => decide (1 < ((List.range n).map f).count x)) (l := (List.range n).map f)
    simpa using this
  have hm : ((K.take k).map fun x => if decide (1 < ((List.range n).map f).count x) = true then ((List.range n).map f).count x else 0).sum ≤ (K.map fun x => if decide (1 < ((List.range n).map f).count x) = true then ((List.range n).map f).count x else 0).sum := by
    conv => rhs; rw [← List.take_append_drop k K]
    rw [List.map_append, List.sum_append]
    omega
  rw [h0]
  omega
def blV (l : List Pt) : Int := if okS l = true then ibN l 961 else 0
end Go.Proofs.Ytnocgcfepkdjeaa
