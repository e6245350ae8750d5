/- Sites: plain lists of points, no program in sight. -/
import Derived.Test.YtnocgcfepkdjeaaWi
import Derived.Test.YtnocgcfepkdjeaaSl
namespace Go.Proofs.Ytnocgcfepkdjeaa
/-- A point of the ground. -/
def pt (p : Pt) : Bool := wi p.1 0 30 && wi p.2 0 30
theorem pt_iff {x y : Int} : pt (x, y) = true ↔ (0 ≤ x ∧ x ≤ 30) ∧ (0 ≤ y ∧ y ≤ 30) := by simp [pt, wi_iff]
theorem ab_bd {n m : Int} (h0 : -m ≤ n) (h1 : n ≤ m) : 0 ≤ ab n ∧ ab n ≤ m := by unfold ab; split <;> omega
def dst (a b : Pt) : Int := ab (a.1 - b.1) + ab (a.2 - b.2)
def sdV (x y u v : Int) : Int := if pt (x, y) && pt (u, v) then dst (x, y) (u, v) else 0
theorem dst_bd {x y u v m : Int} (hx0 : -m ≤ x) (hx1 : x ≤ m) (hy0 : -m ≤ y) (hy1 : y ≤ m) (hu0 : -m ≤ u) (hu1 : u ≤ m) (hv0 : -m ≤ v) (hv1 : v ≤ m) : 0 ≤ dst (x, y) (u, v) ∧ dst (x, y) (u, v) ≤ 4 * m := by
  have h1 := ab_bd (n := x - u) (m := 2 * m) (by omega) (by omega)
  have h2 := ab_bd (n := y - v) (m := 2 * m) (by omega) (by omega)
  simp only [dst]; omega
/-- All coordinates are small. -/
def small (l : List Pt) : Prop := ∀ k, k < l.length → (-1000000 ≤ px l k ∧ px l k ≤ 1000000) ∧ (-1000000 ≤ py l k ∧ py l k ≤ 1000000)
def arrL (l : List Pt) (p : Pt) (t : Int) : List Int := l.map fun s => t + dst s p
theorem arrL_take (l : List Pt) (p : Pt) (t : Int) (k : Nat) (h : k < l.length) : arrL (l.take (k + 1)) p t = arrL (l.take k) p t ++ [t + dst (px l k, py l k) p] := by
  rw [take_pt l k h]; simp [arrL]
theorem arrL_len (l : List Pt) (p : Pt) (t : Int) : (arrL l p t).length = l.length := by simp [arrL]
/-! lists of sites -/
theorem pt_small {l : List Pt} (h : ∀ k, k < l.length → pt (px l k, py l k) = true) : small l := fun k hk => by
  have := pt_iff.1 (h k hk); omega
/-- The first n sites are points of the ground, and no two are one. -/
def goodN (l : List Pt) (n : Nat) : Prop := ∀ i, i < n → pt (px l i, py l i) = true ∧ ∀ k, k < i → (px l k, py l k) ≠ (px l i, py l i)
theorem goodN_zero (l : List Pt) : goodN l 0 := fun _ h => absurd h (by omega)
theorem goodN_succ {l : List Pt} {n : Nat} (h : goodN l n) (h1 : pt (px l n, py l n) = true) (h2 : ∀ k, k < n → (px l k, py l k) ≠ (px l n, py l n)) : goodN l (n + 1) := fun i hi => by
  rcases Nat.lt_or_ge i n with h3 | h3
  · exact h i h3
  · obtain rfl : i = n := by omega
    exact ⟨h1, h2⟩
instance (l : List Pt) (n : Nat) : Decidable (goodN l n) := inferInstanceAs (Decidable (∀ i, i < n → _))
def okS (l : List Pt) : Bool := decide (1 ≤ l.length ∧ l.length ≤ 5) && decide (goodN l l.length)
theorem okS_iff {l : List Pt} : okS l = true ↔ (1 ≤ l.length ∧ l.length ≤ 5) ∧ goodN l l.length := by simp [okS]
theorem okS_small {l : List Pt} (h : okS l = true) : small l := pt_small fun k hk => ((okS_iff.1 h).2 k hk).1
theorem okS_no {l : List Pt} {i : Nat} (hi : i < l.length) (h : ¬ (pt (px l i, py l i) = true ∧ ∀ k, k < i → (px l k, py l k) ≠ (px l i, py l i))) : okS l = false := by
  rw [Bool.eq_false_iff]; intro e; exact h ((okS_iff.1 e).2 i hi)
theorem okS_len {l : List Pt} (h : ¬ (1 ≤ l.length ∧ l.length ≤ 5)) : okS l = false := by
  rw [Bool.eq_false_iff]; intro e; exact h (okS_iff.1 e).1
theorem okS_yes {l : List Pt} (h : 1 ≤ l.length ∧ l.length ≤ 5) (h2 : goodN l l.length) : okS l = true := okS_iff.2 ⟨h, h2⟩
theorem okS_wi {l : List Pt} (h : goodN l l.length) : okS l = wi l.length 1 5 := by
  by_cases h2 : 1 ≤ l.length ∧ l.length ≤ 5
  · rw [okS_yes h2 h, eq_comm, wi_iff]; omega
  · rw [okS_len h2, eq_comm, wi_no]; omega
theorem okS_big {l : List Pt} {i : Nat} (h : i < l.length) (h5 : 5 < i) : okS l = wi l.length 1 5 := by
  rw [okS_len (by omega), eq_comm, wi_no]; omega
def diffN (l : List Pt) (i k : Nat) : Prop := ∀ j, j < k → (px l j, py l j) ≠ (px l i, py l i)
theorem diffN_succ {l : List Pt} {i k : Nat} (h : diffN l i k) (h2 : (px l k, py l k) ≠ (px l i, py l i)) : diffN l i (k + 1) := fun j hj => by
  rcases Nat.lt_or_ge j k with h3 | h3
  · exact h j h3
  · obtain rfl : j = k := by omega
    exact h2
def allN (a : List Int) (lo hi : Int) (n : Nat) : Prop := ∀ i, i < n → wi (nth a i) lo hi = true
instance (a : List Int) (lo hi : Int) (n : Nat) : Decidable (allN a lo hi n) := inferInstanceAs (Decidable (∀ i, i < n → _))
def allW (a : List Int) (lo hi : Int) : Bool := decide (allN a lo hi a.length)
theorem allN_succ {a : List Int} {lo hi : Int} {n : Nat} (h : allN a lo hi n) (h1 : wi (nth a n) lo hi = true) : allN a lo hi (n + 1) := fun i hi2 => by
  rcases Nat.lt_or_ge i n with h3 | h3
  · exact h i h3
  · obtain rfl : i = n := by omega
    exact h1
theorem allW_no {a : List Int} {lo hi : Int} {i : Nat} (h : i < a.length) (h1 : wi (nth a i) lo hi = false) : allW a lo hi = false := by
  rw [Bool.eq_false_iff]; intro e
  have := of_decide_eq_true e i h
  rw [h1] at this; cases this
theorem allW_yes {a : List Int} {lo hi : Int} (h : allN a lo hi a.length) : allW a lo hi = true := decide_eq_true h
/-- What is asked of sites and arrivals. -/
def askB (l : List Pt) (a : List Int) : Bool := okS l && (decide (a.length = l.length) && allW a 0 100060)
theorem askB_iff {l : List Pt} {a : List Int} : askB l a = true ↔ okS l = true ∧ a.length = l.length ∧ allW a 0 100060 = true := by simp [askB]
theorem allW_at {a : List Int} {lo hi : Int} (h : allW a lo hi = true) {k : Nat} (hk : k < a.length) : lo ≤ nth a k ∧ nth a k ≤ hi := wi_iff.1 (of_decide_eq_true h k hk)

/-! lists made of sites -/
def sentN (l : List Pt) (a : List Int) (p : Pt) (n : Nat) : List Int := (List.range n).map fun i => nth a i - dst (px l i, py l i) p
theorem sentN_succ (l : List Pt) (a : List Int) (p : Pt) (n : Nat) : sentN l a p (n + 1) = sentN l a p n ++ [nth a n - dst (px l n, py l n) p] := by
  simp [sentN, List.range_succ]
theorem sentN_len (l : List Pt) (a : List Int) (p : Pt) (n : Nat) : (sentN l a p n).length = n := by simp [sentN]
theorem sentN_at (l : List Pt) (a : List Int) (p : Pt) (n : Nat) {k : Nat} (hk : k < n) : nth (sentN l a p n) k = nth a k - dst (px l k, py l k) p := by
  simp [nth, sentN, hk]
def covN (l : List Pt) (p : Pt) (r : Int) (n : Nat) : List Int := ((List.range n).filter fun i => decide (dst (px l i, py l i) p ≤ r)).map Int.ofNat
theorem covN_yes {l : List Pt} {p : Pt} {r : Int} {n : Nat} (h : dst (px l n, py l n) p ≤ r) : covN l p r (n + 1) = covN l p r n ++ [(n : Int)] := by
  simp [covN, List.range_succ, h]
theorem covN_no {l : List Pt} {p : Pt} {r : Int} {n : Nat} (h : ¬ dst (px l n, py l n) p ≤ r) : covN l p r (n + 1) = covN l p r n := by
  simp [covN, List.range_succ, h]
/-- The points of the ground. -/
def gpt (k : Nat) : Pt := (((k % 31 : Nat) : Int), ((k / 31 : Nat) : Int))
def groundN (n : Nat) : List Pt := (List.range n).map gpt
theorem groundN_succ (n : Nat) : groundN (n + 1) = groundN n ++ [gpt n] := by simp [groundN, List.range_succ]
theorem groundN_len (n : Nat) : (groundN n).length = n := by simp [groundN]
theorem groundN_at {n k : Nat} (hk : k < n) : px (groundN n) k = ((k % 31 : Nat) : Int) ∧ py (groundN n) k = ((k / 31 : Nat) : Int) := by
  simp [px, py, groundN, hk, gpt]
/-- Smallest, greatest. -/
def mnN (s : List Int) (n : Nat) : Int := (s.take n).foldl min (nth s 0)
def mxN (s : List Int) (n : Nat) : Int := (s.take n).foldl max (nth s 0)
theorem mnN_succ {s : List Int} {n : Nat} (h : n < s.length) : mnN s (n + 1) = min (mnN s n) (nth s n) := by
  unfold mnN; rw [take_num s n h, List.foldl_append]; rfl
theorem mxN_succ {s : List Int} {n : Nat} (h : n < s.length) : mxN s (n + 1) = max (mxN s n) (nth s n) := by
  unfold mxN; rw [take_num s n h, List.foldl_append]; rfl
theorem mnN_zero (s : List Int) : mnN s 0 = nth s 0 := rfl
theorem mxN_zero (s : List Int) : mxN s 0 = nth s 0 := rfl
theorem mnN_one {s : List Int} (h : 0 < s.length) : mnN s 1 = nth s 0 := by rw [mnN_succ h, mnN_zero]; omega
theorem mxN_one {s : List Int} (h : 0 < s.length) : mxN s 1 = nth s 0 := by rw [mxN_succ h, mxN_zero]; omega
def spread (l : List Pt) (a : List Int) (p : Pt) : Int := mxN (sentN l a p l.length) l.length - mnN (sentN l a p l.length) l.length
/-- Where the smallest is first. -/
def argN (a : List Int) : Nat → Nat
  | 0 => 0
  | n + 1 => if nth a n < nth a (argN a n) then n else argN a n
theorem argN_one (a : List Int) : argN a 1 = 0 := by
  have e : argN a 0 = 0 := rfl
  rw [argN, e, if_neg (by omega)]
theorem argN_lt (a : List Int) : ∀ n, 0 < n → argN a n < n
  | 0, h => absurd h (by omega)
  | 1, _ => by rw [argN_one]; omega
  | n + 2, _ => by
    have := argN_lt a (n + 1) (by omega)
    rw [argN]; split <;> omega
def argV (l : List Pt) (a : List Int) : Int := if askB l a = true then (argN a a.length : Int) else 0
theorem covN_len (l : List Pt) (p : Pt) (r : Int) (n : Nat) : (covN l p r n).length ≤ n := by
  unfold covN
  rw [List.length_map]
  exact Nat.le_trans (List.length_filter_le _ _) (by simp)
theorem gpt_at {x y : Nat} (h : x < 31) : gpt (31 * y + x) = ((x : Int), (y : Int)) := by
  unfold gpt
  rw [show (31 * y + x) % 31 = x from by omega, show (31 * y + x) / 31 = y from by omega]
def fitN (l : List Pt) (a : List Int) (tol : Int) (n : Nat) : List Pt := (groundN n).filter fun q => decide (spread l a q ≤ tol)
theorem fitN_yes {l : List Pt} {a : List Int} {tol : Int} {n : Nat} (h : spread l a (gpt n) ≤ tol) : fitN l a tol (n + 1) = fitN l a tol n ++ [gpt n] := by
  simp [fitN, groundN_succ, h]
theorem fitN_no {l : List Pt} {a : List Int} {tol : Int} {n : Nat} (h : ¬ spread l a (gpt n) ≤ tol) : fitN l a tol (n + 1) = fitN l a tol n := by
  simp [fitN, groundN_succ, h]
theorem fitN_len (l : List Pt) (a : List Int) (tol : Int) (n : Nat) : (fitN l a tol n).length ≤ n := by
  unfold fitN
  exact Nat.le_trans (List.length_filter_le _ _) (by rw [groundN_len]; exact Nat.le_refl _)
theorem fold_min_bd {lo hi : Int} : ∀ (s : List Int) (m : Int), lo ≤ m → m ≤ hi → (∀ x ∈ s, lo ≤ x ∧ x ≤ hi) → lo ≤ s.foldl min m ∧ s.foldl min m ≤ hi
  | [], _, h0, h1, _ => ⟨h0, h1⟩
  | x :: s, m, h0, h1, h => by
    have := h x List.mem_cons_self
    exact fold_min_bd s (min m x) (by omega) (by omega) fun y hy => h y (List.mem_cons_of_mem _ hy)
theorem fold_max_bd {lo hi : Int} : ∀ (s : List Int) (m : Int), lo ≤ m → m ≤ hi → (∀ x ∈ s, lo ≤ x ∧ x ≤ hi) → lo ≤ s.foldl max m ∧ s.foldl max m ≤ hi
  | [], _, h0, h1, _ => ⟨h0, h1⟩
  | x :: s, m, h0, h1, h => by
    have := h x List.mem_cons_self
    exact fold_max_bd s (max m x) (by omega) (by omega) fun y hy => h y (List.mem_cons_of_mem _ hy)
theorem mnN_bd {s : List Int} {lo hi : Int} (hs : 0 < s.length) (h : ∀ x ∈ s, lo ≤ x ∧ x ≤ hi) (n : Nat) : lo ≤ mnN s n ∧ mnN s n ≤ hi :=
  fold_min_bd _ _ (h _ (nth_mem hs)).1 (h _ (nth_mem hs)).2 fun x hx => h x (List.mem_of_mem_take hx)
theorem mxN_bd {s : List Int} {lo hi : Int} (hs : 0 < s.length) (h : ∀ x ∈ s, lo ≤ x ∧ x ≤ hi) (n : Nat) : lo ≤ mxN s n ∧ mxN s n ≤ hi :=
  fold_max_bd _ _ (h _ (nth_mem hs)).1 (h _ (nth_mem hs)).2 fun x hx => h x (List.mem_of_mem_take hx)
def smallN (a : List Int) (n : Nat) : Prop := ∀ k, k < n → -1000000 ≤ nth a k ∧ nth a k ≤ 1000000
theorem sentN_bd {l : List Pt} {a : List Int} {x y : Int} (hs : small l) (ha : smallN a l.length) (hx0 : -1000000 ≤ x) (hx1 : x ≤ 1000000) (hy0 : -1000000 ≤ y) (hy1 : y ≤ 1000000) :
    ∀ v ∈ sentN l a (x, y) l.length, -5000000 ≤ v ∧ v ≤ 5000000 := by
  intro v hv
  simp only [sentN, List.mem_map, List.mem_range] at hv
  obtain ⟨i, hi, rfl⟩ := hv
  obtain ⟨⟨b0, b1⟩, b2, b3⟩ := hs i hi
  have h1 := dst_bd b0 b1 b2 b3 hx0 hx1 hy0 hy1
  have h2 := ha i hi
  omega
theorem groundN_small {n k : Nat} (hk : k < n) (hn : n ≤ 961) : (0 ≤ px (groundN n) k ∧ px (groundN n) k ≤ 30) ∧ (0 ≤ py (groundN n) k ∧ py (groundN n) k ≤ 30) := by
  obtain ⟨h1, h2⟩ := groundN_at hk
  rw [h1, h2]; omega
theorem gpt_of {n k : Nat} (hk : k < n) : gpt k = (px (groundN n) k, py (groundN n) k) := by
  obtain ⟨h1, h2⟩ := groundN_at hk
  rw [h1, h2]; rfl
/-- The first point with the smallest spread, and this spread, among the first n points; -1 if there is none. -/
def bestN (l : List Pt) (a : List Int) : Nat → Pt × Int
  | 0 => ((0, 0), -1)
  | n + 1 => if (bestN l a n).2 < 0 ∨ spread l a (gpt n) < (bestN l a n).2 then (gpt n, spread l a (gpt n)) else bestN l a n
/-! what the exported functions hand back -/
def arrK (l : List Pt) (p : Pt) (t : Int) : Bool := okS l && (pt p && wi t 0 100000)
def arrV (l : List Pt) (p : Pt) (t : Int) : List Int := if arrK l p t = true then arrL l p t else []
def sndK (l : List Pt) (p : Pt) (a : List Int) : Bool := askB l a && pt p
def sndV (l : List Pt) (p : Pt) (a : List Int) : List Int := if sndK l p a = true then sentN l a p l.length else []
def covK (l : List Pt) (p : Pt) (r : Int) : Bool := okS l && (pt p && wi r 0 60)
def covV (l : List Pt) (p : Pt) (r : Int) : List Int := if covK l p r = true then covN l p r l.length else []
theorem askB_small {l : List Pt} {a : List Int} (h : askB l a = true) : smallN a l.length := fun k hk => by
  obtain ⟨_, h2, h3⟩ := askB_iff.1 h
  have := allW_at h3 (k := k) (by omega)
  omega
theorem arrV_len (l : List Pt) (p : Pt) (t : Int) : (arrV l p t).length ≤ l.length := by
  unfold arrV; split
  · rw [arrL_len]; exact Nat.le_refl _
  · simp
theorem covV_len (l : List Pt) (p : Pt) (r : Int) : (covV l p r).length ≤ l.length := by
  unfold covV; split
  · exact covN_len _ _ _ _
  · simp
theorem sndV_len (l : List Pt) (p : Pt) (a : List Int) : (sndV l p a).length ≤ l.length := by
  unfold sndV; split
  · rw [sentN_len]; exact Nat.le_refl _
  · simp
/-! possible arrivals -/
def okPair (l : List Pt) (a : List Int) (i k : Nat) : Prop := ab (nth a i - nth a k) ≤ dst (px l i, py l i) (px l k, py l k)
instance (l : List Pt) (a : List Int) (i k : Nat) : Decidable (okPair l a i k) := inferInstanceAs (Decidable (_ ≤ _))
def posB (l : List Pt) (a : List Int) : Bool := decide (∀ i, i < l.length → ∀ k, k < l.length → okPair l a i k)
def posV (l : List Pt) (a : List Int) : Bool := askB l a && posB l a
theorem ab_neg (n : Int) : ab (-n) = ab n := by unfold ab; split <;> split <;> omega
theorem ab_swap (x y : Int) : ab (x - y) = ab (y - x) := by rw [← ab_neg]; congr 1; omega
theorem okPair_swap {l : List Pt} {a : List Int} {i k : Nat} (h : okPair l a i k) : okPair l a k i := by
  unfold okPair dst at *
  rw [ab_swap (nth a k), ab_swap (px l k, py l k).1, ab_swap (px l k, py l k).2]
  exact h
theorem okPair_same (l : List Pt) (a : List Int) (i : Nat) : okPair l a i i := by
  unfold okPair dst
  have := ab_spec (nth a i - nth a i)
  have h1 := (ab_spec ((px l i, py l i).1 - (px l i, py l i).1)).2.2
  have h2 := (ab_spec ((px l i, py l i).2 - (px l i, py l i).2)).2.2
  omega
theorem posB_no {l : List Pt} {a : List Int} {i k : Nat} (hi : i < l.length) (hk : k < l.length) (h : ¬ okPair l a i k) : posB l a = false := by
  rw [Bool.eq_false_iff]; intro e; exact h (of_decide_eq_true e i hi k hk)
theorem posB_yes {l : List Pt} {a : List Int} (h : ∀ i, i < l.length → ∀ k, k < l.length → okPair l a i k) : posB l a = true := decide_eq_true h
theorem posB_half {l : List Pt} {a : List Int} (h : ∀ i, i < l.length → ∀ k, k < i → okPair l a i k) : posB l a = true := posB_yes fun i hi k hk => by
  rcases Nat.lt_trichotomy k i with h1 | h1 | h1
  · exact h i hi k h1
  · subst h1; exact okPair_same _ _ _
  · exact okPair_swap (h k hk i h1)
def rowOk (l : List Pt) (a : List Int) (i n : Nat) : Prop := ∀ k, k < n → okPair l a i k
theorem rowOk_succ {l : List Pt} {a : List Int} {i n : Nat} (h : rowOk l a i n) (h2 : okPair l a i n) : rowOk l a i (n + 1) := fun k hk => by
  rcases Nat.lt_or_ge k n with h3 | h3
  · exact h k h3
  · obtain rfl : k = n := by omega
    exact h2
def allOk (l : List Pt) (a : List Int) (f : Nat → Nat) (n : Nat) : Prop := ∀ i, i < n → rowOk l a i (f i)
theorem allOk_succ {l : List Pt} {a : List Int} {f : Nat → Nat} {n : Nat} (h : allOk l a f n) (h2 : rowOk l a n (f n)) : allOk l a f (n + 1) := fun k hk => by
  rcases Nat.lt_or_ge k n with h3 | h3
  · exact h k h3
  · obtain rfl : k = n := by omega
    exact h2
/-! points that are covered -/
def cpN (l : List Pt) (r cnt : Int) : Nat → Nat
  | 0 => 0
  | n + 1 => if cnt ≤ ((covN l (gpt n) r l.length).length : Int) then cpN l r cnt n + 1 else cpN l r cnt n
theorem cpN_le (l : List Pt) (r cnt : Int) : ∀ n, cpN l r cnt n ≤ n
  | 0 => Nat.le_refl _
  | n + 1 => by have := cpN_le l r cnt n; unfold cpN; split <;> omega
theorem cpN_yes {l : List Pt} {r cnt : Int} {n : Nat} (h : cnt ≤ ((covN l (gpt n) r l.length).length : Int)) : cpN l r cnt (n + 1) = cpN l r cnt n + 1 := by rw [cpN, if_pos h]
theorem cpN_no {l : List Pt} {r cnt : Int} {n : Nat} (h : ¬ cnt ≤ ((covN l (gpt n) r l.length).length : Int)) : cpN l r cnt (n + 1) = cpN l r cnt n := by rw [cpN, if_neg h]
def cpK (l : List Pt) (r cnt : Int) : Bool := okS l && (wi r 0 60 && wi cnt 1 5)
def cpV (l : List Pt) (r cnt : Int) : Int := if cpK l r cnt = true then (cpN l r cnt 961 : Int) else 0
/-! spreads and times -/
theorem fold_min_le : ∀ (s : List Int) (m : Int), s.foldl min m ≤ m
  | [], _ => Int.le_refl _
  | x :: s, m => by have := fold_min_le s (min m x); simp only [List.foldl_cons]; omega
theorem fold_max_ge : ∀ (s : List Int) (m : Int), m ≤ s.foldl max m
  | [], _ => Int.le_refl _
  | x :: s, m => by have := fold_max_ge s (max m x); simp only [List.foldl_cons]; omega
theorem spread_pos (l : List Pt) (a : List Int) (p : Pt) : 0 ≤ spread l a p := by
  unfold spread mxN mnN
  have h1 := fold_min_le ((sentN l a p l.length).take l.length) (nth (sentN l a p l.length) 0)
  have h2 := fold_max_ge ((sentN l a p l.length).take l.length) (nth (sentN l a p l.length) 0)
  omega
def spK (l : List Pt) (a : List Int) (p : Pt) : Bool := askB l a && pt p
def spV (l : List Pt) (a : List Int) (p : Pt) : Int := if spK l a p = true then spread l a p else 0
def stT (l : List Pt) (a : List Int) (p : Pt) : Int := nth (sentN l a p l.length) 0
def stK (l : List Pt) (a : List Int) (p : Pt) : Bool := askB l a && (pt p && (decide (spread l a p = 0) && wi (stT l a p) 0 100000))
def stV (l : List Pt) (a : List Int) (p : Pt) : Int := if stK l a p = true then stT l a p else 0
/-! a site less -/
def drpK (l : List Pt) (i : Int) : Bool := okS l && (wi i 0 ((l.length : Int) - 1) && decide (l.length ≠ 1))
def drpV (l : List Pt) (i : Int) : List Pt := if drpK l i = true then dropL l i.toNat else []
theorem drpV_len (l : List Pt) (i : Int) : (drpV l i).length ≤ l.length := by
  unfold drpV; split
  · rw [dropL, List.length_append, List.length_take, List.length_drop]; rename_i h
    have h1 : wi i 0 ((l.length : Int) - 1) = true := by unfold drpK at h; simp only [Bool.and_eq_true] at h; exact h.2.1
    have := wi_iff.1 h1
    omega
  · simp
end Go.Proofs.Ytnocgcfepkdjeaa
