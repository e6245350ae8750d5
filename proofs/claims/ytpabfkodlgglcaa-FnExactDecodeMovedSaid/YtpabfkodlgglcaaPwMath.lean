/- Places in a box: plain. -/
import Derived.Test.YtpabfkodlgglcaaPoMath
import Derived.Test.YtpabfkodlgglcaaSl
namespace Go.Proofs.Ytpabfkodlgglcaa
open Go.RowKit

/-- Of the n numbers from lo on: those with remainder r. -/
def xsN (s r lo : Int) (n : Nat) : List Int := ((List.range n).map fun k : Nat => lo + (k : Int)).filter fun v => decide (v % s = r)
theorem xsN_zero (s r lo : Int) : xsN s r lo 0 = [] := rfl
theorem xsN_yes {s r lo : Int} {n : Nat} (h : (lo + n) % s = r) : xsN s r lo (n + 1) = xsN s r lo n ++ [lo + n] := by
  simp [xsN, List.range_succ, h]
theorem xsN_no {s r lo : Int} {n : Nat} (h : ¬ (lo + n) % s = r) : xsN s r lo (n + 1) = xsN s r lo n := by
  simp [xsN, List.range_succ, h]
theorem xsN_len (s r lo : Int) (n : Nat) : (xsN s r lo n).length ≤ n := by
  unfold xsN
  exact Nat.le_trans (List.length_filter_le _ _) (by simp)
theorem xsN_gap {s r lo : Int} {n : Nat} : ∀ d : Nat, (∀ k : Nat, n ≤ k → k < n + d → ¬ (lo + k) % s = r) → xsN s r lo (n + d) = xsN s r lo n
  | 0, _ => rfl
  | d + 1, h => by
    rw [show n + (d + 1) = n + d + 1 from by omega, xsN_no (h (n + d) (by omega) (by omega)), xsN_gap d fun k h1 h2 => h k h1 (by omega)]
theorem xsN_step {s r lo : Int} {n d : Nat} (hs : s = 99 ∨ s = 100) (h : (lo + n) % s = r) (h1 : 1 ≤ d) (h2 : (d : Int) ≤ s) : xsN s r lo (n + d) = xsN s r lo n ++ [lo + n] := by
  rw [show n + d = n + 1 + (d - 1) from by omega, xsN_gap (d - 1), xsN_yes h]
  intro k k1 k2 e
  obtain ⟨q, rfl⟩ : ∃ q : Nat, k = n + q := ⟨k - n, by omega⟩
  have hq1 : 1 ≤ (q : Int) := by omega
  have hq2 : (q : Int) < s := by omega
  rcases hs with rfl | rfl <;> omega
def nOf (lo hi x : Int) : Nat := (min x (hi + 1) - lo).toNat
theorem nOf_end {lo hi x : Int} (h : ¬ x ≤ hi) : nOf lo hi x = (hi + 1 - lo).toNat := by unfold nOf; rw [Int.min_eq_right (by omega)]
theorem xs_step {s r lo hi x : Int} (hs : s = 99 ∨ s = 100) (hx : x % s = r) (h1 : lo ≤ x) (h2 : x ≤ hi) : xsN s r lo (nOf lo hi (x + s)) = xsN s r lo (nOf lo hi x) ++ [x] := by
  have e1 : nOf lo hi x = (x - lo).toNat := by unfold nOf; rw [Int.min_eq_left (by omega)]
  obtain ⟨n, hn⟩ : ∃ n : Nat, x - lo = n := ⟨(x - lo).toNat, by omega⟩
  have e2 : (x - lo).toNat = n := by omega
  obtain ⟨d, hd⟩ : ∃ d : Nat, nOf lo hi (x + s) = n + d := ⟨nOf lo hi (x + s) - n, by unfold nOf; omega⟩
  have e3 : lo + (n : Int) = x := by omega
  rw [e1, e2, hd]
  have := xsN_step (r := r) (lo := lo) (n := n) (d := d) hs (by rw [e3]; exact hx) (by unfold nOf at hd; omega) (by unfold nOf at hd; omega)
  rw [e3] at this
  exact this
theorem xs_skip {s r lo hi x : Int} (hs : s = 99 ∨ s = 100) (hx : x % s = r) (h1 : ¬ lo ≤ x) : xsN s r lo (nOf lo hi (x + s)) = xsN s r lo (nOf lo hi x) := by
  have e1 : nOf lo hi x = 0 := by unfold nOf; omega
  have h := xsN_gap (s := s) (r := r) (lo := lo) (n := 0) (nOf lo hi (x + s)) fun k _ hk e => by
    have hk2 : (k : Int) < x + s - lo := by unfold nOf at hk; omega
    obtain ⟨q, hq⟩ : ∃ q : Int, q = lo + k - x := ⟨_, rfl⟩
    rw [show lo + (k : Int) = x + q from by omega] at e
    have q1 : 1 ≤ q := by omega
    have q2 : q < s := by omega
    rcases hs with rfl | rfl <;> omega
  rw [Nat.zero_add] at h
  rw [e1, h]
/-- A row of places. -/
def pwR (xs : List Int) (y : Int) : List Pt := xs.map fun x => (x, y)
theorem pwR_snoc (xs : List Int) (x y : Int) : pwR (xs ++ [x]) y = pwR xs y ++ [(x, y)] := by simp [pwR]
theorem pwR_len (xs : List Int) (y : Int) : (pwR xs y).length = xs.length := by simp [pwR]
def pwF (xs ys : List Int) : List Pt := ys.flatMap fun y => pwR xs y
theorem pwF_snoc (xs ys : List Int) (y : Int) : pwF xs (ys ++ [y]) = pwF xs ys ++ pwR xs y := by simp [pwF]
theorem pwF_len (xs ys : List Int) : (pwF xs ys).length = ys.length * xs.length := by
  induction ys with
  | nil => simp [pwF]
  | cons y ys ih =>
    have e : pwF xs (y :: ys) = pwR xs y ++ pwF xs ys := by simp [pwF]
    rw [e, List.length_append, ih, pwR_len, List.length_cons, Nat.add_mul]
    omega
theorem xsN_mono {s r lo : Int} {n m : Nat} (h : n ≤ m) : (xsN s r lo n).length ≤ (xsN s r lo m).length := by
  obtain ⟨d, rfl⟩ : ∃ d, m = n + d := ⟨m - n, by omega⟩
  clear h
  induction d with
  | zero => exact Nat.le_refl _
  | succ d ih =>
    by_cases hc : (lo + ((n + d : Nat) : Int)) % s = r
    · rw [show n + (d + 1) = n + d + 1 from by omega, xsN_yes hc, List.length_append]; omega
    · rw [show n + (d + 1) = n + d + 1 from by omega, xsN_no hc]; exact ih
def pwK0 (o : Bool) (a b lx ly hx hy : Int) : Bool := vR o a b && (vP lx ly && (vP hx hy && (decide (lx ≤ hx) && decide (ly ≤ hy))))
def pwA (o : Bool) (a b lx ly hx hy : Int) : List Pt := pwF (xsN (szOf o) a lx (hx + 1 - lx).toNat) (xsN (szOf o) b ly (hy + 1 - ly).toNat)
def pwK (o : Bool) (a b lx ly hx hy : Int) : Bool := pwK0 o a b lx ly hx hy && decide ((pwA o a b lx ly hx hy).length ≤ 400)
def pwV (o : Bool) (a b lx ly hx hy : Int) : List Pt := if pwK o a b lx ly hx hy = true then pwA o a b lx ly hx hy else []
theorem pwV_len (o : Bool) (a b lx ly hx hy : Int) : (pwV o a b lx ly hx hy).length ≤ 400 := by
  unfold pwV
  split
  · rename_i h
    unfold pwK at h
    simp only [Bool.and_eq_true, decide_eq_true_eq] at h
    exact h.2
  · simp
/-- One more before the end: the whole is longer. -/
theorem pw_more {s a b lx ly hx hy x y : Int} (hs : s = 99 ∨ s = 100) (hxs : x % s = a) (hys : y % s = b) (h1 : lx ≤ x) (h2 : x ≤ hx) (h3 : ly ≤ y) (h4 : y ≤ hy) :
    (pwF (xsN s a lx (hx + 1 - lx).toNat) (xsN s b ly (nOf ly hy y)) ++ pwR (xsN s a lx (nOf lx hx x)) y).length < (pwF (xsN s a lx (hx + 1 - lx).toNat) (xsN s b ly (hy + 1 - ly).toNat)).length := by
  have e1 := xs_step hs hxs h1 h2
  have e2 := xs_step hs hys h3 h4
  have l1 : (xsN s a lx (nOf lx hx x)).length + 1 ≤ (xsN s a lx (hx + 1 - lx).toNat).length := by
    have := xsN_mono (s := s) (r := a) (lo := lx) (show nOf lx hx (x + s) ≤ (hx + 1 - lx).toNat by unfold nOf; omega)
    rw [e1, List.length_append] at this
    exact this
  have l2 : (xsN s b ly (nOf ly hy y)).length + 1 ≤ (xsN s b ly (hy + 1 - ly).toNat).length := by
    have := xsN_mono (s := s) (r := b) (lo := ly) (show nOf ly hy (y + s) ≤ (hy + 1 - ly).toNat by unfold nOf; omega)
    rw [e2, List.length_append] at this
    exact this
  rw [List.length_append, pwF_len, pwF_len, pwR_len]
  have l3 := Nat.mul_le_mul_right (xsN s a lx (hx + 1 - lx).toNat).length l2
  rw [Nat.add_mul, Nat.one_mul] at l3
  omega
theorem xs_start {s r lo hi : Int} (hs : s = 99 ∨ s = 100) (h0 : 0 ≤ lo) (h1 : 0 ≤ r) (h2 : r < s) : xsN s r lo (nOf lo hi r) = [] := by
  have h := xsN_gap (s := s) (r := r) (lo := lo) (n := 0) (nOf lo hi r) fun k _ hk e => by
    have hk2 : (k : Int) < r - lo := by unfold nOf at hk; omega
    rw [Int.emod_eq_of_lt (by omega) (by omega)] at e
    omega
  rwa [Nat.zero_add] at h
theorem next_mod {s x r : Int} (hs : s = 99 ∨ s = 100) (h : x % s = r) : (x + s) % s = r := by rcases hs with rfl | rfl <;> omega
end Go.Proofs.Ytpabfkodlgglcaa
