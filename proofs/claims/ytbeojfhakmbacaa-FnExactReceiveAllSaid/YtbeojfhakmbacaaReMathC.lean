/- What is heard: finding, counting, what is fresh; plain. -/
import Derived.Test.YtbeojfhakmbacaaReMathB
namespace Go.Proofs.Ytbeojfhakmbacaa
open Go.RowKit
theorem kpt_bd {r : Rp} {t : Int} {o : Bool} {m : Int} (h : kpt r t o m = true) : -1 ≤ t ∧ (t = -1 ∨ (0 ≤ t ∧ t ≤ m)) := by
  unfold kpt at h
  split at h
  · omega
  · simp only [Bool.and_eq_true] at h
    have := wi_iff.1 h.1
    omega
theorem okH_bd {m : Int} {l : List Hd} {i : Nat} {a : Int} {eo : Bool} {ea eb et : Int} {oo : Bool} {oa ob ot f : Int} (h : okR m l = true) (hi : i < l.length) (e : hx l i = (a, (eo, ea, eb), et, (oo, oa, ob), ot, f)) :
    ((0 ≤ m ∧ m ≤ 9999) ∧ 1 ≤ a ∧ a ≤ 65535) ∧ (1 ≤ f ∧ f ≤ 9999) ∧ (-1 ≤ et ∧ et ≤ m) ∧ -1 ≤ ot ∧ ot ≤ m := by
  obtain ⟨hm, _, hn⟩ := okR_iff h
  have h2 := (hn i hi).1
  rw [okH_eq e] at h2
  simp only [Bool.and_eq_true] at h2
  obtain ⟨⟨h3, h4⟩, h5, h6⟩ := h2
  have m1 := wi_iff.1 hm
  have m2 := wi_iff.1 h3
  have m3 := wi_iff.1 h4
  have m4 := kpt_bd h5
  have m5 := kpt_bd h6
  omega
def noL (l : List Hd) (x : Int) (i : Nat) : Prop := ∀ j, j < i → (hx l j).1 ≠ x
theorem noL_zero {l : List Hd} {x : Int} : noL l x 0 := fun _ h => absurd h (by omega)
theorem noL_succ {l : List Hd} {x : Int} {i : Nat} (h : noL l x i) (e : (hx l i).1 ≠ x) : noL l x (i + 1) := by
  intro j hj
  by_cases k : j = i
  · subst k; exact e
  · exact h j (by omega)
def fndF (l : List Hd) (x : Int) : Nat → Nat → Int
  | 0, _ => -1
  | n + 1, i => if (hx l i).1 = x then (i : Int) else fndF l x n (i + 1)
def fndV (l : List Hd) (x : Int) : Int := fndF l x l.length 0
theorem fndF_no {l : List Hd} {x : Int} : ∀ n i, (∀ j, i ≤ j → j < i + n → (hx l j).1 ≠ x) → fndF l x n i = -1
  | 0, _, _ => rfl
  | n + 1, i, h => by rw [fndF, if_neg (h i (by omega) (by omega))]; exact fndF_no n (i + 1) fun j h1 h2 => h j (by omega) (by omega)
theorem fndF_yes {l : List Hd} {x : Int} {k : Nat} (e : (hx l k).1 = x) : ∀ n i, i ≤ k → k < i + n → (∀ j, i ≤ j → j < k → (hx l j).1 ≠ x) → fndF l x n i = (k : Int)
  | 0, i, h1, h2, _ => by omega
  | n + 1, i, h1, h2, h => by
    rw [fndF]
    by_cases hk : i = k
    · subst hk; rw [if_pos e]
    · rw [if_neg (h i (by omega) (by omega))]; exact fndF_yes e n (i + 1) (by omega) (by omega) fun j h3 h4 => h j (by omega) h4
theorem fnd_some {l : List Hd} {x : Int} {i : Nat} (hi : i < l.length) (h : noL l x i) (e : (hx l i).1 = x) : fndV l x = (i : Int) := fndF_yes e _ _ (by omega) (by omega) fun j _ h2 => h j h2
theorem fnd_none {l : List Hd} {x : Int} (h : noL l x l.length) : fndV l x = -1 := fndF_no _ _ fun j _ h2 => h j (by omega)
theorem fndF_cases (l : List Hd) (x : Int) : ∀ n i, fndF l x n i = -1 ∨ ∃ k : Nat, i ≤ k ∧ k < i + n ∧ fndF l x n i = (k : Int)
  | 0, _ => .inl rfl
  | n + 1, i => by
    rw [fndF]
    split
    · exact .inr ⟨i, by omega, by omega, rfl⟩
    · rcases fndF_cases l x n (i + 1) with h | ⟨k, h1, h2, h3⟩
      · exact .inl h
      · exact .inr ⟨k, by omega, by omega, h3⟩
theorem fnd_cases (l : List Hd) (x : Int) : fndV l x = -1 ∨ ∃ k : Nat, k < l.length ∧ fndV l x = (k : Int) := by
  rcases fndF_cases l x l.length 0 with h | ⟨k, _, h2, h3⟩
  · exact .inl h
  · exact .inr ⟨k, by omega, h3⟩
/-! ### All frames -/
def totF (l : List Hd) : Int := (l.map fun h => h.2.2.2.2.2).sum
def tfV (m : Int) (l : List Hd) : Int := if okR m l = true then totF l else 0
theorem tot_nil (l : List Hd) : totF (l.take 0) = 0 := by simp [totF]
theorem tot_succ {l : List Hd} {i : Nat} (hi : i < l.length) {f : Int} (e : (hx l i).2.2.2.2.2 = f) : totF (l.take (i + 1)) = totF (l.take i) + f := by
  rw [take_hd l i hi]; simp [totF, e]
/-! ### What was heard of one -/
def hfK (m : Int) (l : List Hd) (x : Int) : Bool := okR m l && decide (0 ≤ fndV l x)
def hfV (m : Int) (l : List Hd) (x : Int) : Hd := if hfK m l x = true then hx l (fndV l x).toNat else nHd
theorem hf_none {m : Int} {l : List Hd} {x : Int} (h : fndV l x = -1) : hfK m l x = false ∧ hfV m l x = nHd := by
  have e : hfK m l x = false := by unfold hfK; rw [h]; simp
  exact ⟨e, by unfold hfV; rw [if_neg (by rw [e]; decide)]⟩
theorem hf_bad {m : Int} {l : List Hd} {x : Int} (h : okR m l = false) : hfK m l x = false ∧ hfV m l x = nHd := by
  have e : hfK m l x = false := by unfold hfK; rw [h]; rfl
  exact ⟨e, by unfold hfV; rw [if_neg (by rw [e]; decide)]⟩
theorem hf_some {m : Int} {l : List Hd} {x : Int} {k : Nat} {q : Hd} (h0 : okR m l = true) (h : fndV l x = (k : Int)) (e : hx l k = q) : hfK m l x = true ∧ hfV m l x = q := by
  have e2 : hfK m l x = true := by unfold hfK; rw [h0, h]; simp
  exact ⟨e2, by unfold hfV; rw [if_pos e2, h, Int.toNat_natCast, e]⟩
/-! ### Positions -/
def frs (t m : Int) : Bool := decide (0 ≤ t) && decide (m - t ≤ 10)
def pnF (m : Int) (h : Hd) : Bool := frs h.2.2.1 m && frs h.2.2.2.2.1 m
def pnK (m : Int) (h : Hd) : Bool := pnF m h && dpK h.2.1.1 h.2.1.2.1 h.2.1.2.2 h.2.2.2.1.1 h.2.2.2.1.2.1 h.2.2.2.1.2.2
def pnX (m : Int) (h : Hd) : Int := if pnF m h = true then dpX h.2.1.1 h.2.1.2.1 h.2.1.2.2 h.2.2.2.1.1 h.2.2.2.1.2.1 h.2.2.2.1.2.2 else 0
def pnY (m : Int) (h : Hd) : Int := if pnF m h = true then dpY h.2.1.1 h.2.1.2.1 h.2.1.2.2 h.2.2.2.1.1 h.2.2.2.1.2.1 h.2.2.2.1.2.2 else 0
theorem pn_no {m : Int} {h : Hd} (e : pnF m h = false) : pnK m h = false ∧ pnX m h = 0 ∧ pnY m h = 0 := ⟨by unfold pnK; rw [e]; rfl, by unfold pnX; rw [if_neg (by rw [e]; decide)], by unfold pnY; rw [if_neg (by rw [e]; decide)]⟩
theorem pn_yes {m a : Int} {eo : Bool} {ea eb et : Int} {oo : Bool} {oa ob ot f : Int} (e : pnF m (a, (eo, ea, eb), et, (oo, oa, ob), ot, f) = true) :
    pnK m (a, (eo, ea, eb), et, (oo, oa, ob), ot, f) = dpK eo ea eb oo oa ob ∧ pnX m (a, (eo, ea, eb), et, (oo, oa, ob), ot, f) = dpX eo ea eb oo oa ob ∧ pnY m (a, (eo, ea, eb), et, (oo, oa, ob), ot, f) = dpY eo ea eb oo oa ob :=
  ⟨by unfold pnK; rw [e]; rfl, by unfold pnX; rw [if_pos e], by unfold pnY; rw [if_pos e]⟩
def ppK (m : Int) (l : List Hd) (x : Int) : Bool := hfK m l x && pnK m (hfV m l x)
def ppX (m : Int) (l : List Hd) (x : Int) : Int := if hfK m l x = true then pnX m (hfV m l x) else 0
def ppY (m : Int) (l : List Hd) (x : Int) : Int := if hfK m l x = true then pnY m (hfV m l x) else 0
theorem pp_no {m : Int} {l : List Hd} {x : Int} (e : hfK m l x = false) : ppK m l x = false ∧ ppX m l x = 0 ∧ ppY m l x = 0 := ⟨by unfold ppK; rw [e]; rfl, by unfold ppX; rw [if_neg (by rw [e]; decide)], by unfold ppY; rw [if_neg (by rw [e]; decide)]⟩
theorem pp_yes {m : Int} {l : List Hd} {x : Int} {q : Hd} (e : hfK m l x = true) (h : hfV m l x = q) : ppK m l x = pnK m q ∧ ppX m l x = pnX m q ∧ ppY m l x = pnY m q := ⟨by unfold ppK; rw [e, h]; rfl, by unfold ppX; rw [if_pos e, h], by unfold ppY; rw [if_pos e, h]⟩
end Go.Proofs.Ytbeojfhakmbacaa
