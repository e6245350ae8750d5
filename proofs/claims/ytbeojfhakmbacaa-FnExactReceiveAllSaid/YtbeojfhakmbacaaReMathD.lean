/- What is heard: marks; what is left when time passes; plain. -/
import Derived.Test.YtbeojfhakmbacaaReMathC
namespace Go.Proofs.Ytbeojfhakmbacaa
open Go.RowKit
def mkH (k : Int) : Hd := (k, ((k + 1) % 3 == 0, k + 1 + 1, k + 1 + 1 + 1), k + 1 + 1 + 1 + 1, ((k + 1 + 1 + 1 + 1 + 1) % 3 == 0, k + 1 + 1 + 1 + 1 + 1 + 1, k + 1 + 1 + 1 + 1 + 1 + 1 + 1), k + 1 + 1 + 1 + 1 + 1 + 1 + 1 + 1, k + 1 + 1 + 1 + 1 + 1 + 1 + 1 + 1 + 1)
def mkL (n : Nat) (k : Int) : List Hd := (List.range n).map fun i => mkH (k + ((i * 10 : Nat) : Int))
theorem mkL_len (n : Nat) (k : Int) : (mkL n k).length = n := by simp [mkL]
theorem mkL_succ (n : Nat) (k : Int) : mkL (n + 1) k = mkL n k ++ [mkH (k + ((n * 10 : Nat) : Int))] := by simp [mkL, List.range_succ]
theorem mkL_at {n i : Nat} (k : Int) (h : i < n) {q : Int} (e : k + ((i * 10 : Nat) : Int) = q) : hx (mkL n k) i = (q, ((q + 1) % 3 == 0, q + 1 + 1, q + 1 + 1 + 1), q + 1 + 1 + 1 + 1, ((q + 1 + 1 + 1 + 1 + 1) % 3 == 0, q + 1 + 1 + 1 + 1 + 1 + 1, q + 1 + 1 + 1 + 1 + 1 + 1 + 1), q + 1 + 1 + 1 + 1 + 1 + 1 + 1 + 1, q + 1 + 1 + 1 + 1 + 1 + 1 + 1 + 1 + 1) := by
  unfold hx; rw [List.getD_eq_getElem?_getD]; simp [mkL, h, ← e, mkH]
theorem mark_hd (l : List Hd) {i : Nat} {k q : Int} (h : i < l.length) (e : k + ((i * 10 : Nat) : Int) = q) :
    ((((((((((hds (mkL i k ++ l.drop i)).set (i * 10) (.int .i64 q)).set (i * 10 + 1) (.bool ((q + 1) % 3 == 0))).set (i * 10 + 2) (.int .i64 (q + 1 + 1))).set (i * 10 + 3) (.int .i64 (q + 1 + 1 + 1))).set (i * 10 + 4) (.int .i64 (q + 1 + 1 + 1 + 1))).set (i * 10 + 5) (.bool ((q + 1 + 1 + 1 + 1 + 1) % 3 == 0))).set (i * 10 + 6) (.int .i64 (q + 1 + 1 + 1 + 1 + 1 + 1))).set (i * 10 + 7) (.int .i64 (q + 1 + 1 + 1 + 1 + 1 + 1 + 1))).set (i * 10 + 8) (.int .i64 (q + 1 + 1 + 1 + 1 + 1 + 1 + 1 + 1))).set (i * 10 + 9) (.int .i64 (q + 1 + 1 + 1 + 1 + 1 + 1 + 1 + 1 + 1))
      = hds (mkL (i + 1) k ++ l.drop (i + 1)) := by
  have hl : (hds (mkL i k)).length = i * 10 := by rw [hds_len, mkL_len]
  have h0 := fun (B : List Value) (v : Value) => set_app (hds (mkL i k)) B (i * 10) 0 v hl
  simp only [Nat.add_zero] at h0
  rw [hds_app, h0, set_app _ _ _ _ _ hl, set_app _ _ _ _ _ hl, set_app _ _ _ _ _ hl, set_app _ _ _ _ _ hl, set_app _ _ _ _ _ hl, set_app _ _ _ _ _ hl, set_app _ _ _ _ _ hl, set_app _ _ _ _ _ hl, set_app _ _ _ _ _ hl]
  rw [mkL_succ, List.append_assoc, hds_app, List.drop_eq_getElem_cons h, e]
  rfl
/-! ### Time that passes -/
def psR (r : Rp) (a t : Int) : Rp := if frs a t = true then r else (false, 0, 0)
def psA (a t : Int) : Int := if frs a t = true then a else -1
def psH (t : Int) (h : Hd) : Hd := (h.1, psR h.2.1 h.2.2.1 t, psA h.2.2.1 t, psR h.2.2.2.1 h.2.2.2.2.1 t, psA h.2.2.2.2.1 t, h.2.2.2.2.2)
def psS (t : Int) (h : Hd) : List Hd := if frs h.2.2.1 t = true ∨ frs h.2.2.2.2.1 t = true then [psH t h] else []
def psL (t : Int) (l : List Hd) : List Hd := l.flatMap (psS t)
theorem psL_zero (t : Int) (l : List Hd) : psL t (l.take 0) = [] := rfl
theorem psL_succ {t : Int} {l : List Hd} {i : Nat} (h : i < l.length) : psL t (l.take (i + 1)) = psL t (l.take i) ++ psS t (hx l i) := by rw [take_hd l i h]; simp [psL]
theorem psS_len (t : Int) (h : Hd) : (psS t h).length ≤ 1 := by unfold psS; split <;> simp
theorem psL_len (t : Int) : ∀ l : List Hd, (psL t l).length ≤ l.length
  | [] => Nat.le_refl _
  | h :: l => by
    have h1 := psL_len t l
    have h2 := psS_len t h
    show (psS t h ++ psL t l).length ≤ _
    rw [List.length_append, List.length_cons]; omega
def ptK (m : Int) (l : List Hd) (t : Int) : Bool := okR m l && (wi t 0 9999 && decide (m ≤ t))
def ptM (m : Int) (l : List Hd) (t : Int) : Int := if ptK m l t = true then t else 0
def ptV (m : Int) (l : List Hd) (t : Int) : List Hd := if ptK m l t = true then psL t l else []
theorem ptV_len (m : Int) (l : List Hd) (t : Int) : (ptV m l t).length ≤ l.length := by
  unfold ptV; split
  · exact psL_len t l
  · simp
theorem pt_no {m : Int} {l : List Hd} {t : Int} (h : ptK m l t = false) : ptK m l t = false ∧ ptM m l t = 0 ∧ ptV m l t = [] := ⟨h, by unfold ptM; rw [if_neg (by rw [h]; decide)], by unfold ptV; rw [if_neg (by rw [h]; decide)]⟩
theorem pt_yes {m : Int} {l : List Hd} {t : Int} (h : ptK m l t = true) : ptK m l t = true ∧ ptM m l t = t ∧ ptV m l t = psL t l := ⟨h, by unfold ptM; rw [if_pos h], by unfold ptV; rw [if_pos h]⟩
theorem frs_yes {a t : Int} (h : frs a t = true) : 0 ≤ a ∧ t - a ≤ 10 := by simpa [frs] using h
theorem frs_no {a t : Int} (h : frs a t = false) : a < 0 ∨ a < t - 10 := by
  unfold frs at h
  simp only [Bool.and_eq_false_iff, decide_eq_false_iff_not] at h
  omega
/-- One part, if both are kept. -/
theorem ps_both {t a : Int} {q1 q2 : Rp} {et ot f : Int} {l : List Hd} {i : Nat} (e : hx l i = (a, q1, et, q2, ot, f)) (h1 : frs et t = true) (h2 : frs ot t = true) : psS t (hx l i) = [(a, q1, et, q2, ot, f)] := by
  rw [e]; unfold psS; rw [if_pos (.inl h1)]; unfold psH psR psA; simp [h1, h2]
theorem ps_even {t a : Int} {q1 q2 : Rp} {et ot f : Int} {l : List Hd} {i : Nat} (e : hx l i = (a, q1, et, q2, ot, f)) (h1 : frs et t = true) (h2 : frs ot t = false) : psS t (hx l i) = [(a, q1, et, (false, 0, 0), -1, f)] := by
  rw [e]; unfold psS; rw [if_pos (.inl h1)]; unfold psH psR psA; simp [h1, h2]
theorem ps_odd {t a : Int} {q1 q2 : Rp} {et ot f : Int} {l : List Hd} {i : Nat} (e : hx l i = (a, q1, et, q2, ot, f)) (h1 : frs et t = false) (h2 : frs ot t = true) : psS t (hx l i) = [(a, (false, 0, 0), -1, q2, ot, f)] := by
  rw [e]; unfold psS; rw [if_pos (.inr h2)]; unfold psH psR psA; simp [h1, h2]
theorem ps_none {t a : Int} {q1 q2 : Rp} {et ot f : Int} {l : List Hd} {i : Nat} (e : hx l i = (a, q1, et, q2, ot, f)) (h1 : frs et t = false) (h2 : frs ot t = false) : psS t (hx l i) = [] := by
  rw [e]; unfold psS; rw [if_neg]; rw [h1, h2]; simp
theorem kpt_none {r : Rp} {t : Int} {o : Bool} {m : Int} (h : kpt r t o m = true) (ht : t < 0) : t = -1 ∧ r = (false, 0, 0) := by
  unfold kpt at h
  split at h
  · rename_i e; exact ⟨e, by simpa using h⟩
  · simp only [Bool.and_eq_true] at h
    have := wi_iff.1 h.1
    omega
theorem okH_kpt {m : Int} {l : List Hd} {i : Nat} {a : Int} {q1 q2 : Rp} {et ot f : Int} (h : okR m l = true) (hi : i < l.length) (e : hx l i = (a, q1, et, q2, ot, f)) : kpt q1 et false m = true ∧ kpt q2 ot true m = true := by
  have h2 := ((okR_iff h).2.2 i hi).1
  rw [e] at h2
  unfold okH at h2
  simp only [Bool.and_eq_true] at h2
  exact h2.2
/-! ### Those with a position -/
def faS (m : Int) (h : Hd) : List Int := if pnK m h = true then [h.1] else []
def faL (m : Int) (l : List Hd) : List Int := l.flatMap (faS m)
theorem faL_succ {m : Int} {l : List Hd} {i : Nat} (h : i < l.length) : faL m (l.take (i + 1)) = faL m (l.take i) ++ faS m (hx l i) := by rw [take_hd l i h]; simp [faL]
theorem faL_len (m : Int) : ∀ l : List Hd, (faL m l).length ≤ l.length
  | [] => Nat.le_refl _
  | h :: l => by
    have h1 := faL_len m l
    have h2 : (faS m h).length ≤ 1 := by unfold faS; split <;> simp
    show (faS m h ++ faL m l).length ≤ _
    rw [List.length_append, List.length_cons]; omega
def faV (m : Int) (l : List Hd) : List Int := if okR m l = true then faL m l else []
theorem faV_len (m : Int) (l : List Hd) : (faV m l).length ≤ l.length := by
  unfold faV; split
  · exact faL_len m l
  · simp
end Go.Proofs.Ytbeojfhakmbacaa
