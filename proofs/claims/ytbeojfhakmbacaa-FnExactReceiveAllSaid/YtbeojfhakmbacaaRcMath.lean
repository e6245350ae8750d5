/- Receiving: plain. -/
import Derived.Test.YtbeojfhakmbacaaReMathD
import Derived.Test.YtbeojfhakmbacaaFrMath
namespace Go.Proofs.Ytbeojfhakmbacaa
open Go.RowKit
/-- What is new of an aircraft. -/
def nwH (A : Int) : Hd := (A, (false, 0, 0), -1, (false, 0, 0), -1, 0)
/-- How many lie below an address. -/
def rcI (A : Int) : List Hd → Nat
  | [] => 0
  | h :: l => if h.1 < A then rcI A l + 1 else 0
theorem hx_succ (h : Hd) (l : List Hd) (k : Nat) : hx (h :: l) (k + 1) = hx l k := rfl
theorem hx_zero (h : Hd) (l : List Hd) : hx (h :: l) 0 = h := rfl
theorem rcI_le (A : Int) : ∀ l, rcI A l ≤ l.length
  | [] => Nat.le_refl _
  | h :: l => by have := rcI_le A l; simp only [rcI, List.length_cons]; split <;> omega
theorem rcI_lt (A : Int) : ∀ (l : List Hd) (j : Nat), j < rcI A l → (hx l j).1 < A
  | [], j, h => by simp [rcI] at h
  | x :: l, j, h => by
    simp only [rcI] at h
    split at h
    · rename_i hx1
      cases j with
      | zero => exact hx1
      | succ j => rw [hx_succ]; exact rcI_lt A l j (by omega)
    · omega
theorem rcI_at (A : Int) : ∀ l : List Hd, rcI A l < l.length → ¬ (hx l (rcI A l)).1 < A
  | [], h => by simp [rcI] at h
  | x :: l, h => by
    by_cases hx1 : x.1 < A
    · have e : rcI A (x :: l) = rcI A l + 1 := by simp only [rcI]; rw [if_pos hx1]
      rw [e] at h ⊢
      rw [hx_succ]
      exact rcI_at A l (by simpa using h)
    · have e : rcI A (x :: l) = 0 := by simp only [rcI]; rw [if_neg hx1]
      rw [e, hx_zero]
      exact hx1
theorem rcI_eq {A : Int} {l : List Hd} {i : Nat} (hi : i ≤ l.length) (h1 : ∀ j, j < i → (hx l j).1 < A) (h2 : i < l.length → ¬ (hx l i).1 < A) : rcI A l = i := by
  rcases Nat.lt_trichotomy (rcI A l) i with h | h | h
  · exact absurd (h1 _ h) (rcI_at A l (by omega))
  · exact h
  · exact absurd (rcI_lt A l i h) (h2 (by have := rcI_le A l; omega))
theorem asc_lt {m : Int} {l : List Hd} (h : okR m l = true) : ∀ d i, i + d + 1 < l.length → (hx l i).1 < (hx l (i + d + 1)).1
  | 0, i, hi => by
    have := ((okR_iff h).2.2 (i + 1) hi).2 (by omega)
    simpa using this
  | d + 1, i, hi => by
    have a := asc_lt h d i (by omega)
    have b := ((okR_iff h).2.2 (i + d + 1 + 1) (by omega)).2 (by omega)
    have b2 : (hx l (i + d + 1)).1 < (hx l (i + d + 1 + 1)).1 := by simpa using b
    have e : i + (d + 1) + 1 = i + d + 1 + 1 := by omega
    rw [e]
    omega
theorem asc_at {m : Int} {l : List Hd} (h : okR m l = true) {i j : Nat} (hij : i < j) (hj : j < l.length) : (hx l i).1 < (hx l j).1 := by
  have := asc_lt h (j - i - 1) i (by omega)
  rwa [show i + (j - i - 1) + 1 = j from by omega] at this
def rcH (A : Int) (l : List Hd) : Prop := rcI A l < l.length ∧ (hx l (rcI A l)).1 = A
instance (A : Int) (l : List Hd) : Decidable (rcH A l) := inferInstanceAs (Decidable (_ ∧ _))
/-- Where an aircraft is, in a receiver that is right. -/
theorem fnd_yes {m : Int} {l : List Hd} {A : Int} (hk : rcH A l) : fndV l A = (rcI A l : Int) :=
  fnd_some hk.1 (fun j hj => by have := rcI_lt A l j hj; omega) hk.2
theorem no_of {m : Int} {l : List Hd} {A : Int} (h : okR m l = true) (hk : ¬ rcH A l) : ∀ j, j < l.length → (hx l j).1 ≠ A := by
  intro j hj e
  have hi : rcI A l = j := rcI_eq (by omega) (fun i hi => by have := asc_at h hi hj; omega) (fun _ => by omega)
  exact hk ⟨by omega, by rw [hi]; exact e⟩
theorem fnd_not {m : Int} {l : List Hd} {A : Int} (h : okR m l = true) (hk : ¬ rcH A l) : fndV l A = -1 := fnd_none (fun j hj => no_of h hk j hj)
/-- The list with the new one at a place. -/
def bubL (l : List Hd) (A : Int) (i : Nat) : List Hd := l.take i ++ nwH A :: l.drop i
theorem bub_len (l : List Hd) (A : Int) (i : Nat) : (bubL l A i).length = l.length + 1 := by simp [bubL]; omega
theorem bub_end (l : List Hd) (A : Int) : bubL l A l.length = l ++ [nwH A] := by simp [bubL]
theorem hx_app {a b : List Hd} {k : Nat} (h : a.length ≤ k) : hx (a ++ b) k = hx b (k - a.length) := by
  unfold hx; rw [List.getD_eq_getElem?_getD, List.getD_eq_getElem?_getD, List.getElem?_append_right h]
theorem hx_appl {a b : List Hd} {k : Nat} (h : k < a.length) : hx (a ++ b) k = hx a k := by
  unfold hx; rw [List.getD_eq_getElem?_getD, List.getD_eq_getElem?_getD, List.getElem?_append_left h]
theorem hx_take {l : List Hd} {i k : Nat} (h : k < i) : hx (l.take i) k = hx l k := by
  unfold hx; rw [List.getD_eq_getElem?_getD, List.getD_eq_getElem?_getD, List.getElem?_take, if_pos h]
theorem bub_at {l : List Hd} {A : Int} {i : Nat} (h : i ≤ l.length) : hx (bubL l A i) i = nwH A := by
  unfold bubL
  rw [hx_app (by rw [List.length_take]; omega), List.length_take, show i - min i l.length = 0 from by omega]
  rfl
theorem bub_low {l : List Hd} {A : Int} {i k : Nat} (h : i ≤ l.length) (hk : k < i) : hx (bubL l A i) k = hx l k := by
  unfold bubL
  rw [hx_appl (by rw [List.length_take]; omega), hx_take hk]
theorem drop_hx {l : List Hd} {i : Nat} (h : i < l.length) : l.drop i = hx l i :: l.drop (i + 1) := by
  rw [List.drop_eq_getElem_cons h]; unfold hx; rw [List.getD_eq_getElem?_getD, List.getElem?_eq_getElem h]; rfl
theorem set_at (a : List Hd) (x y : Hd) (b : List Hd) {i : Nat} (h : i = a.length) : (a ++ x :: b).set i y = a ++ y :: b := by subst h; simp
/-- Two neighbours changed. -/
theorem bub_swap {l : List Hd} {A : Int} {j : Nat} (h : j < l.length) : ((bubL l A (j + 1)).set j (nwH A)).set (j + 1) (hx l j) = bubL l A j := by
  have e : bubL l A (j + 1) = l.take j ++ hx l j :: (nwH A :: l.drop (j + 1)) := by unfold bubL; rw [take_hd l j h]; simp
  have hl : j = (l.take j).length := by rw [List.length_take]; omega
  rw [e, set_at _ _ _ _ hl]
  have e2 : l.take j ++ nwH A :: (nwH A :: l.drop (j + 1)) = (l.take j ++ [nwH A]) ++ nwH A :: l.drop (j + 1) := by simp
  rw [e2, set_at _ _ _ _ (by rw [List.length_append, ← hl]; rfl)]
  unfold bubL
  rw [drop_hx h]
  simp
/-- Where the new one comes to rest. -/
theorem bub_stop {m : Int} {l : List Hd} {A : Int} {i : Nat} (h : okR m l = true) (hk : ¬ rcH A l) (hi : i ≤ l.length) (h1 : ∀ j, i ≤ j → j < l.length → A < (hx l j).1) (h2 : 0 < i → ¬ A < (hx l (i - 1)).1) : rcI A l = i := by
  refine rcI_eq hi (fun j hj => ?_) (fun hl => by have := h1 i (Nat.le_refl _) hl; omega)
  have hn := no_of h hk
  have h3 : (hx l (i - 1)).1 < A := by have a := h2 (by omega); have b := hn (i - 1) (by omega); omega
  by_cases e : j = i - 1
  · rw [e]; exact h3
  · have := asc_at h (show j < i - 1 by omega) (by omega)
    omega
def rcB (A : Int) (l : List Hd) : List Hd := if rcH A l then l else bubL l A (rcI A l)
def upH (t K D : Int) (h : Hd) : Hd :=
  if upK D = true ∧ K = 2 then (if upO D = true then (h.1, h.2.1, h.2.2.1, (upO D, upA D, upB D), t, h.2.2.2.2.2 + 1) else (h.1, (upO D, upA D, upB D), t, h.2.2.2.1, h.2.2.2.2.1, h.2.2.2.2.2 + 1))
  else (h.1, h.2.1, h.2.2.1, h.2.2.2.1, h.2.2.2.2.1, h.2.2.2.2.2 + 1)
theorem rcB_at (A : Int) (l : List Hd) : rcI A l < (rcB A l).length := by
  unfold rcB
  split
  · rename_i h; exact h.1
  · rw [bub_len]; have := rcI_le A l; omega
theorem rcB_len (A : Int) (l : List Hd) : (rcB A l).length ≤ l.length + 1 := by
  unfold rcB; split
  · omega
  · rw [bub_len]; omega
def rcL (t A K D : Int) (l : List Hd) : List Hd := (rcB A l).set (rcI A l) (upH t K D (hx (rcB A l) (rcI A l)))
theorem rcL_len (t A K D : Int) (l : List Hd) : (rcL t A K D l).length ≤ l.length + 1 := by unfold rcL; rw [List.length_set]; exact rcB_len A l
/-- What a frame makes of a receiver that is right. -/
def rvK (m : Int) (l : List Hd) (s : ByteArray) (t : Int) : Bool := rfK s && (decide (m ≤ t) && okR t (rcL t (rfAd s) (rfKd s) (rfDt s) l))
def rvM (m : Int) (l : List Hd) (s : ByteArray) (t : Int) : Int := if rvK m l s t = true then t else 0
def rvV (m : Int) (l : List Hd) (s : ByteArray) (t : Int) : List Hd := if rvK m l s t = true then rcL t (rfAd s) (rfKd s) (rfDt s) l else []
theorem rvV_len (m : Int) (l : List Hd) (s : ByteArray) (t : Int) : (rvV m l s t).length ≤ l.length + 1 := by
  unfold rvV; split
  · exact rcL_len _ _ _ _ _
  · simp
theorem rv_no {m : Int} {l : List Hd} {s : ByteArray} {t : Int} (h : rvK m l s t = false) : rvK m l s t = false ∧ rvM m l s t = 0 ∧ rvV m l s t = [] := ⟨h, by unfold rvM; rw [h]; rfl, by unfold rvV; rw [h]; rfl⟩
theorem rv_yes {m : Int} {l : List Hd} {s : ByteArray} {t : Int} (h : rvK m l s t = true) : rvK m l s t = true ∧ rvM m l s t = t ∧ rvV m l s t = rcL t (rfAd s) (rfKd s) (rfDt s) l := ⟨h, by unfold rvM; rw [if_pos h], by unfold rvV; rw [if_pos h]⟩
theorem rv_ok {m : Int} {l : List Hd} {s : ByteArray} {t : Int} (h : rvK m l s t = true) : okR (rvM m l s t) (rvV m l s t) = true := by
  obtain ⟨_, e1, e2⟩ := rv_yes h
  rw [e1, e2]
  unfold rvK at h
  simp only [Bool.and_eq_true] at h
  exact h.2.2
/-! ### Ten cells of a row set -/
theorem hds_parts {L : List Hd} {i : Nat} (hi : i < L.length) : hds L = hds (L.take i) ++ (hdc (hx L i) ++ hds (L.drop (i + 1))) ∧ (hds (L.take i)).length = i * 10 ∧ ∀ h, hds (L.set i h) = hds (L.take i) ++ (hdc h ++ hds (L.drop (i + 1))) := by
  have hl : i = (L.take i).length := by rw [List.length_take]; omega
  have e : L = L.take i ++ hx L i :: L.drop (i + 1) := by rw [← drop_hx hi, List.take_append_drop]
  refine ⟨?_, by rw [hds_len, ← hl], fun h => ?_⟩
  · conv => lhs; rw [e]
    rw [hds_app, hds_cons]
  · conv => lhs; rw [e]
    rw [set_at _ _ _ _ hl, hds_app, hds_cons]
theorem set_ten {L : List Hd} {i : Nat} (hi : i < L.length) (a : Int) (eo : Bool) (ea eb et : Int) (oo : Bool) (oa ob ot f : Int) :
    ((((((((((hds L).set (i * 10) (.int .i64 a)).set (i * 10 + 1) (.bool eo)).set (i * 10 + 2) (.int .i64 ea)).set (i * 10 + 3) (.int .i64 eb)).set (i * 10 + 4) (.int .i64 et)).set (i * 10 + 5) (.bool oo)).set (i * 10 + 6) (.int .i64 oa)).set (i * 10 + 7) (.int .i64 ob)).set (i * 10 + 8) (.int .i64 ot)).set (i * 10 + 9) (.int .i64 f)
      = hds (L.set i (a, (eo, ea, eb), et, (oo, oa, ob), ot, f)) := by
  obtain ⟨e, hl, es⟩ := hds_parts hi
  have h0 := fun (B : List Value) (v : Value) => set_app (hds (L.take i)) B (i * 10) 0 v hl
  simp only [Nat.add_zero] at h0
  rw [e, h0, set_app _ _ _ _ _ hl, set_app _ _ _ _ _ hl, set_app _ _ _ _ _ hl, set_app _ _ _ _ _ hl, set_app _ _ _ _ _ hl, set_app _ _ _ _ _ hl, set_app _ _ _ _ _ hl, set_app _ _ _ _ _ hl, set_app _ _ _ _ _ hl, es]
  rfl
theorem set_f {L : List Hd} {i : Nat} (hi : i < L.length) {a : Int} {eo : Bool} {ea eb et : Int} {oo : Bool} {oa ob ot f : Int} (e9 : hx L i = (a, (eo, ea, eb), et, (oo, oa, ob), ot, f)) (f2 : Int) :
    (hds L).set (i * 10 + 9) (.int .i64 f2) = hds (L.set i (a, (eo, ea, eb), et, (oo, oa, ob), ot, f2)) := by
  obtain ⟨e, hl, es⟩ := hds_parts hi
  rw [e, set_app _ _ _ _ _ hl, es, e9]
  rfl
theorem set_odd {L : List Hd} {i : Nat} (hi : i < L.length) {a : Int} {eo : Bool} {ea eb et : Int} {oo : Bool} {oa ob ot f : Int} (e9 : hx L i = (a, (eo, ea, eb), et, (oo, oa, ob), ot, f)) (o2 : Bool) (a2 b2 t2 : Int) :
    ((((hds L).set (i * 10 + 5) (.bool o2)).set (i * 10 + 6) (.int .i64 a2)).set (i * 10 + 7) (.int .i64 b2)).set (i * 10 + 8) (.int .i64 t2) = hds (L.set i (a, (eo, ea, eb), et, (o2, a2, b2), t2, f)) := by
  obtain ⟨e, hl, es⟩ := hds_parts hi
  rw [e, set_app _ _ _ _ _ hl, set_app _ _ _ _ _ hl, set_app _ _ _ _ _ hl, set_app _ _ _ _ _ hl, es, e9]
  rfl
theorem set_even {L : List Hd} {i : Nat} (hi : i < L.length) {a : Int} {eo : Bool} {ea eb et : Int} {oo : Bool} {oa ob ot f : Int} (e9 : hx L i = (a, (eo, ea, eb), et, (oo, oa, ob), ot, f)) (o2 : Bool) (a2 b2 t2 : Int) :
    ((((hds L).set (i * 10 + 1) (.bool o2)).set (i * 10 + 2) (.int .i64 a2)).set (i * 10 + 3) (.int .i64 b2)).set (i * 10 + 4) (.int .i64 t2) = hds (L.set i (a, (o2, a2, b2), t2, (oo, oa, ob), ot, f)) := by
  obtain ⟨e, hl, es⟩ := hds_parts hi
  rw [e, set_app _ _ _ _ _ hl, set_app _ _ _ _ _ hl, set_app _ _ _ _ _ hl, set_app _ _ _ _ _ hl, es, e9]
  rfl
end Go.Proofs.Ytbeojfhakmbacaa
