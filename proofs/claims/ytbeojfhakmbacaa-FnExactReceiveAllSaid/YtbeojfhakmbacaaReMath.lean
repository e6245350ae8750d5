/- What is heard: ten cells each; plain. -/
import Derived.Test.YtbeojfhakmbacaaSl
import Derived.Test.YtbeojfhakmbacaaPoMath
namespace Go.Proofs.Ytbeojfhakmbacaa
open Go.RowKit
abbrev Rp := Bool × Int × Int
abbrev Hd := Int × Rp × Int × Rp × Int × Int
def hdc (h : Hd) : List Value := [.int .i64 h.1, .bool h.2.1.1, .int .i64 h.2.1.2.1, .int .i64 h.2.1.2.2, .int .i64 h.2.2.1, .bool h.2.2.2.1.1, .int .i64 h.2.2.2.1.2.1, .int .i64 h.2.2.2.1.2.2, .int .i64 h.2.2.2.2.1, .int .i64 h.2.2.2.2.2]
def hdV (h : Hd) : Value := .agg #[.int .i64 h.1, .bool h.2.1.1, .int .i64 h.2.1.2.1, .int .i64 h.2.1.2.2, .int .i64 h.2.2.1, .bool h.2.2.2.1.1, .int .i64 h.2.2.2.1.2.1, .int .i64 h.2.2.2.1.2.2, .int .i64 h.2.2.2.2.1, .int .i64 h.2.2.2.2.2]
def hds (l : List Hd) : List Value := l.flatMap hdc
def nHd : Hd := (0, (false, 0, 0), 0, (false, 0, 0), 0, 0)
def hx (l : List Hd) (k : Nat) : Hd := l.getD k nHd
theorem hdc_len (h : Hd) : (hdc h).length = 10 := rfl
theorem hds_cons (p : Hd) (l : List Hd) : hds (p :: l) = hdc p ++ hds l := rfl
theorem hds_app (a b : List Hd) : hds (a ++ b) = hds a ++ hds b := by simp [hds]
theorem hds_snoc (l : List Hd) (p : Hd) : hds (l ++ [p]) = hds l ++ hdc p := by rw [hds_app]; simp [hds]
theorem hds_len : ∀ l : List Hd, (hds l).length = l.length * 10
  | [] => rfl
  | p :: l => by rw [hds_cons, List.length_append, hdc_len, hds_len l, List.length_cons]; omega
theorem hds_at : ∀ (l : List Hd) (k j : Nat), k < l.length → j < 10 → (hds l)[k * 10 + j]? = (hdc (hx l k))[j]?
  | p :: l, 0, j, _, hj => by rw [hds_cons, List.getElem?_append_left (by rw [hdc_len]; omega), Nat.zero_mul, Nat.zero_add]; rfl
  | p :: l, k + 1, j, h, hj => by
    have ih := hds_at l k j (by simpa using h) hj
    rw [hds_cons, List.getElem?_append_right (by rw [hdc_len]; omega), hdc_len, show (k + 1) * 10 + j - 10 = k * 10 + j from by omega, ih]
    rfl
theorem take_hd (l : List Hd) (k : Nat) (h : k < l.length) : l.take (k + 1) = l.take k ++ [hx l k] := by
  rw [List.take_succ_eq_append_getElem h]; unfold hx; rw [List.getD_eq_getElem?_getD, List.getElem?_eq_getElem h]; rfl
theorem hx_mem {l : List Hd} {k : Nat} (h : k < l.length) : hx l k ∈ l := by
  unfold hx; rw [List.getD_eq_getElem?_getD, List.getElem?_eq_getElem h]; exact List.getElem_mem h
theorem hd_at (a : Addr) (i j : Nat) (hj : 0 < j) : a.add (i + j) = ⟨(a.add i).block, (a.add i).off + j, none⟩ := by
  rw [← add_of_add]
  unfold Addr.add
  rw [if_neg (show ¬ j = 0 by omega)]
section
variable {w w' : World} {B n : Nat} {A : Option Addr}
theorem Reads.hd {l : List Hd} (h : Reads w B 10 A n (hds l)) {k : Nat} (hk : k < l.length) {a : Int} {eo : Bool} {ea eb et : Int} {oo : Bool} {oa ob ot f : Int} (e : hx l k = (a, (eo, ea, eb), et, (oo, oa, ob), ot, f)) :
    ∃ ad : Addr, A = some ad ∧ ad.block < B ∧ w.cell? (ad.add (k * 10)) = some (.int .i64 a) ∧
      w.cell? ⟨(ad.add (k * 10)).block, (ad.add (k * 10)).off + 1, none⟩ = some (.bool eo) ∧ w.cell? ⟨(ad.add (k * 10)).block, (ad.add (k * 10)).off + 2, none⟩ = some (.int .i64 ea) ∧
      w.cell? ⟨(ad.add (k * 10)).block, (ad.add (k * 10)).off + 3, none⟩ = some (.int .i64 eb) ∧ w.cell? ⟨(ad.add (k * 10)).block, (ad.add (k * 10)).off + 4, none⟩ = some (.int .i64 et) ∧
      w.cell? ⟨(ad.add (k * 10)).block, (ad.add (k * 10)).off + 5, none⟩ = some (.bool oo) ∧ w.cell? ⟨(ad.add (k * 10)).block, (ad.add (k * 10)).off + 6, none⟩ = some (.int .i64 oa) ∧
      w.cell? ⟨(ad.add (k * 10)).block, (ad.add (k * 10)).off + 7, none⟩ = some (.int .i64 ob) ∧ w.cell? ⟨(ad.add (k * 10)).block, (ad.add (k * 10)).off + 8, none⟩ = some (.int .i64 ot) ∧
      w.cell? ⟨(ad.add (k * 10)).block, (ad.add (k * 10)).off + 9, none⟩ = some (.int .i64 f) := by
  have hn : n = l.length := by have := h.1; rw [hds_len] at this; omega
  obtain ⟨ad, e0, hb, hc⟩ := h.2 (by omega)
  have H : ∀ j, 0 < j → j < 10 → ∀ v, (hdc (hx l k))[j]? = some v → w.cell? ⟨(ad.add (k * 10)).block, (ad.add (k * 10)).off + j, none⟩ = some v := fun j h0 hj v hv => by
    rw [← hd_at _ _ _ h0]; exact hc _ _ ((hds_at l k j hk hj).trans hv)
  have e1 : hdc (hx l k) = [.int .i64 a, .bool eo, .int .i64 ea, .int .i64 eb, .int .i64 et, .bool oo, .int .i64 oa, .int .i64 ob, .int .i64 ot, .int .i64 f] := by rw [e]; rfl
  rw [e1] at H
  refine ⟨ad, e0, hb, ?_, H 1 (by omega) (by omega) _ rfl, H 2 (by omega) (by omega) _ rfl, H 3 (by omega) (by omega) _ rfl, H 4 (by omega) (by omega) _ rfl, H 5 (by omega) (by omega) _ rfl, H 6 (by omega) (by omega) _ rfl, H 7 (by omega) (by omega) _ rfl, H 8 (by omega) (by omega) _ rfl, H 9 (by omega) (by omega) _ rfl⟩
  have h0 := hc (k * 10 + 0) (.int .i64 a) ((hds_at l k 0 hk (by omega)).trans (by rw [e1]; rfl))
  rwa [Nat.add_zero] at h0
end
theorem Reads.lenh {w : World} {B n : Nat} {A : Option Addr} {l : List Hd} (h : Reads w B 10 A n (hds l)) : n = l.length := by have := h.1; rw [hds_len] at this; omega
/-! ### Receivers that are right -/
def kpt (r : Rp) (t : Int) (o : Bool) (m : Int) : Bool := if t = -1 then decide (r = (false, 0, 0)) else wi t 0 m && (decide (r.1 = o) && vR r.1 r.2.1 r.2.2)
def okH (m : Int) (h : Hd) : Bool := wi h.1 1 65535 && wi h.2.2.2.2.2 1 9999 && (kpt h.2.1 h.2.2.1 false m && kpt h.2.2.2.1 h.2.2.2.2.1 true m)
def ascH (l : List Hd) (i : Nat) : Prop := 0 < i → (hx l (i - 1)).1 < (hx l i).1
def okN (m : Int) (l : List Hd) (i : Nat) : Prop := ∀ j, j < i → okH m (hx l j) = true ∧ ascH l j
instance (l : List Hd) (i : Nat) : Decidable (ascH l i) := inferInstanceAs (Decidable (_ → _))
def okR (m : Int) (l : List Hd) : Bool := wi m 0 9999 && (decide (l.length ≤ 6) && (List.range l.length).all fun j => okH m (hx l j) && decide (ascH l j))
end Go.Proofs.Ytbeojfhakmbacaa
