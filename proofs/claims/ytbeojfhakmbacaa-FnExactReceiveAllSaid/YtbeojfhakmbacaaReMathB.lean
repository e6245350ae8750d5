/- What is heard: rows filled, boxes set, receivers that are right; plain. -/
import Derived.Test.YtbeojfhakmbacaaReMath
namespace Go.Proofs.Ytbeojfhakmbacaa
open Go.RowKit
theorem set_app (A B : List Value) (n j : Nat) (v : Value) (h : A.length = n) : (A ++ B).set (n + j) v = A ++ B.set j v := by
  rw [List.set_append_right _ _ (by omega), h, show n + j - n = j from by omega]
def hdZ (r : Nat) : List Value := hds (List.replicate r nHd)
theorem hdZ_succ (r : Nat) : hdZ (r + 1) = hdc nHd ++ hdZ r := rfl
theorem hdZ_zero : hdZ 0 = [] := rfl
theorem hdZ_len (r : Nat) : (hdZ r).length = r * 10 := by unfold hdZ; rw [hds_len, List.length_replicate]
theorem hdZ_at (n k j : Nat) (hk : k < n) (hj : j < 10) : (hdZ n)[k * 10 + j]? = (hdc nHd)[j]? := by
  unfold hdZ; rw [hds_at _ _ _ (by rw [List.length_replicate]; exact hk) hj]
  have : hx (List.replicate n nHd) k = nHd := by unfold hx; rw [List.getD_eq_getElem?_getD, List.getElem?_replicate, if_pos hk]; rfl
  rw [this]
theorem fill_hd (l : List Hd) {i r : Nat} (h : i + (r + 1) = l.length) {a : Int} {eo : Bool} {ea eb et : Int} {oo : Bool} {oa ob ot f : Int} (e : hx l i = (a, (eo, ea, eb), et, (oo, oa, ob), ot, f)) :
    ((((((((((hds (l.take i) ++ hdZ (r + 1)).set (i * 10) (.int .i64 a)).set (i * 10 + 1) (.bool eo)).set (i * 10 + 2) (.int .i64 ea)).set (i * 10 + 3) (.int .i64 eb)).set (i * 10 + 4) (.int .i64 et)).set (i * 10 + 5) (.bool oo)).set (i * 10 + 6) (.int .i64 oa)).set (i * 10 + 7) (.int .i64 ob)).set (i * 10 + 8) (.int .i64 ot)).set (i * 10 + 9) (.int .i64 f)
      = hds (l.take (i + 1)) ++ hdZ r := by
  have hl : (hds (l.take i)).length = i * 10 := by rw [hds_len, List.length_take]; omega
  have h0 := fun (B : List Value) (v : Value) => set_app (hds (l.take i)) B (i * 10) 0 v hl
  simp only [Nat.add_zero] at h0
  rw [h0, set_app _ _ _ _ _ hl, set_app _ _ _ _ _ hl, set_app _ _ _ _ _ hl, set_app _ _ _ _ _ hl, set_app _ _ _ _ _ hl, set_app _ _ _ _ _ hl, set_app _ _ _ _ _ hl, set_app _ _ _ _ _ hl, set_app _ _ _ _ _ hl]
  rw [take_hd l i (by omega), hds_snoc, e, hdZ_succ, List.append_assoc]
  rfl
theorem made_hd (n : Nat) : (madeCells (hdV nHd).cells (n * 10)).toList = hdZ n := by
  apply List.ext_getElem?
  intro j
  by_cases hj : j < n * 10
  · have h1 := hdZ_at n (j / 10) (j % 10) (by omega) (by omega)
    rw [show j / 10 * 10 + j % 10 = j from by omega] at h1
    rw [h1]
    have h2 : j % 10 = 0 ∨ j % 10 = 1 ∨ j % 10 = 2 ∨ j % 10 = 3 ∨ j % 10 = 4 ∨ j % 10 = 5 ∨ j % 10 = 6 ∨ j % 10 = 7 ∨ j % 10 = 8 ∨ j % 10 = 9 := by omega
    rcases h2 with h2 | h2 | h2 | h2 | h2 | h2 | h2 | h2 | h2 | h2 <;> simp [madeCells, hj, Value.cells, hdV, hdc, nHd, h2]
  · have h2 : (hdZ n).length = n * 10 := hdZ_len n
    rw [List.getElem?_eq_none (by simp [madeCells]; omega), List.getElem?_eq_none (by omega)]
/-- Ten cells set. -/
theorem box10 {w : World} {g : Nat} {x0 : Value} {x1 : Value} {x2 : Value} {x3 : Value} {x4 : Value} {x5 : Value} {x6 : Value} {x7 : Value} {x8 : Value} {x9 : Value}
    (h0 : w.cell? ⟨g, 0, none⟩ = some x0) (h1 : w.cell? ⟨g, 1, none⟩ = some x1) (h2 : w.cell? ⟨g, 2, none⟩ = some x2) (h3 : w.cell? ⟨g, 3, none⟩ = some x3) (h4 : w.cell? ⟨g, 4, none⟩ = some x4) (h5 : w.cell? ⟨g, 5, none⟩ = some x5) (h6 : w.cell? ⟨g, 6, none⟩ = some x6) (h7 : w.cell? ⟨g, 7, none⟩ = some x7) (h8 : w.cell? ⟨g, 8, none⟩ = some x8) (h9 : w.cell? ⟨g, 9, none⟩ = some x9) (u0 u1 u2 u3 u4 u5 u6 u7 u8 u9 : Value) :
    ((((((((((w.setCell ⟨g, 0, none⟩ u0).setCell ⟨g, 1, none⟩ u1).setCell ⟨g, 2, none⟩ u2).setCell ⟨g, 3, none⟩ u3).setCell ⟨g, 4, none⟩ u4).setCell ⟨g, 5, none⟩ u5).setCell ⟨g, 6, none⟩ u6).setCell ⟨g, 7, none⟩ u7).setCell ⟨g, 8, none⟩ u8).setCell ⟨g, 9, none⟩ u9).cell? ⟨g, 0, none⟩ = some u0 ∧ ((((((((((w.setCell ⟨g, 0, none⟩ u0).setCell ⟨g, 1, none⟩ u1).setCell ⟨g, 2, none⟩ u2).setCell ⟨g, 3, none⟩ u3).setCell ⟨g, 4, none⟩ u4).setCell ⟨g, 5, none⟩ u5).setCell ⟨g, 6, none⟩ u6).setCell ⟨g, 7, none⟩ u7).setCell ⟨g, 8, none⟩ u8).setCell ⟨g, 9, none⟩ u9).cell? ⟨g, 1, none⟩ = some u1 ∧ ((((((((((w.setCell ⟨g, 0, none⟩ u0).setCell ⟨g, 1, none⟩ u1).setCell ⟨g, 2, none⟩ u2).setCell ⟨g, 3, none⟩ u3).setCell ⟨g, 4, none⟩ u4).setCell ⟨g, 5, none⟩ u5).setCell ⟨g, 6, none⟩ u6).setCell ⟨g, 7, none⟩ u7).setCell ⟨g, 8, none⟩ u8).setCell ⟨g, 9, none⟩ u9).cell? ⟨g, 2, none⟩ = some u2 ∧ ((((((((((w.setCell ⟨g, 0, none⟩ u0).setCell ⟨g, 1, none⟩ u1).setCell ⟨g, 2, none⟩ u2).setCell ⟨g, 3, none⟩ u3).setCell ⟨g, 4, none⟩ u4).setCell ⟨g, 5, none⟩ u5).setCell ⟨g, 6, none⟩ u6).setCell ⟨g, 7, none⟩ u7).setCell ⟨g, 8, none⟩ u8).setCell ⟨g, 9, none⟩ u9).cell? ⟨g, 3, none⟩ = some u3 ∧ ((((((((((w.setCell ⟨g, 0, none⟩ u0).setCell ⟨g, 1, none⟩ u1).setCell ⟨g, 2, none⟩ u2).setCell ⟨g, 3, none⟩ u3).setCell ⟨g, 4, none⟩ u4).setCell ⟨g, 5, none⟩ u5).setCell ⟨g, 6, none⟩ u6).setCell ⟨g, 7, none⟩ u7).setCell ⟨g, 8, none⟩ u8).setCell ⟨g, 9, none⟩ u9).cell? ⟨g, 4, none⟩ = some u4 ∧ ((((((((((w.setCell ⟨g, 0, none⟩ u0).setCell ⟨g, 1, none⟩ u1).setCell ⟨g, 2, none⟩ u2).setCell ⟨g, 3, none⟩ u3).setCell ⟨g, 4, none⟩ u4).setCell ⟨g, 5, none⟩ u5).setCell ⟨g, 6, none⟩ u6).setCell ⟨g, 7, none⟩ u7).setCell ⟨g, 8, none⟩ u8).setCell ⟨g, 9, none⟩ u9).cell? ⟨g, 5, none⟩ = some u5 ∧ ((((((((((w.setCell ⟨g, 0, none⟩ u0).setCell ⟨g, 1, none⟩ u1).setCell ⟨g, 2, none⟩ u2).setCell ⟨g, 3, none⟩ u3).setCell ⟨g, 4, none⟩ u4).setCell ⟨g, 5, none⟩ u5).setCell ⟨g, 6, none⟩ u6).setCell ⟨g, 7, none⟩ u7).setCell ⟨g, 8, none⟩ u8).setCell ⟨g, 9, none⟩ u9).cell? ⟨g, 6, none⟩ = some u6 ∧ ((((((((((w.setCell ⟨g, 0, none⟩ u0).setCell ⟨g, 1, none⟩ u1).setCell ⟨g, 2, none⟩ u2).setCell ⟨g, 3, none⟩ u3).setCell ⟨g, 4, none⟩ u4).setCell ⟨g, 5, none⟩ u5).setCell ⟨g, 6, none⟩ u6).setCell ⟨g, 7, none⟩ u7).setCell ⟨g, 8, none⟩ u8).setCell ⟨g, 9, none⟩ u9).cell? ⟨g, 7, none⟩ = some u7 ∧ ((((((((((w.setCell ⟨g, 0, none⟩ u0).setCell ⟨g, 1, none⟩ u1).setCell ⟨g, 2, none⟩ u2).setCell ⟨g, 3, none⟩ u3).setCell ⟨g, 4, none⟩ u4).setCell ⟨g, 5, none⟩ u5).setCell ⟨g, 6, none⟩ u6).setCell ⟨g, 7, none⟩ u7).setCell ⟨g, 8, none⟩ u8).setCell ⟨g, 9, none⟩ u9).cell? ⟨g, 8, none⟩ = some u8 ∧ ((((((((((w.setCell ⟨g, 0, none⟩ u0).setCell ⟨g, 1, none⟩ u1).setCell ⟨g, 2, none⟩ u2).setCell ⟨g, 3, none⟩ u3).setCell ⟨g, 4, none⟩ u4).setCell ⟨g, 5, none⟩ u5).setCell ⟨g, 6, none⟩ u6).setCell ⟨g, 7, none⟩ u7).setCell ⟨g, 8, none⟩ u8).setCell ⟨g, 9, none⟩ u9).cell? ⟨g, 9, none⟩ = some u9 := by
  refine ⟨?_, ?_, ?_, ?_, ?_, ?_, ?_, ?_, ?_, ?_⟩
  · rw [World.cell?_setCell_other _ _ _ _ (by simp)]; rw [World.cell?_setCell_other _ _ _ _ (by simp)]; rw [World.cell?_setCell_other _ _ _ _ (by simp)]; rw [World.cell?_setCell_other _ _ _ _ (by simp)]; rw [World.cell?_setCell_other _ _ _ _ (by simp)]; rw [World.cell?_setCell_other _ _ _ _ (by simp)]; rw [World.cell?_setCell_other _ _ _ _ (by simp)]; rw [World.cell?_setCell_other _ _ _ _ (by simp)]; rw [World.cell?_setCell_other _ _ _ _ (by simp)]; exact World.cell?_setCell_same _ _ _ (by exact h0)
  · rw [World.cell?_setCell_other _ _ _ _ (by simp)]; rw [World.cell?_setCell_other _ _ _ _ (by simp)]; rw [World.cell?_setCell_other _ _ _ _ (by simp)]; rw [World.cell?_setCell_other _ _ _ _ (by simp)]; rw [World.cell?_setCell_other _ _ _ _ (by simp)]; rw [World.cell?_setCell_other _ _ _ _ (by simp)]; rw [World.cell?_setCell_other _ _ _ _ (by simp)]; rw [World.cell?_setCell_other _ _ _ _ (by simp)]; exact World.cell?_setCell_same _ _ _ (by rw [World.cell?_setCell_other _ _ _ _ (by simp)]; exact h1)
  · rw [World.cell?_setCell_other _ _ _ _ (by simp)]; rw [World.cell?_setCell_other _ _ _ _ (by simp)]; rw [World.cell?_setCell_other _ _ _ _ (by simp)]; rw [World.cell?_setCell_other _ _ _ _ (by simp)]; rw [World.cell?_setCell_other _ _ _ _ (by simp)]; rw [World.cell?_setCell_other _ _ _ _ (by simp)]; rw [World.cell?_setCell_other _ _ _ _ (by simp)]; exact World.cell?_setCell_same _ _ _ (by rw [World.cell?_setCell_other _ _ _ _ (by simp)]; rw [World.cell?_setCell_other _ _ _ _ (by simp)]; exact h2)
  · rw [World.cell?_setCell_other _ _ _ _ (by simp)]; rw [World.cell?_setCell_other _ _ _ _ (by simp)]; rw [World.cell?_setCell_other _ _ _ _ (by simp)]; rw [World.cell?_setCell_other _ _ _ _ (by simp)]; rw [World.cell?_setCell_other _ _ _ _ (by simp)]; rw [World.cell?_setCell_other _ _ _ _ (by simp)]; exact World.cell?_setCell_same _ _ _ (by rw [World.cell?_setCell_other _ _ _ _ (by simp)]; rw [World.cell?_setCell_other _ _ _ _ (by simp)]; rw [World.cell?_setCell_other _ _ _ _ (by simp)]; exact h3)
  · rw [World.cell?_setCell_other _ _ _ _ (by simp)]; rw [World.cell?_setCell_other _ _ _ _ (by simp)]; rw [World.cell?_setCell_other _ _ _ _ (by simp)]; rw [World.cell?_setCell_other _ _ _ _ (by simp)]; rw [World.cell?_setCell_other _ _ _ _ (by simp)]; exact World.cell?_setCell_same _ _ _ (by rw [World.cell?_setCell_other _ _ _ _ (by simp)]; rw [World.cell?_setCell_other _ _ _ _ (by simp)]; rw [World.cell?_setCell_other _ _ _ _ (by simp)]; rw [World.cell?_setCell_other _ _ _ _ (by simp)]; exact h4)
  · rw [World.cell?_setCell_other _ _ _ _ (by simp)]; rw [World.cell?_setCell_other _ _ _ _ (by simp)]; rw [World.cell?_setCell_other _ _ _ _ (by simp)]; rw [World.cell?_setCell_other _ _ _ _ (by simp)]; exact World.cell?_setCell_same _ _ _ (by rw [World.cell?_setCell_other _ _ _ _ (by simp)]; rw [World.cell?_setCell_other _ _ _ _ (by simp)]; rw [World.cell?_setCell_other _ _ _ _ (by simp)]; rw [World.cell?_setCell_other _ _ _ _ (by simp)]; rw [World.cell?_setCell_other _ _ _ _ (by simp)]; exact h5)
  · rw [World.cell?_setCell_other _ _ _ _ (by simp)]; rw [World.cell?_setCell_other _ _ _ _ (by simp)]; rw [World.cell?_setCell_other _ _ _ _ (by simp)]; exact World.cell?_setCell_same _ _ _ (by rw [World.cell?_setCell_other _ _ _ _ (by simp)]; rw [World.cell?_setCell_other _ _ _ _ (by simp)]; rw [World.cell?_setCell_other _ _ _ _ (by simp)]; rw [World.cell?_setCell_other _ _ _ _ (by simp)]; rw [World.cell?_setCell_other _ _ _ _ (by simp)]; rw [World.cell?_setCell_other _ _ _ _ (by simp)]; exact h6)
  · rw [World.cell?_setCell_other _ _ _ _ (by simp)]; rw [World.cell?_setCell_other _ _ _ _ (by simp)]; exact World.cell?_setCell_same _ _ _ (by rw [World.cell?_setCell_other _ _ _ _ (by simp)]; rw [World.cell?_setCell_other _ _ _ _ (by simp)]; rw [World.cell?_setCell_other _ _ _ _ (by simp)]; rw [World.cell?_setCell_other _ _ _ _ (by simp)]; rw [World.cell?_setCell_other _ _ _ _ (by simp)]; rw [World.cell?_setCell_other _ _ _ _ (by simp)]; rw [World.cell?_setCell_other _ _ _ _ (by simp)]; exact h7)
  · rw [World.cell?_setCell_other _ _ _ _ (by simp)]; exact World.cell?_setCell_same _ _ _ (by rw [World.cell?_setCell_other _ _ _ _ (by simp)]; rw [World.cell?_setCell_other _ _ _ _ (by simp)]; rw [World.cell?_setCell_other _ _ _ _ (by simp)]; rw [World.cell?_setCell_other _ _ _ _ (by simp)]; rw [World.cell?_setCell_other _ _ _ _ (by simp)]; rw [World.cell?_setCell_other _ _ _ _ (by simp)]; rw [World.cell?_setCell_other _ _ _ _ (by simp)]; rw [World.cell?_setCell_other _ _ _ _ (by simp)]; exact h8)
  · exact World.cell?_setCell_same _ _ _ (by rw [World.cell?_setCell_other _ _ _ _ (by simp)]; rw [World.cell?_setCell_other _ _ _ _ (by simp)]; rw [World.cell?_setCell_other _ _ _ _ (by simp)]; rw [World.cell?_setCell_other _ _ _ _ (by simp)]; rw [World.cell?_setCell_other _ _ _ _ (by simp)]; rw [World.cell?_setCell_other _ _ _ _ (by simp)]; rw [World.cell?_setCell_other _ _ _ _ (by simp)]; rw [World.cell?_setCell_other _ _ _ _ (by simp)]; rw [World.cell?_setCell_other _ _ _ _ (by simp)]; exact h9)
theorem cell_set_some {w : World} {p : Addr} {v : Value} (h : (w.cell? p).isSome = true) : (w.setCell p v).cell? p = some v := by
  obtain ⟨u, hu⟩ := Option.isSome_iff_exists.1 h
  exact World.cell?_setCell_same _ _ _ hu
theorem Reads.hd1 {w : World} {B n : Nat} {A : Option Addr} {l : List Hd} (h : Reads w B 10 A n (hds l)) {k : Nat} (hk : k < l.length) {a : Int} (e : (hx l k).1 = a) : ∃ ad : Addr, A = some ad ∧ ad.block < B ∧ w.cell? (ad.add (k * 10)) = some (.int .i64 a) := by
  obtain ⟨⟨a', ⟨eo, ea, eb⟩, et, ⟨oo, oa, ob⟩, ot, f⟩, he⟩ : ∃ q, hx l k = q := ⟨_, rfl⟩
  obtain ⟨ad, h0, hb, hc, _⟩ := h.hd hk he
  rw [he] at e
  have e2 : a' = a := e
  exact ⟨ad, h0, hb, by rw [← e2]; exact hc⟩
theorem ten_at {w : World} {b g n c : Nat} {e : TypeId} {xs : List Value} (h : w.ownsRow b e 10 (.slice (some ⟨g, 0, none⟩) n c) n xs) {i : Nat} (hi : i < n) : ∀ j, j < 10 → ∃ u, w.cell? ⟨g, i * 10 + j, none⟩ = some u := by
  intro j hj
  have hl := h.1
  exact ⟨_, (h.cellAt (i * 10 + j) (by omega)).trans (List.getElem?_eq_getElem (by omega))⟩
/-! ### Receivers that are right -/
theorem okN_zero {m : Int} {l : List Hd} : okN m l 0 := fun _ h => absurd h (by omega)
theorem okN_succ {m : Int} {l : List Hd} {i : Nat} (h : okN m l i) (h1 : okH m (hx l i) = true) (h2 : ascH l i) : okN m l (i + 1) := by
  intro j hj
  by_cases e : j = i
  · subst e; exact ⟨h1, h2⟩
  · exact h j (by omega)
theorem okR_min {m : Int} {l : List Hd} (h : wi m 0 9999 = false) : okR m l = false := by unfold okR; rw [h]; rfl
theorem okR_six {m : Int} {l : List Hd} (h : 6 < l.length) : okR m l = false := by unfold okR; rw [decide_eq_false (by omega)]; simp
theorem okR_bad {m : Int} {l : List Hd} {i : Nat} (hi : i < l.length) (h : ¬ (okH m (hx l i) = true ∧ ascH l i)) : okR m l = false := by
  unfold okR
  have e : ((List.range l.length).all fun j => okH m (hx l j) && decide (ascH l j)) = false := by
    rw [List.all_eq_false]
    refine ⟨i, List.mem_range.2 hi, fun k => h ?_⟩
    simpa using k
  rw [e]; simp
theorem okR_yes {m : Int} {l : List Hd} (h1 : wi m 0 9999 = true) (h2 : l.length ≤ 6) (h : okN m l l.length) : okR m l = true := by
  unfold okR
  have e : ((List.range l.length).all fun j => okH m (hx l j) && decide (ascH l j)) = true := by
    rw [List.all_eq_true]
    intro j hj
    have := h j (List.mem_range.1 hj)
    simpa using this
  rw [e, h1, decide_eq_true h2]; rfl
theorem okR_iff {m : Int} {l : List Hd} (h : okR m l = true) : wi m 0 9999 = true ∧ l.length ≤ 6 ∧ okN m l l.length := by
  unfold okR at h
  simp only [Bool.and_eq_true, decide_eq_true_eq, List.all_eq_true, List.mem_range] at h
  exact ⟨h.1, h.2.1, fun j hj => by simpa using h.2.2 j hj⟩
theorem okH_eq {m : Int} {l : List Hd} {i : Nat} {a : Int} {eo : Bool} {ea eb et : Int} {oo : Bool} {oa ob ot f : Int} (e : hx l i = (a, (eo, ea, eb), et, (oo, oa, ob), ot, f)) :
    okH m (hx l i) = (wi a 1 65535 && wi f 1 9999 && (kpt (eo, ea, eb) et false m && kpt (oo, oa, ob) ot true m)) := by rw [e]; rfl
theorem asc_zero {l : List Hd} : ascH l 0 := fun h => absurd h (by omega)
theorem asc_succ {l : List Hd} {k : Nat} {a a2 : Int} (e : (hx l (k + 1)).1 = a) (e2 : (hx l k).1 = a2) : ascH l (k + 1) ↔ a2 < a := by
  unfold ascH; rw [show k + 1 - 1 = k from rfl, e, e2]; exact ⟨fun h => h (by omega), fun h _ => h⟩
end Go.Proofs.Ytbeojfhakmbacaa
