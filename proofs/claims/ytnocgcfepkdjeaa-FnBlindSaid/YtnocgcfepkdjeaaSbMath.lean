/- What the laws about fitting points ask, in plain terms. -/
import Derived.Test.YtnocgcfepkdjeaaSiMath
namespace Go.Proofs.Ytnocgcfepkdjeaa
open Go.RowKit

def fitK (l : List Pt) (a : List Int) (tol : Int) : Bool := askB l a && wi tol 0 5
def fitV (l : List Pt) (a : List Int) (tol : Int) : List Pt := if fitK l a tol = true then fitN l a tol 961 else []
theorem fitK_iff {l : List Pt} {a : List Int} {tol : Int} : fitK l a tol = true ↔ askB l a = true ∧ wi tol 0 5 = true := by simp [fitK]
theorem fitV_len (l : List Pt) (a : List Int) (tol : Int) : (fitV l a tol).length ≤ 961 := by
  unfold fitV; split
  · exact fitN_len _ _ _ _
  · simp
def locV (l : List Pt) (a : List Int) (tol : Int) : Bool := fitK l a tol && decide ((fitN l a tol 961).length = 1)
/-- The box of the fitting points. -/
def boxK (l : List Pt) (a : List Int) (tol : Int) : Bool := fitK l a tol && decide (0 < (fitN l a tol 961).length)
def xs (l : List Pt) : List Int := l.map (·.1)
def ys (l : List Pt) : List Int := l.map (·.2)
theorem xs_at (l : List Pt) (k : Nat) : nth (xs l) k = px l k := by
  unfold nth xs px
  simp [List.getElem?_map]
  cases l[k]? <;> rfl
theorem ys_at (l : List Pt) (k : Nat) : nth (ys l) k = py l k := by
  unfold nth ys py
  simp [List.getElem?_map]
  cases l[k]? <;> rfl
def bstV (l : List Pt) (a : List Int) : Pt × Int := if askB l a = true then bestN l a 961 else ((0, 0), 0)
/-! a site less -/
theorem pt_at {l : List Pt} {p : Pt} (h : p ∈ l) : ∃ k, k < l.length ∧ px l k = p.1 ∧ py l k = p.2 := by
  obtain ⟨k, hk, rfl⟩ := List.mem_iff_getElem.1 h
  exact ⟨k, hk, by simp [px, List.getElem?_eq_getElem hk], by simp [py, List.getElem?_eq_getElem hk]⟩
theorem nth_at {l : List Int} {x : Int} (h : x ∈ l) : ∃ k, k < l.length ∧ nth l k = x := by
  obtain ⟨k, hk, rfl⟩ := List.mem_iff_getElem.1 h
  exact ⟨k, hk, by simp [nth, List.getElem?_eq_getElem hk]⟩
theorem dropL_sub {l : List Pt} {i : Nat} {p : Pt} (h : p ∈ dropL l i) : p ∈ l := by
  rcases List.mem_append.1 h with h | h
  · exact List.mem_of_mem_take h
  · exact List.mem_of_mem_drop h
theorem dropI_sub {l : List Int} {i : Nat} {p : Int} (h : p ∈ dropI l i) : p ∈ l := by
  rcases List.mem_append.1 h with h | h
  · exact List.mem_of_mem_take h
  · exact List.mem_of_mem_drop h
theorem small_drop {l : List Pt} (h : small l) (i : Nat) : small (dropL l i) := fun k hk => by
  obtain ⟨j, hj, e1, e2⟩ := pt_at (dropL_sub (px_mem hk))
  have := h j hj
  rw [e1, e2] at this
  exact this
theorem smallN_drop {a : List Int} {n : Nat} (h : smallN a n) (hl : a.length = n) (i : Nat) : smallN (dropI a i) (dropI a i).length := fun k hk => by
  obtain ⟨j, hj, e1⟩ := nth_at (dropI_sub (nth_mem hk))
  have := h j (by omega)
  rw [e1] at this
  exact this
def hlpN (l : List Pt) (a : List Int) (tol : Int) : Nat → Int × Int
  | 0 => (0, -1)
  | i + 1 => if (hlpN l a tol i).2 < ((fitN (dropL l i) (dropI a i) tol 961).length : Int) then ((i : Int), ((fitN (dropL l i) (dropI a i) tol 961).length : Int)) else hlpN l a tol i
def hlpK (l : List Pt) (a : List Int) (tol : Int) : Bool := fitK l a tol && !decide (l.length = 1)
def hlpV (l : List Pt) (a : List Int) (tol : Int) : Int := if hlpK l a tol = true then (hlpN l a tol l.length).1 else 0
end Go.Proofs.Ytnocgcfepkdjeaa
