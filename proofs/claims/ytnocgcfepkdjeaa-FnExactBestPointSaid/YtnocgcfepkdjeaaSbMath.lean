/- What the laws about fitting points ask, in plain terms. -/
import Derived.Test.YtnocgcfepkdjeaaSiMath
namespace Go.Proofs.Ytnocgcfepkdjeaa
open Go.RowKit

def fitK (l : List Pt) (a : List Int) (tol : Int) : Bool := askB l a && wi tol 0 5
def fitV (l : List Pt) (a : List Int) (tol : Int) : List Pt := if fitK l a tol = true then fitN l a tol 961 else []
theorem fitK_iff {l : List Pt} {a : List Int} {tol : Int} : fitK l a tol = true ↔ askB l a = true ∧ wi tol 0 5 = true := by simp [fitK]
theorem fitV_len (l : List Pt) (a : List Int) (tol : Int) : (fitV l a tol).length ≤ 961 := by
  unfold fitV; split
  · exact fitN_len _ _ _ _
  · simp
def locV (l : List Pt) (a : List Int) (tol : Int) : Bool := fitK l a tol && decide ((fitN l a tol 961).length = 1)
/-- The box of the fitting points. -/
def boxK (l : List Pt) (a : List Int) (tol : Int) : Bool := fitK l a tol && decide (0 < (fitN l a tol 961).length)
def xs (l : List Pt) : List Int := l.map (·.1)
def ys (l : List Pt) : List Int := l.map (·.2)
theorem xs_at (l : List Pt) (k : Nat) : nth (xs l) k = px l k := by
  unfold nth xs px
  simp [List.getElem?_map]
  cases l[k]? <;> rfl
theorem ys_at (l : List Pt) (k : Nat) : nth (ys l) k = py l k := by
  unfold nth ys py
  simp [List.getElem?_map]
  cases l[k]? <;> rfl
def bstV (l : List Pt) (a : List Int) : Pt × Int := if askB l a = true then bestN l a 961 else ((0, 0), 0)
end Go.Proofs.Ytnocgcfepkdjeaa
