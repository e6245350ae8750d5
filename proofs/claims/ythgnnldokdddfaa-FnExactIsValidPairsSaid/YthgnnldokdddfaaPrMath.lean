/- Pairs of clocks that are right: plain. -/
import Derived.Test.YthgnnldokdddfaaSl
import Derived.Test.YthgnnldokdddfaaWi
namespace Go.Proofs.Ythgnnldokdddfaa
open Go.RowKit

def pairOk (l : List Pt) (i : Nat) : Prop := wi (px l i) 0 1000000 = true ∧ wi (py l i) 0 1000000 = true ∧ (0 < i → px l (i - 1) < px l i)
def pairsN (l : List Pt) (n : Nat) : Prop := ∀ i, i < n → pairOk l i
instance (l : List Pt) (i : Nat) : Decidable (pairOk l i) := by unfold pairOk; infer_instance
instance (l : List Pt) (n : Nat) : Decidable (pairsN l n) := by unfold pairsN; infer_instance
def okP (l : List Pt) : Bool := wi l.length 1 12 && decide (pairsN l l.length)
theorem pairsN_zero (l : List Pt) : pairsN l 0 := fun _ h => absurd h (by omega)
theorem pairsN_succ {l : List Pt} {n : Nat} (h : pairsN l n) (h1 : pairOk l n) : pairsN l (n + 1) := fun i hi => by
  rcases Nat.lt_or_ge i n with h3 | h3
  · exact h i h3
  · obtain rfl : i = n := by omega
    exact h1
theorem okP_no {l : List Pt} {i : Nat} (hi : i < l.length) (h : ¬ pairOk l i) : okP l = false := by
  unfold okP
  rw [decide_eq_false (fun e => h (e i hi)), Bool.and_false]
theorem okP_all {l : List Pt} (h : pairsN l l.length) : okP l = wi l.length 1 12 := by unfold okP; rw [decide_eq_true h, Bool.and_true]
end Go.Proofs.Ythgnnldokdddfaa
