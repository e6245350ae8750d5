/- Texts of velocities: plain. -/
import Derived.Test.YtpcabjjmphcpeaaDec
import Derived.Test.YtpcabjjmphcpeaaSpMath
import Derived.Test.YtpcabjjmphcpeaaOwn
namespace Go.Proofs.Ytpcabjjmphcpeaa
/-- An absolute value with one of two letters. -/
def vp (x : Int) (a b : UInt8) : ByteArray := if x > 0 then decS x ++ ⟨#[a]⟩ else if x < 0 then decS (-x) ++ ⟨#[b]⟩ else ⟨#[]⟩
theorem vp_pos {x : Int} (a b : UInt8) (h : x > 0) : vp x a b = decS x ++ ⟨#[a]⟩ := by unfold vp; rw [if_pos h]
theorem vp_neg {x : Int} (a b : UInt8) (h : x < 0) : vp x a b = decS (-x) ++ ⟨#[b]⟩ := by unfold vp; rw [if_neg (by omega), if_pos h]
theorem vp_zero (a b : UInt8) : vp 0 a b = ⟨#[]⟩ := rfl
theorem vp_size {x : Int} (a b : UInt8) (h : x ≠ 0) (h0 : -200 ≤ x) (h1 : x ≤ 200) : 2 ≤ (vp x a b).size ∧ (vp x a b).size ≤ 202 := by
  rcases Int.lt_or_gt_of_ne h with g | g
  · have := decS_size (n := -x) (by omega)
    rw [vp_neg a b g, ByteArray.size_append, show (ByteArray.mk #[b]).size = 1 from rfl]; omega
  · have := decS_size (n := x) (by omega)
    rw [vp_pos a b g, ByteArray.size_append, show (ByteArray.mk #[a]).size = 1 from rfl]; omega
def vtext (x y : Int) : ByteArray :=
  if y = 0 then (if x = 0 then ⟨#[48]⟩ else vp x 69 87) else if x = 0 then vp y 78 83 else vp y 78 83 ++ ⟨#[32]⟩ ++ vp x 69 87
def vtS (x y : Int) : ByteArray := if vV x y = true then vtext x y else ⟨#[]⟩
theorem toList_ne {s : ByteArray} (h : 1 ≤ s.size) : s.toList ≠ [] := by
  rw [ByteArray.toList_eq]
  intro e
  have h2 : s.data.toList.length = 0 := by rw [e]; rfl
  have h3 : s.data.toList.length = s.size := by simp
  omega
end Go.Proofs.Ytpcabjjmphcpeaa
