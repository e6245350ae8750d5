/- The text of any number. -/
import Derived.Test.YtpcabjjmphcpeaaDec
namespace Go.Proofs.Ytpcabjjmphcpeaa
theorem size1 (c : UInt8) : (ByteArray.mk #[c]).size = 1 := rfl
theorem size2 (a b : UInt8) : (ByteArray.mk #[a, b]).size = 2 := rfl
theorem size3 (a b c : UInt8) : (ByteArray.mk #[a, b, c]).size = 3 := rfl
/-- The text of any number. -/
def txtS (n : Int) : ByteArray := if n < 0 then ⟨#[45]⟩ ++ decS (-n) else decS n
theorem txtS_neg {n : Int} (h : n < 0) : txtS n = ⟨#[45]⟩ ++ decS (-n) := by unfold txtS; rw [if_pos h]
theorem txtS_pos {n : Int} (h : ¬ n < 0) : txtS n = decS n := by unfold txtS; rw [if_neg h]
theorem txtS_size {n : Int} (h0 : -1000000000000 ≤ n) (h1 : n ≤ 1000000000000) : 1 ≤ (txtS n).size ∧ (txtS n).size ≤ 1000000000003 := by
  by_cases h : n < 0
  · have := decS_size (n := -n) (by omega)
    rw [txtS_neg h, ByteArray.size_append, size1]; omega
  · have := decS_size (n := n) (by omega)
    rw [txtS_pos h]; omega
def txtL (n : Int) : List UInt8 := if n < 0 then 45 :: decN (-n).toNat else decN n.toNat
theorem txtS_str (n : Int) : txtS n = str (txtL n) := by
  by_cases h : n < 0
  · rw [txtS_neg h, txtL, if_pos h, decS]; exact str_app [45] _
  · rw [txtS_pos h, txtL, if_neg h, decS]
end Go.Proofs.Ytpcabjjmphcpeaa
