/- Heights: plain. -/
import Derived.Test.YthgnnldokdddfaaDec
import Derived.Test.YthgnnldokdddfaaOwn
import Derived.Test.YthgnnldokdddfaaWi
namespace Go.Proofs.Ythgnnldokdddfaa
theorem size1 (c : UInt8) : (ByteArray.mk #[c]).size = 1 := rfl
theorem size2 (a b : UInt8) : (ByteArray.mk #[a, b]).size = 2 := rfl
theorem size3 (a b c : UInt8) : (ByteArray.mk #[a, b, c]).size = 3 := rfl
/-- The text of any number. -/
def txtS (n : Int) : ByteArray := if n < 0 then ⟨#[45]⟩ ++ decS (-n) else decS n
theorem txtS_neg {n : Int} (h : n < 0) : txtS n = ⟨#[45]⟩ ++ decS (-n) := by unfold txtS; rw [if_pos h]
theorem txtS_pos {n : Int} (h : ¬ n < 0) : txtS n = decS n := by unfold txtS; rw [if_neg h]
theorem txtS_size {n : Int} (h0 : -1000000000000 ≤ n) (h1 : n ≤ 1000000000000) : 1 ≤ (txtS n).size ∧ (txtS n).size ≤ 1000000000003 := by
  by_cases h : n < 0
  · have := decS_size (n := -n) (by omega)
    rw [txtS_neg h, ByteArray.size_append, size1]; omega
  · have := decS_size (n := n) (by omega)
    rw [txtS_pos h]; omega
def isH (h : Int) : Bool := wi h (-2000) 130000
def hT (h : Int) : ByteArray := if h ≥ 10000 ∧ h % 100 = 0 then ⟨#[70, 76]⟩ ++ txtS (h / 100) else txtS h ++ ⟨#[32, 102, 116]⟩
def hTS (h : Int) : ByteArray := if isH h = true then hT h else ⟨#[]⟩
end Go.Proofs.Ythgnnldokdddfaa
