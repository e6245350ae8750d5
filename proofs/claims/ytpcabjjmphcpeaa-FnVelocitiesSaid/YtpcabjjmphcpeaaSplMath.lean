/- A text that is cut at each place of a byte: plain. -/
import Derived.Test.YtpcabjjmphcpeaaStr
import Derived.Test.YtpcabjjmphcpeaaOwn
import Derived.Test.YtpcabjjmphcpeaaSl
namespace Go.Proofs.Ytpcabjjmphcpeaa
open Go.RowKit
def strs (l : List ByteArray) : List Value := l.map .string
theorem strs_snoc (l : List ByteArray) (x : ByteArray) : strs (l ++ [x]) = strs l ++ [.string x] := by simp [strs]
theorem strs_len (l : List ByteArray) : (strs l).length = l.length := by simp [strs]
def byteAt (s : ByteArray) (i : Nat) : Int := if h : i < s.size then (s[i].toNat : Int) else -1
theorem byteAt_in {s : ByteArray} {i : Nat} (h : i < s.size) : byteAt s i = (s[i].toNat : Int) := by unfold byteAt; rw [dif_pos h]
/-- The parts before place i, and where the next part begins. -/
def spS (s : ByteArray) (b : Int) : Nat → List ByteArray × Nat
  | 0 => ([], 0)
  | i + 1 => if byteAt s i = b then ((spS s b i).1 ++ [s.extract (spS s b i).2 i], i + 1) else spS s b i
theorem spS_bd (s : ByteArray) (b : Int) : ∀ i, (spS s b i).2 ≤ i ∧ (spS s b i).1.length ≤ i
  | 0 => ⟨Nat.le_refl _, Nat.le_refl _⟩
  | i + 1 => by
    have h := spS_bd s b i
    rw [spS]
    split
    · simp only [List.length_append, List.length_cons, List.length_nil]; omega
    · omega
def spL (s : ByteArray) (b : Int) : List ByteArray := (spS s b s.size).1 ++ [s.extract (spS s b s.size).2 s.size]
theorem spL_len (s : ByteArray) (b : Int) : (spL s b).length ≤ s.size + 1 := by
  have := (spS_bd s b s.size).2
  unfold spL
  simp only [List.length_append, List.length_cons, List.length_nil]; omega
end Go.Proofs.Ytpcabjjmphcpeaa
