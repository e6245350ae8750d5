/- Bits of numbers: plain. -/
import Derived.Test.YtbeojfhakmbacaaStr
import Derived.Test.YtbeojfhakmbacaaPoMath
import Derived.WalkKit
namespace Go.Proofs.Ytbeojfhakmbacaa
def xr (a b : Int) : Int := ((a.toNat ^^^ b.toNat : Nat) : Int)
theorem xr_bd {a b : Int} (k : Nat) (h1 : a < 2 ^ k) (h2 : b < 2 ^ k) : 0 ≤ xr a b ∧ xr a b < 2 ^ k := by
  have e : ((2 ^ k : Nat) : Int) = (2 : Int) ^ k := by simp
  have hp : 0 < 2 ^ k := Nat.pow_pos (by omega)
  have h := Nat.xor_lt_two_pow (x := a.toNat) (y := b.toNat) (n := k) (by omega) (by omega)
  unfold xr
  omega
theorem i64_xor {a b : Int} (h1 : 0 ≤ a) (h2 : a < 1099511627776) (h3 : 0 ≤ b) (h4 : b < 1099511627776) : bits .xor .i64 a b = xr a b := by
  obtain ⟨A, rfl⟩ := Int.eq_ofNat_of_zero_le h1
  obtain ⟨B, rfl⟩ := Int.eq_ofNat_of_zero_le h3
  have hx : A ^^^ B < 2 ^ 40 := Nat.xor_lt_two_pow (by omega) (by omega)
  show IntKind.i64.wrap ((BitVec.ofInt 64 (A : Int) ^^^ BitVec.ofInt 64 (B : Int)).toNat : Int) = _
  have oA : (BitVec.ofInt 64 (A : Int)).toNat = A := by rw [BitVec.ofInt_natCast, BitVec.toNat_ofNat]; exact Nat.mod_eq_of_lt (by omega)
  have oB : (BitVec.ofInt 64 (B : Int)).toNat = B := by rw [BitVec.ofInt_natCast, BitVec.toNat_ofNat]; exact Nat.mod_eq_of_lt (by omega)
  rw [BitVec.toNat_xor, oA, oB, IntWalk.i64_in _ (by omega)]
  simp [xr]
theorem i64_and1 {a : Int} (h1 : 0 ≤ a) (h2 : a < 1099511627776) : bits .and .i64 a 1 = a % 2 := by
  obtain ⟨A, rfl⟩ := Int.eq_ofNat_of_zero_le h1
  have hx : A &&& 1 < 2 ^ 40 := Nat.and_lt_two_pow _ (by omega)
  show IntKind.i64.wrap ((BitVec.ofInt 64 (A : Int) &&& BitVec.ofInt 64 ((1 : Nat) : Int)).toNat : Int) = _
  have oA : (BitVec.ofInt 64 (A : Int)).toNat = A := by rw [BitVec.ofInt_natCast, BitVec.toNat_ofNat]; exact Nat.mod_eq_of_lt (by omega)
  have oB : (BitVec.ofInt 64 ((1 : Nat) : Int)).toNat = 1 := by rw [BitVec.ofInt_natCast, BitVec.toNat_ofNat]
  rw [BitVec.toNat_and, oA, oB, IntWalk.i64_in _ (by omega), Nat.and_one_is_mod]
  omega
/-- The number with a Gray code, by rounds. -/
def fgF : Nat → Int → Int → Int
  | 0, n, _ => n
  | f + 1, n, g => if g > 0 then fgF f (xr n g) (g / 2) else n
theorem fgF_zero (n : Int) : ∀ f, fgF f n 0 = n
  | 0 => rfl
  | f + 1 => by simp [fgF]
theorem fgF_bd : ∀ (f : Nat) (n g : Int), 0 ≤ n → n < 2048 → g < 2048 → 0 ≤ fgF f n g ∧ fgF f n g < 2048
  | 0, n, g, h0, h1, _ => ⟨h0, h1⟩
  | f + 1, n, g, h0, h1, h2 => by
    unfold fgF
    by_cases h : g > 0
    · rw [if_pos h]
      obtain ⟨x0, x1⟩ := xr_bd (a := n) (b := g) 11 (by omega) (by omega)
      exact fgF_bd f _ _ x0 (by omega) (by omega)
    · rw [if_neg h]; exact ⟨h0, h1⟩
def fg (g : Int) : Int := fgF 11 0 g
theorem fg_bd {g : Int} (h : g ≤ 2047) : 0 ≤ fg g ∧ fg g ≤ 2047 := by
  have := fgF_bd 11 0 g (by omega) (by omega) (by omega)
  unfold fg; omega
/-- How many of the lowest k bits are 1. -/
def popL (n : Int) : Nat → Int
  | 0 => 0
  | k + 1 => (n / 2 ^ k) % 2 + popL n k
theorem popL_bd (n : Int) : ∀ k, 0 ≤ popL n k ∧ popL n k ≤ k
  | 0 => by simp [popL]
  | k + 1 => by have := popL_bd n k; unfold popL; omega
theorem popL_stop {n : Int} {i : Nat} (h : n / 2 ^ i = 0) : ∀ d, popL n (i + d) = popL n i
  | 0 => rfl
  | d + 1 => by
    have e : n / 2 ^ (i + d) = 0 := by
      rw [Int.pow_add, ← Int.ediv_ediv_of_nonneg (Int.le_of_lt (Int.pow_pos (by omega))), h, Int.zero_ediv]
    rw [← Nat.add_assoc, popL, e, popL_stop h d]; simp
def onesL (l : List UInt8) : Int := (l.filter (· == 49)).length
theorem onesL_bits (n : Int) : ∀ k, onesL (bitsL n k) = popL n k
  | 0 => rfl
  | k + 1 => by
    have h := onesL_bits n k
    unfold onesL at h ⊢
    rw [bitsL, popL, List.filter_cons]
    unfold bit
    split
    · simp; omega
    · simp; omega
/-- Whether there is a height with a code. -/
def decOk (c : Int) : Bool := wi c 2048 4095 || (wi c 0 2047 && decide (fg c ≤ 1279))
def decV (c : Int) : Int := if wi c 2048 4095 = true then -1000 + 25 * (c - 2048) else if decOk c = true then -1200 + 100 * fg c else 0
theorem decOk_bd {c : Int} (h : decOk c = true) : 0 ≤ c ∧ c ≤ 4095 := by
  unfold decOk at h
  rcases Bool.or_eq_true_iff.1 h with h | h
  · have := wi_iff.1 h; omega
  · have := wi_iff.1 (Bool.and_eq_true_iff.1 h).1; omega
def cbK (a b : Int) : Bool := decOk a && decOk b
def cb (a b : Int) : Int := if cbK a b = true then popL (xr a b) 12 else 0
end Go.Proofs.Ytbeojfhakmbacaa
