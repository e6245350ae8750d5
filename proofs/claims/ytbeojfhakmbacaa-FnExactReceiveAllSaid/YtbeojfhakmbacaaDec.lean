/- Decimal texts: plain lists of bytes. -/
import Derived.Test.YtbeojfhakmbacaaStr
namespace Go.Proofs.Ytbeojfhakmbacaa
def dig (n : Nat) : UInt8 := UInt8.ofNat (48 + n % 10)
def decN (n : Nat) : List UInt8 := if _h : n < 10 then [dig n] else decN (n / 10) ++ [dig n]
termination_by n
decreasing_by omega
theorem decN_lt {n : Nat} (h : n < 10) : decN n = [dig n] := by rw [decN, dif_pos h]
theorem decN_ge {n : Nat} (h : ¬ n < 10) : decN n = decN (n / 10) ++ [dig n] := by rw [decN, dif_neg h]
theorem decN_len : ∀ n, 1 ≤ (decN n).length ∧ (decN n).length ≤ n + 1 := by
  intro n
  induction n using Nat.strongRecOn with
  | ind n ih =>
    by_cases h : n < 10
    · rw [decN_lt h]; simp
    · have := ih (n / 10) (by omega)
      rw [decN_ge h, List.length_append]; simp; omega
/-- The text of a number of at least 0. -/
def decS (n : Int) : ByteArray := str (decN n.toNat)
theorem decS_size {n : Int} (h : 0 ≤ n) : 1 ≤ (decS n).size ∧ ((decS n).size : Int) ≤ n + 1 := by
  have := decN_len n.toNat
  rw [decS, str_size]; omega
theorem digits_at (n : Nat) (h : n < 10) : (ByteArray.mk #[48, 49, 50, 51, 52, 53, 54, 55, 56, 57]).extract n (n + 1) = str [dig n] := by
  have key : ∀ k < 10, (ByteArray.mk #[48, 49, 50, 51, 52, 53, 54, 55, 56, 57]).extract k (k + 1) = str [dig k] := by decide +kernel
  exact key n h
theorem digits_int {n : Int} (h0 : 0 ≤ n) (h : n < 10) : (ByteArray.mk #[48, 49, 50, 51, 52, 53, 54, 55, 56, 57]).extract n.toNat (n + 1).toNat = str [dig n.toNat] := by
  rw [show (n + 1).toNat = n.toNat + 1 from by omega]
  exact digits_at _ (by omega)
theorem dig_mod (n : Nat) : dig (n % 10) = dig n := by unfold dig; rw [Nat.mod_mod]
theorem decS_lt {n : Int} (h : n < 10) : decS n = str [dig n.toNat] := by rw [decS, decN_lt (by omega)]
theorem decS_ge {n : Int} (h : ¬ n < 10) : decS n = decS (n / 10) ++ str [dig (n % 10).toNat] := by
  rw [decS, decN_ge (by omega), decS, str_app, show (n / 10).toNat = n.toNat / 10 from by omega, show (n % 10).toNat = n.toNat % 10 from by omega, dig_mod]
theorem dig_val (n : Nat) : ((dig n).toNat : Int) = 48 + (n % 10 : Nat) := by
  unfold dig
  rw [UInt8.toNat_ofNat']
  have : (48 + n % 10) % 2 ^ 8 = 48 + n % 10 := Nat.mod_eq_of_lt (by omega)
  rw [this]; omega
theorem size_of_app {a b c : ByteArray} (h : a = b ++ c) : c.size ≤ a.size := by
  rw [h, ByteArray.size_append]; omega
theorem decS_step {n m : Int} {s : ByteArray} (g : ¬ m < 10) (h : decS n = decS m ++ s) : decS n = decS (m / 10) ++ (str [dig m.toNat] ++ s) := by
  rw [h, decS_ge g, ByteArray.append_assoc, show (m % 10).toNat = m.toNat % 10 from by omega, dig_mod]
end Go.Proofs.Ytbeojfhakmbacaa
