/- Texts of bits: plain lists of bytes. -/
import Derived.Test.YtbeojfhakmbacaaBase
namespace Go.Proofs.Ytbeojfhakmbacaa
open Go.RowKit
def str (l : List UInt8) : ByteArray := ⟨l.toArray⟩
theorem str_size (l : List UInt8) : (str l).size = l.length := by simp [str, ByteArray.size]
theorem str_list (l : List UInt8) : (str l).data.toList = l := by simp [str]
theorem str_app (a b : List UInt8) : str a ++ str b = str (a ++ b) := ByteArray.mk_append_mk a b
theorem of_list (s : ByteArray) : str s.data.toList = s := by cases s; simp [str]
theorem app_list (a b : ByteArray) : (a ++ b).data.toList = a.data.toList ++ b.data.toList := by
  have h := str_app a.data.toList b.data.toList
  rw [of_list, of_list] at h
  rw [h, str_list]
/-- The lowest bit as a byte. -/
def bit (n : Int) : UInt8 := if n % 2 = 0 then 48 else 49
/-- The lowest k bits of n. -/
def bitsL (n : Int) : Nat → List UInt8
  | 0 => []
  | k + 1 => bit (n / 2 ^ k) :: bitsL n k
theorem bitsL_len (n : Int) : ∀ k, (bitsL n k).length = k
  | 0 => rfl
  | k + 1 => by simp [bitsL, bitsL_len n k]
def isB (l : List UInt8) : Prop := ∀ c ∈ l, c = 48 ∨ c = 49
theorem bit_isB (n : Int) : bit n = 48 ∨ bit n = 49 := by unfold bit; split <;> simp
theorem isB_nil : isB [] := fun _ h => by cases h
theorem isB_cons {c : UInt8} {l : List UInt8} (h : c = 48 ∨ c = 49) (hl : isB l) : isB (c :: l) := fun x hx => by
  rcases List.mem_cons.1 hx with e | e
  · rw [e]; exact h
  · exact hl x e
theorem isB_app {a b : List UInt8} (ha : isB a) (hb : isB b) : isB (a ++ b) := fun x hx => by
  rcases List.mem_append.1 hx with e | e
  · exact ha x e
  · exact hb x e
theorem bitsL_isB (n : Int) : ∀ k, isB (bitsL n k)
  | 0 => isB_nil
  | k + 1 => isB_cons (bit_isB _) (bitsL_isB n k)
/-- The number of a text of bits. -/
def numL (l : List UInt8) : Int := l.foldl (fun a c => 2 * a + (c.toNat : Int) - 48) 0
theorem numL_snoc (l : List UInt8) (c : UInt8) : numL (l ++ [c]) = 2 * numL l + (c.toNat : Int) - 48 := by simp [numL]
theorem foldl_num (l : List UInt8) : ∀ a : Int, l.foldl (fun a c => 2 * a + (c.toNat : Int) - 48) a = a * 2 ^ l.length + numL l := by
  induction l with
  | nil => intro a; simp [numL]
  | cons c l ih =>
    intro a
    have e : numL (c :: l) = (2 * 0 + (c.toNat : Int) - 48) * 2 ^ l.length + numL l := by
      show List.foldl _ _ (c :: l) = _
      rw [List.foldl_cons, ih]
    rw [List.foldl_cons, ih, e, List.length_cons, Int.pow_succ]
    have : (2 * a + (c.toNat : Int) - 48) * 2 ^ l.length = a * (2 ^ l.length * 2) + (2 * 0 + (c.toNat : Int) - 48) * 2 ^ l.length := by
      rw [Int.mul_comm (2 ^ l.length) 2, ← Int.mul_assoc, Int.mul_comm a 2, ← Int.add_mul]
      congr 1
      omega
    omega
theorem numL_app (a b : List UInt8) : numL (a ++ b) = numL a * 2 ^ b.length + numL b := by
  show List.foldl _ _ (a ++ b) = _
  rw [List.foldl_append, foldl_num]; rfl
theorem numL_cons (c : UInt8) (l : List UInt8) : numL (c :: l) = ((c.toNat : Int) - 48) * 2 ^ l.length + numL l := by
  have h := numL_app [c] l
  rw [List.singleton_append] at h
  rw [h]; congr 2; simp [numL]
theorem numL_bd {l : List UInt8} (h : isB l) : 0 ≤ numL l ∧ numL l < 2 ^ l.length := by
  induction l with
  | nil => simp [numL]
  | cons c l ih =>
    have h1 := ih fun x hx => h x (List.mem_cons_of_mem _ hx)
    have h2 := h c List.mem_cons_self
    rw [numL_cons, List.length_cons, Int.pow_succ]
    generalize (2 : Int) ^ l.length = z at *
    have h48 : (UInt8.toNat 48 : Int) = 48 := rfl
    have h49 : (UInt8.toNat 49 : Int) = 49 := rfl
    rcases h2 with e | e <;> subst e
    · rw [h48]; omega
    · rw [h49]; omega
theorem bit_val (n : Int) : ((bit n).toNat : Int) - 48 = n % 2 := by
  unfold bit
  have h48 : (UInt8.toNat 48 : Int) = 48 := rfl
  have h49 : (UInt8.toNat 49 : Int) = 49 := rfl
  split
  · rw [h48]; omega
  · rw [h49]; omega
theorem numL_bits (n : Int) (h : 0 ≤ n) : ∀ k, numL (bitsL n k) = n % 2 ^ k
  | 0 => by simp [bitsL, numL, Int.emod_one]
  | k + 1 => by
    rw [bitsL, numL_cons, bit_val, bitsL_len, numL_bits n h k, Int.pow_succ]
    have hz : (0 : Int) < 2 ^ k := Int.pow_pos (by omega)
    generalize (2 : Int) ^ k = z at *
    have e1 := Int.emod_add_mul_ediv n z
    have e2 := Int.emod_add_mul_ediv (n / z) 2
    have e3 : n % (z * 2) = n - z * 2 * (n / (z * 2)) := by have := Int.emod_add_mul_ediv n (z * 2); omega
    rw [e3, ← Int.ediv_ediv_of_nonneg (by omega)]
    generalize n / z / 2 = q at *
    generalize hr : n / z % 2 = r at *
    generalize n / z = p at *
    generalize n % z = m at *
    subst e2
    rw [Int.mul_add] at e1
    have e4 : z * (2 * q) = z * 2 * q := by rw [Int.mul_assoc]
    have e5 : r * z = z * r := Int.mul_comm _ _
    omega
theorem take_snoc (s : ByteArray) (k : Nat) (h : k < s.size) : s.data.toList.take (k + 1) = s.data.toList.take k ++ [s[k]] := by
  rw [List.take_succ_eq_append_getElem (by simpa using h)]; rfl
theorem div_pow_succ (n : Int) (k : Nat) : n / 2 ^ k / 2 = n / 2 ^ (k + 1) := by
  rw [Int.pow_succ, Int.ediv_ediv_of_nonneg (Int.le_of_lt (Int.pow_pos (by omega)))]
end Go.Proofs.Ytbeojfhakmbacaa
