/- How a velocity is sent: plain arithmetic. -/
import Derived.Test.YtpcabjjmphcpeaaStr
import Derived.Test.YtpcabjjmphcpeaaSpMath
namespace Go.Proofs.Ytpcabjjmphcpeaa
def sg (x : Int) : Int := if x < 0 then 1024 - x else x
def us (x : Int) : Int := if x ≥ 1024 then 1024 - x else x
def sgnL (x : Int) : List UInt8 := if x < 0 then 49 :: bitsL (-x) 10 else 48 :: bitsL x 10
def sgnS (x : Int) : ByteArray := str (sgnL x)
theorem sgnL_len (x : Int) : (sgnL x).length = 11 := by unfold sgnL; split <;> simp [bitsL_len]
theorem sgnS_size (x : Int) : (sgnS x).size = 11 := by rw [sgnS, str_size, sgnL_len]
theorem sgnL_isB (x : Int) : isB (sgnL x) := by
  unfold sgnL; split
  · exact isB_cons (Or.inr rfl) (bitsL_isB _ _)
  · exact isB_cons (Or.inl rfl) (bitsL_isB _ _)
theorem sgnL_num {x : Int} (h0 : -1023 ≤ x) (h1 : x ≤ 1023) : numL (sgnL x) = sg x := by
  unfold sgnL sg
  have h48 : (UInt8.toNat 48 : Int) = 48 := rfl
  have h49 : (UInt8.toNat 49 : Int) = 49 := rfl
  split
  · rw [numL_cons, bitsL_len, numL_bits _ (by omega), h49]; omega
  · rw [numL_cons, bitsL_len, numL_bits _ (by omega), h48]; omega
theorem sg_bd {x : Int} (h0 : -1023 ≤ x) (h1 : x ≤ 1023) : 0 ≤ sg x ∧ sg x ≤ 2047 := by unfold sg; split <;> omega
def sentS (x y : Int) : ByteArray := sgnS x ++ sgnS y ++ ⟨#[48, 48]⟩
theorem sentS_list (x y : Int) : (sentS x y).data.toList = sgnL x ++ sgnL y ++ [48, 48] := by
  unfold sentS
  rw [app_list, app_list, sgnS, sgnS, str_list, str_list]
theorem sentS_size (x y : Int) : (sentS x y).size = 24 := by
  have h : (sentS x y).data.toList.length = 24 := by rw [sentS_list]; simp [sgnL_len]
  simpa using h
theorem sentS_isB (x y : Int) : isB (sentS x y).data.toList := by
  rw [sentS_list]
  exact isB_app (isB_app (sgnL_isB x) (sgnL_isB y)) (isB_cons (Or.inl rfl) (isB_cons (Or.inl rfl) isB_nil))
theorem sentS_num {x y : Int} (h : vV x y = true) : numL (sentS x y).data.toList = (2048 * sg x + sg y) * 4 := by
  obtain ⟨⟨a0, a1⟩, b0, b1⟩ := vV_iff.1 h
  rw [sentS_list, numL_app, numL_app, sgnL_len, sgnL_num (by omega) (by omega), sgnL_num (by omega) (by omega)]
  have : numL [48, 48] = 0 := by decide
  rw [this]; simp; omega
def enc (x y : Int) : Int := if vV x y = true then (2048 * sg x + sg y) * 4 else 0
theorem bitsL_add (n : Int) (b : Nat) : ∀ a, bitsL n (a + b) = bitsL (n / 2 ^ b) a ++ bitsL n b
  | 0 => by simp [bitsL]
  | a + 1 => by
    rw [show a + 1 + b = (a + b) + 1 from by omega, bitsL, bitsL, bitsL_add n b a, List.cons_append]
    congr 2
    rw [Int.ediv_ediv_of_nonneg (Int.le_of_lt (Int.pow_pos (by omega))), ← Int.pow_add, Nat.add_comm]
/-- The 24 bits, in their parts. -/
theorem bits24 (n : Int) : bitsL n 24 = bit (n / 8388608) :: (bitsL (n / 8192) 10 ++ (bit (n / 4096) :: (bitsL (n / 4) 10 ++ bitsL n 2))) := by
  have e1 : bitsL n 24 = bit (n / 2 ^ 23) :: bitsL n 23 := rfl
  have e2 : bitsL n 23 = bitsL (n / 2 ^ 13) 10 ++ bitsL n 13 := bitsL_add n 13 10
  have e3 : bitsL n 13 = bit (n / 2 ^ 12) :: bitsL n 12 := rfl
  have e4 : bitsL n 12 = bitsL (n / 2 ^ 2) 10 ++ bitsL n 2 := bitsL_add n 2 10
  rw [e1, e2, e3, e4]; rfl
theorem ext_list (l : List UInt8) (a b : Nat) : ((str l).extract a b) = str ((l.drop a).take (b - a)) := ByteArray.extract_mk l a b
theorem dec_parts (n : Int) (h0 : 0 ≤ n) : ∃ s A B : ByteArray, str (bitsL n 24) = s ∧ s.size = 24 ∧ s.extract 1 11 = A ∧ s.extract 12 22 = B ∧
    A.size ≤ 40 ∧ isB A.data.toList ∧ numL A.data.toList = n / 8192 % 1024 ∧ B.size ≤ 40 ∧ isB B.data.toList ∧ numL B.data.toList = n / 4 % 1024 ∧
    (∀ h : 0 < s.size, s[0] = bit (n / 8388608)) ∧ (∀ h : 11 < s.size, s[11] = bit (n / 4096)) := by
  have l1 := bitsL_len (n / 8192) 10
  have l2 := bitsL_len (n / 4) 10
  have e := bits24 n
  have eA : (str (bitsL n 24)).extract 1 11 = str (bitsL (n / 8192) 10) := by
    rw [ext_list, e]
    simp only [List.drop_succ_cons, List.drop_zero]
    rw [List.take_append_of_le_length (by omega), List.take_of_length_le (by omega)]
  have eB : (str (bitsL n 24)).extract 12 22 = str (bitsL (n / 4) 10) := by
    rw [ext_list, e]
    have d : List.drop 12 (bit (n / 8388608) :: (bitsL (n / 8192) 10 ++ bit (n / 4096) :: (bitsL (n / 4) 10 ++ bitsL n 2))) = bitsL (n / 4) 10 ++ bitsL n 2 := by
      rw [List.drop_succ_cons, List.drop_append, List.drop_eq_nil_of_le (by omega), l1]
      simp
    rw [d, List.take_append_of_le_length (by omega), List.take_of_length_le (by omega)]
  refine ⟨_, _, _, rfl, by rw [str_size, bitsL_len], eA, eB, ?_, ?_, ?_, ?_, ?_, ?_, ?_, ?_⟩
  · rw [str_size]; omega
  · rw [str_list]; exact bitsL_isB _ _
  · rw [str_list, numL_bits _ (by omega)]; rfl
  · rw [str_size]; omega
  · rw [str_list]; exact bitsL_isB _ _
  · rw [str_list, numL_bits _ (by omega)]; rfl
  · intro h
    show (bitsL n 24).toArray[0] = _
    simp [e]
  · intro h
    show (bitsL n 24).toArray[11] = _
    simp only [List.getElem_toArray, e]
    rw [List.getElem_cons_succ, List.getElem_append_right (by omega)]
    simp [l1]
def uX (n : Int) : Int := us (n / 8192)
def uY (n : Int) : Int := us (n / 4 % 2048)
def decK (n : Int) : Bool := wi n 0 16777215 && (vV (uX n) (uY n) && decide (enc (uX n) (uY n) = n))
def decX (n : Int) : Int := if decK n = true then uX n else 0
def decY (n : Int) : Int := if decK n = true then uY n else 0
theorem us_bd {m : Int} (h0 : 0 ≤ m) (h1 : m ≤ 2047) : -1023 ≤ us m ∧ us m ≤ 1023 := by unfold us; split <;> omega
theorem bit_one (n : Int) : bit n = 49 ↔ n % 2 = 1 := by
  unfold bit; split
  · constructor
    · intro h; exact absurd h (by decide)
    · omega
  · constructor
    · intro _; omega
    · intro _; rfl
theorem uX_at {n : Int} (h0 : 0 ≤ n) (h1 : n ≤ 16777215) : uX n = if n / 8388608 % 2 = 1 then -(n / 8192 % 1024) else n / 8192 % 1024 := by
  unfold uX us; split <;> split <;> omega
theorem uY_at {n : Int} : uY n = if n / 4096 % 2 = 1 then -(n / 4 % 1024) else n / 4 % 1024 := by
  unfold uY us; split <;> split <;> omega
end Go.Proofs.Ytpcabjjmphcpeaa
