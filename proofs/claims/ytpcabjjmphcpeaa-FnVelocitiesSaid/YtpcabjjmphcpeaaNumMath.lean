/- Reading decimal texts: plain lists of bytes. -/
import Derived.Test.YtpcabjjmphcpeaaDec
namespace Go.Proofs.Ytpcabjjmphcpeaa
def isD (c : UInt8) : Bool := decide (48 ≤ (c.toNat : Int)) && decide ((c.toNat : Int) ≤ 57)
def numV (l : List UInt8) : Int := l.foldl (fun a c => 10 * a + ((c.toNat : Int) - 48)) 0
theorem numV_snoc (l : List UInt8) (c : UInt8) : numV (l ++ [c]) = 10 * numV l + ((c.toNat : Int) - 48) := by simp [numV]
theorem isD_iff {c : UInt8} : isD c = true ↔ 48 ≤ (c.toNat : Int) ∧ (c.toNat : Int) ≤ 57 := by simp [isD]
theorem dig_isD (n : Nat) : isD (dig n) = true := by
  rw [isD_iff, dig_val]; omega
theorem decN_all : ∀ n, (decN n).all isD = true := by
  intro n
  induction n using Nat.strongRecOn with
  | ind n ih =>
    by_cases h : n < 10
    · rw [decN_lt h]; simp [dig_isD]
    · rw [decN_ge h, List.all_append, ih _ (by omega)]; simp [dig_isD]
theorem decN_num : ∀ n, numV (decN n) = n := by
  intro n
  induction n using Nat.strongRecOn with
  | ind n ih =>
    by_cases h : n < 10
    · rw [decN_lt h]
      have := dig_val n
      simp [numV]; omega
    · rw [decN_ge h, numV_snoc, ih _ (by omega), dig_val]; omega
theorem decN_len_lt : ∀ (k n : Nat), n < 10 ^ (k + 1) → (decN n).length ≤ k + 1
  | 0, n, h => by rw [decN_lt (by omega)]; simp
  | k + 1, n, h => by
    by_cases g : n < 10
    · rw [decN_lt g]; simp
    · have e : 10 ^ (k + 1 + 1) = 10 * 10 ^ (k + 1) := by rw [Nat.pow_succ, Nat.mul_comm]
      have := decN_len_lt k (n / 10) (by omega)
      rw [decN_ge g, List.length_append]; simp; omega
/-- The first digit is 0 only in the text of 0. -/
theorem decN_head : ∀ n, (decN n).head? = some 48 → n = 0 := by
  intro n
  induction n using Nat.strongRecOn with
  | ind n ih =>
    intro e
    by_cases h : n < 10
    · rw [decN_lt h] at e
      simp at e
      have h1 := dig_val n
      rw [e] at h1
      have h2 : (UInt8.toNat 48 : Int) = 48 := rfl
      omega
    · have h1 := decN_len (n / 10)
      rw [decN_ge h, List.head?_append] at e
      cases hl : decN (n / 10) with
      | nil => rw [hl] at h1; simp at h1
      | cons x l =>
      rw [hl] at e
      have e2 : (decN (n / 10)).head? = some 48 := by rw [hl]; simpa using e
      clear e
      have e := e2
      have := ih _ (by omega) e
      omega
theorem snoc_ind {α : Type} {P : List α → Prop} (h0 : P []) (h1 : ∀ l a, P l → P (l ++ [a])) (l : List α) : P l := by
  have key : ∀ l : List α, P l.reverse := by
    intro l
    induction l with
    | nil => exact h0
    | cons a l ih => rw [List.reverse_cons]; exact h1 _ _ ih
  rw [← List.reverse_reverse l]; exact key _
theorem numV_bd {l : List UInt8} (h : l.all isD = true) : 0 ≤ numV l ∧ numV l < 10 ^ l.length := by
  induction l using snoc_ind with
  | h0 => simp [numV]
  | h1 l c ih =>
    rw [List.all_append, Bool.and_eq_true] at h
    have h1 := ih h.1
    have h2 : isD c = true := by simpa using h.2
    rw [isD_iff] at h2
    rw [numV_snoc, List.length_append, List.length_singleton, Int.pow_succ]
    generalize (10 : Int) ^ l.length = z at *
    omega
/-- What 'number' asks of a text. -/
def nOk (l : List UInt8) : Bool := decide (l.length ≠ 0 ∧ l.length ≤ 9 ∧ ¬ (l.head? = some 48 ∧ 1 < l.length)) && l.all isD
def nV (l : List UInt8) : Int := if nOk l = true then numV l else 0
theorem nOk_dec {n : Nat} (h : n < 1000000000) : nOk (decN n) = true := by
  have h1 := decN_len n
  have h2 := decN_len_lt 8 n (by omega)
  unfold nOk
  rw [decN_all, Bool.and_true, decide_eq_true_eq]
  refine ⟨by omega, by omega, fun e => ?_⟩
  have := decN_head n e.1
  subst this
  have : (decN 0).length = 1 := by rw [decN_lt (by omega)]; rfl
  omega
theorem nV_dec {n : Nat} (h : n < 1000000000) : nV (decN n) = n := by
  unfold nV; rw [if_pos (nOk_dec h), decN_num]
theorem nV_bd (l : List UInt8) : 0 ≤ nV l ∧ nV l ≤ 999999999 := by
  unfold nV
  split
  · rename_i h
    unfold nOk at h
    rw [Bool.and_eq_true, decide_eq_true_eq] at h
    have h1 := numV_bd h.2
    have h2 : (10 : Int) ^ l.length ≤ 10 ^ 9 := by exact_mod_cast Nat.pow_le_pow_right (by omega) h.1.2.1
    omega
  · omega
end Go.Proofs.Ytpcabjjmphcpeaa
