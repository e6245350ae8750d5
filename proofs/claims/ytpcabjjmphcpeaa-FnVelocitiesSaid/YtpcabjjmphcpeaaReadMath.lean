/- Reading decimal texts, signs too. -/
import Derived.Test.YtpcabjjmphcpeaaNumMath
import Derived.Test.YtpcabjjmphcpeaaTxt
namespace Go.Proofs.Ytpcabjjmphcpeaa
theorem head_at (s : ByteArray) (h : 0 < s.size) : s.data.toList.head? = some s[0] := by
  have e : s.data.toList = s[0] :: s.data.toList.tail := by
    have h2 := take_snoc s 0 h
    have h3 : s.data.toList ≠ [] := by
      intro e
      have h4 : s.data.toList.length = 0 := by rw [e]; rfl
      have h5 : s.data.toList.length = s.size := by simp
      omega
    cases hl : s.data.toList with
    | nil => exact absurd hl h3
    | cons a l => rw [hl] at h2; simp at h2; simp [h2]
  rw [e]; rfl
theorem len_list (s : ByteArray) : s.data.toList.length = s.size := by simp
theorem dig_no {s : ByteArray} {i : Nat} (h : i < s.size) (hd : isD s[i] = false) : s.data.toList.all isD = false := by
  rw [Bool.eq_false_iff]
  intro e
  rw [List.all_eq_true] at e
  have := e _ (List.getElem_mem (l := s.data.toList) (n := i) (by simpa using h))
  have h2 : isD s[i] = true := this
  rw [hd] at h2; cases h2
theorem isD_lo {c : UInt8} (h : (c.toNat : Int) < 48) : isD c = false := by
  rw [Bool.eq_false_iff]; intro e; have := isD_iff.1 e; omega
theorem isD_hi {c : UInt8} (h : (c.toNat : Int) > 57) : isD c = false := by
  rw [Bool.eq_false_iff]; intro e; have := isD_iff.1 e; omega
theorem all_snoc {s : ByteArray} {i : Nat} (h : i < s.size) (ha : (s.data.toList.take i).all isD = true) (h0 : 48 ≤ (s[i].toNat : Int)) (h1 : (s[i].toNat : Int) ≤ 57) : (s.data.toList.take (i + 1)).all isD = true := by
  rw [take_snoc s i h, List.all_append, ha]
  simp [isD_iff.2 ⟨h0, h1⟩]
theorem num_snoc {s : ByteArray} {i : Nat} (h : i < s.size) : numV (s.data.toList.take (i + 1)) = 10 * numV (s.data.toList.take i) + ((s[i].toNat : Int) - 48) := by
  rw [take_snoc s i h, numV_snoc]
theorem num_small {s : ByteArray} {i k : Nat} (ha : (s.data.toList.take i).all isD = true) (hk : s.size ≤ k) (h9 : k ≤ 9) : 0 ≤ numV (s.data.toList.take i) ∧ numV (s.data.toList.take i) ≤ 999999999 := by
  have h1 := numV_bd ha
  have h3 : (s.data.toList.take i).length ≤ 9 := by
    have := len_list s
    rw [List.length_take]; omega
  have h2 : (10 : Int) ^ (s.data.toList.take i).length ≤ 10 ^ 9 := by exact_mod_cast Nat.pow_le_pow_right (by omega) h3
  omega
theorem take_all (s : ByteArray) {i : Nat} (h : s.size ≤ i) : s.data.toList.take i = s.data.toList := List.take_of_length_le (by rw [len_list]; exact h)
/-- What 'l1Read' makes of a text. -/
def isNeg (l : List UInt8) : Prop := 1 < l.length ∧ l.head? = some 45
instance (l : List UInt8) : Decidable (isNeg l) := inferInstanceAs (Decidable (_ ∧ _))
def stripL (l : List UInt8) : List UInt8 := if isNeg l then l.tail else l
def rdN (l : List UInt8) : Int := if isNeg l then -numV (stripL l) else numV (stripL l)
def rdK (l : List UInt8) : Bool := decide (1 ≤ (stripL l).length ∧ (stripL l).length ≤ 6) && ((stripL l).all isD && decide (txtL (rdN l) = l))
def rdV (l : List UInt8) : Int := if rdK l = true then rdN l else 0
theorem decN_notNeg (n : Nat) : ¬ isNeg (decN n) := by
  rintro ⟨_, h⟩
  have h1 := decN_all n
  rw [List.all_eq_true] at h1
  have h2 := h1 45 (List.mem_of_mem_head? h)
  exact absurd h2 (by decide)
theorem rd_txt {n : Int} (h0 : -999999 ≤ n) (h1 : n ≤ 999999) : rdK (txtL n) = true ∧ rdV (txtL n) = n := by
  have key : rdN (txtL n) = n ∧ 1 ≤ (stripL (txtL n)).length ∧ (stripL (txtL n)).length ≤ 6 ∧ (stripL (txtL n)).all isD = true := by
    by_cases h : n < 0
    · have e : txtL n = 45 :: decN (-n).toNat := by unfold txtL; rw [if_pos h]
      have l1 := decN_len (-n).toNat
      have l2 := decN_len_lt 5 (-n).toNat (by omega)
      have hn : isNeg (txtL n) := by rw [e]; exact ⟨by simp; omega, rfl⟩
      have es : stripL (txtL n) = decN (-n).toNat := by unfold stripL; rw [if_pos hn, e]; rfl
      refine ⟨?_, by rw [es]; omega, by rw [es]; omega, by rw [es]; exact decN_all _⟩
      unfold rdN; rw [if_pos hn, es, decN_num]; omega
    · have e : txtL n = decN n.toNat := by unfold txtL; rw [if_neg h]
      have l1 := decN_len n.toNat
      have l2 := decN_len_lt 5 n.toNat (by omega)
      have hn : ¬ isNeg (txtL n) := by rw [e]; exact decN_notNeg _
      have es : stripL (txtL n) = decN n.toNat := by unfold stripL; rw [if_neg hn, e]
      refine ⟨?_, by rw [es]; omega, by rw [es]; omega, by rw [es]; exact decN_all _⟩
      unfold rdN; rw [if_neg hn, es, decN_num]; omega
  have hk : rdK (txtL n) = true := by
    unfold rdK; rw [key.1, key.2.2.2]; simp [key.2.1, key.2.2.1]
  exact ⟨hk, by unfold rdV; rw [if_pos hk]; exact key.1⟩
theorem rdV_bd (l : List UInt8) : -999999 ≤ rdV l ∧ rdV l ≤ 999999 := by
  unfold rdV
  split
  · rename_i h
    unfold rdK at h
    rw [Bool.and_eq_true, Bool.and_eq_true, decide_eq_true_eq] at h
    have h1 := numV_bd h.2.1
    have h2 : (10 : Int) ^ (stripL l).length ≤ 10 ^ 6 := by exact_mod_cast Nat.pow_le_pow_right (by omega) h.1.2
    unfold rdN
    split <;> omega
  · omega
theorem tail_list (s : ByteArray) : (s.extract 1 s.size).data.toList = s.data.toList.tail := by
  have h := ByteArray.extract_mk s.data.toList 1 s.size
  have e : (ByteArray.mk s.data.toList.toArray) = s := by cases s; simp
  rw [e] at h
  rw [h]
  have h2 : (ByteArray.mk (List.take (s.size - 1) (List.drop 1 s.data.toList)).toArray).data.toList = List.take (s.size - 1) (List.drop 1 s.data.toList) := by simp
  rw [h2, List.drop_one, List.take_of_length_le (by rw [List.length_tail, len_list]; omega)]
theorem txtS_eq {n : Int} {s : ByteArray} (h : txtL n = s.data.toList) : txtS n = s := by
  rw [txtS_str, h, of_list]
theorem txtS_ne {n : Int} {s : ByteArray} (h : ¬ txtL n = s.data.toList) : ((txtS n).toList == s.toList) = false := by
  rw [ByteArray.toList_eq, ByteArray.toList_eq, txtS_str, str_list]
  simpa using h
/-- What 'ParseInt' makes of a text. -/
def neg0 (l : List UInt8) : Prop := l.head? = some 45
instance (l : List UInt8) : Decidable (neg0 l) := inferInstanceAs (Decidable (_ = _))
def strip0 (l : List UInt8) : List UInt8 := if neg0 l then l.tail else l
def piK (l : List UInt8) : Bool := nOk (strip0 l) && (decide (nV (strip0 l) ≤ 999999) && decide (¬ (nV (strip0 l) = 0 ∧ neg0 l)))
def piV (l : List UInt8) : Int := if piK l = true then (if neg0 l then -nV (strip0 l) else nV (strip0 l)) else 0
theorem piV_bd (l : List UInt8) : -999999 ≤ piV l ∧ piV l ≤ 999999 := by
  unfold piV
  split
  · rename_i h
    unfold piK at h
    rw [Bool.and_eq_true, Bool.and_eq_true, decide_eq_true_eq] at h
    have h1 := nV_bd (strip0 l)
    split <;> omega
  · omega
theorem pi_txt {n : Int} (h0 : -999999 ≤ n) (h1 : n ≤ 999999) : piK (txtL n) = true ∧ piV (txtL n) = n := by
  by_cases h : n < 0
  · have e : txtL n = 45 :: decN (-n).toNat := by unfold txtL; rw [if_pos h]
    have hn : neg0 (txtL n) := by rw [e]; rfl
    have es : strip0 (txtL n) = decN (-n).toNat := by unfold strip0; rw [if_pos hn, e]; rfl
    have ev := nV_dec (n := (-n).toNat) (by omega)
    have hk : piK (txtL n) = true := by
      unfold piK; rw [es, nOk_dec (by omega), ev]
      simp; omega
    exact ⟨hk, by unfold piV; rw [if_pos hk, if_pos hn, es, ev]; omega⟩
  · have e : txtL n = decN n.toNat := by unfold txtL; rw [if_neg h]
    have hn : ¬ neg0 (txtL n) := by
      rw [e]
      intro h2
      have h3 := decN_all n.toNat
      rw [List.all_eq_true] at h3
      exact absurd (h3 45 (List.mem_of_mem_head? h2)) (by decide)
    have es : strip0 (txtL n) = decN n.toNat := by unfold strip0; rw [if_neg hn, e]
    have ev := nV_dec (n := n.toNat) (by omega)
    have hk : piK (txtL n) = true := by
      unfold piK; rw [es, nOk_dec (by omega), ev]
      simp [hn]; omega
    exact ⟨hk, by unfold piV; rw [if_pos hk, if_neg hn, es, ev]; omega⟩
end Go.Proofs.Ytpcabjjmphcpeaa
