/- Texts of heights taken apart: plain. -/
import Derived.Test.YtpcabjjmphcpeaaReadMath
import Derived.Test.YtpcabjjmphcpeaaHeMath
namespace Go.Proofs.Ytpcabjjmphcpeaa
theorem ext_str (l : List UInt8) (a b : Nat) : ((str l).extract a b) = str ((l.drop a).take (b - a)) := ByteArray.extract_mk l a b
theorem ext_left (a b : ByteArray) : (a ++ b).extract 0 a.size = a := by
  obtain ⟨la, rfl⟩ : ∃ l, str l = a := ⟨_, of_list a⟩
  obtain ⟨lb, rfl⟩ : ∃ l, str l = b := ⟨_, of_list b⟩
  rw [str_app, ext_str, str_size]
  simp
theorem ext_right (a b : ByteArray) : (a ++ b).extract a.size (a ++ b).size = b := by
  obtain ⟨la, rfl⟩ : ∃ l, str l = a := ⟨_, of_list a⟩
  obtain ⟨lb, rfl⟩ : ∃ l, str l = b := ⟨_, of_list b⟩
  rw [str_app, ext_str, str_size, str_size]
  simp
theorem txtL_head (n : Int) : (txtL n).head? ≠ some 70 := by
  intro e
  unfold txtL at e
  split at e
  · simp at e
  · have h1 := decN_all n.toNat
    rw [List.all_eq_true] at h1
    exact absurd (h1 70 (List.mem_of_mem_head? e)) (by decide)
theorem txtL_pos (n : Int) : 1 ≤ (txtL n).length := by
  unfold txtL; split
  · simp
  · exact (decN_len _).1
theorem txtL_len {n : Int} (h0 : -999999 ≤ n) (h1 : n ≤ 999999) : (txtL n).length ≤ 7 := by
  unfold txtL; split
  · have := decN_len_lt 5 (-n).toNat (by omega)
    simp; omega
  · have := decN_len_lt 5 n.toNat (by omega)
    omega
theorem fl_no {n : Int} {c : ByteArray} (hc : 1 ≤ c.size) : ((txtS n ++ c).extract 0 2).toList ≠ [70, 76] := by
  obtain ⟨lc, rfl⟩ : ∃ l, str l = c := ⟨_, of_list c⟩
  rw [txtS_str, str_app, ext_str, ByteArray.toList_eq, str_list]
  intro e
  have h1 := txtL_pos n
  have h2 := txtL_head n
  cases hl : txtL n with
  | nil => rw [hl] at h1; simp at h1
  | cons x l =>
    rw [hl] at e h2
    simp at e
    simp at h2
    exact h2 e.1
end Go.Proofs.Ytpcabjjmphcpeaa
