/- Contracts: reading a height, by the reference. -/
import Derived.Test.YthgnnldokdddfaaPhMath
import Derived.Test.YthgnnldokdddfaaNumB
import Derived.Test.YthgnnldokdddfaaPhA
namespace Go.Proofs.Ythgnnldokdddfaa
open Go.RowKit

set_option maxHeartbeats 2000000 in
theorem phYes_s (h : Int) (s : ByteArray) (hh : isH h = true) (hs : hT h = s) (w : World) : Calls Try.prog 18 #[.string s] w (Gives w (.tuple #[.int .i64 h, .bool true])) := by
  obtain ⟨k0, k1⟩ := wi_iff.1 hh
  have t32 : (ByteArray.mk #[32, 102, 116]).toList = [32, 102, 116] := ByteArray.toList_mk _
  have t70 : (ByteArray.mk #[70, 76]).toList = [70, 76] := ByteArray.toList_mk _
  by_cases g : h ≥ 10000 ∧ h % 100 = 0
  · obtain ⟨m, hm⟩ : ∃ m, h / 100 = m := ⟨_, rfl⟩
    obtain ⟨A, hA⟩ : ∃ A, txtS m = A := ⟨_, rfl⟩
    have hs2 : ⟨#[70, 76]⟩ ++ A = s := by rw [← hs, hT, if_pos g, hm, hA]
    have hAL : A.data.toList = txtL m := by rw [← hA, txtS_str, str_list]
    have a0 := txtL_pos m
    have a1 := txtL_len (n := m) (by omega) (by omega)
    rw [← hAL, len_list] at a0 a1
    have hsz : s.size = 2 + A.size := by rw [← hs2, ByteArray.size_append, size2]
    have x1 : s.extract 0 2 = ⟨#[70, 76]⟩ := by rw [← hs2]; exact ext_left ⟨#[70, 76]⟩ A
    have x2 : s.extract 2 s.size = A := by rw [← hs2]; exact ext_right ⟨#[70, 76]⟩ A
    have q1 : 2 < s.size := by omega
    have q2 : s.size ≤ 12 := by omega
    have v1 : rdV A.data.toList = m := by rw [hAL]; exact (rd_txt (by omega) (by omega)).2
    have v2 : rdK A.data.toList = true := by rw [hAL]; exact (rd_txt (by omega) (by omega)).1
    have hmh : 100 * m = h := by omega
    have m0 : 0 ≤ m := by omega
    have m1 : m ≤ 1300 := by omega
    clear hs2 hA hAL hm g hsz a0 a1
    go_enter Try.func18, Try.ntmps18
    go_wp2_with (first | (go_at_call 52; refine (l1Read_c _ _).mono ?_; rintro e w1 ⟨rfl, hb⟩; have hT : Below w.heap.size w w1 := keep0 (by first | assumption | go_grown) hb; (try clear hS); have hS := hT; clear hT; have hB := hS; have hzw := hB.size; clear hb) | (go_at_call 41; refine (l6Height_c _ _).mono ?_; rintro e w1 ⟨rfl, rfl⟩) | (go_at_call 42; refine (l6Text_c _ k0 k1 _).mono ?_; rintro e w1 ⟨rfl, hb⟩; have hT : Below w.heap.size w w1 := keep0 (by first | assumption | go_grown) hb; (try clear hS); have hS := hT; clear hT; have hB := hS; have hzw := hB.size; clear hb))
    go_returns
    exact ⟨ret_eq (by simp), by go_grown⟩
  obtain ⟨A, hA⟩ : ∃ A, txtS h = A := ⟨_, rfl⟩
  have hs2 : A ++ ⟨#[32, 102, 116]⟩ = s := by rw [← hs, hT, if_neg g, hA]
  have hAL : A.data.toList = txtL h := by rw [← hA, txtS_str, str_list]
  have a0 := txtL_pos h
  have a1 := txtL_len (n := h) (by omega) (by omega)
  rw [← hAL, len_list] at a0 a1
  have hsz : s.size = A.size + 3 := by rw [← hs2, ByteArray.size_append, size3]
  have x0 : ((s.extract 0 2).toList == [70, 76]) = false := by rw [beq_eq_false_iff_ne, ← hs2, ← hA]; exact fl_no (by rw [size3]; omega)
  have x3 : s.extract (s.size - 3) s.size = ⟨#[32, 102, 116]⟩ := by
    rw [show s.size - 3 = A.size from by omega, ← hs2]; exact ext_right A ⟨#[32, 102, 116]⟩
  have x4 : s.extract 0 (s.size - 3) = A := by
    rw [show s.size - 3 = A.size from by omega, ← hs2]; exact ext_left A ⟨#[32, 102, 116]⟩
  have x5 : ((s.size : Int) - 3).toNat = s.size - 3 := by omega
  have q1 : 3 < s.size := by omega
  have q2 : s.size ≤ 12 := by omega
  have v1 : rdV A.data.toList = h := by rw [hAL]; exact (rd_txt (by omega) (by omega)).2
  have v2 : rdK A.data.toList = true := by rw [hAL]; exact (rd_txt (by omega) (by omega)).1
  clear hs2 hA hAL g hsz a0 a1
  go_enter Try.func18, Try.ntmps18
  go_wp2_with (first | (go_at_call 52; refine (l1Read_c _ _).mono ?_; rintro e w1 ⟨rfl, hb⟩; have hT : Below w.heap.size w w1 := keep0 (by first | assumption | go_grown) hb; (try clear hS); have hS := hT; clear hT; have hB := hS; have hzw := hB.size; clear hb) | (go_at_call 41; refine (l6Height_c _ _).mono ?_; rintro e w1 ⟨rfl, rfl⟩) | (go_at_call 42; refine (l6Text_c _ k0 k1 _).mono ?_; rintro e w1 ⟨rfl, hb⟩; have hT : Below w.heap.size w w1 := keep0 (by first | assumption | go_grown) hb; (try clear hS); have hS := hT; clear hT; have hB := hS; have hzw := hB.size; clear hb))
  go_returns
  exact ⟨ret_eq (by simp), by go_grown⟩

set_option maxHeartbeats 2000000 in
theorem phNo_s (s : ByteArray) (hs20 : s.size ≤ 1048576) (hno : Hid (∀ h, isH h = true → hT h ≠ s)) (w : World) : Calls Try.prog 18 #[.string s] w (Gives w (.tuple #[.int .i64 0, .bool false])) := by
  have t32 : (ByteArray.mk #[32, 102, 116]).toList = [32, 102, 116] := ByteArray.toList_mk _
  have t70 : (ByteArray.mk #[70, 76]).toList = [70, 76] := ByteArray.toList_mk _
  by_cases q12 : s.size > 12
  · go_enter Try.func18, Try.ntmps18
    go_wp2_with (first | (go_at_call 52; refine (l1Read_c _ _).mono ?_; rintro e w1 ⟨rfl, hb⟩; have hT : Below w.heap.size w w1 := keep0 (by first | assumption | go_grown) hb; (try clear hS); have hS := hT; clear hT; have hB := hS; have hzw := hB.size; clear hb) | (go_at_call 41; refine (l6Height_c _ _).mono ?_; rintro e w1 ⟨rfl, rfl⟩) | (go_at_call 42; refine (l6Text_c _ (by omega) (by omega) _).mono ?_; rintro e w1 ⟨rfl, hb⟩; have hT : Below w.heap.size w w1 := keep0 (by first | assumption | go_grown) hb; (try clear hS); have hS := hT; clear hT; have hB := hS; have hzw := hB.size; clear hb))
    go_returns
    exact ⟨ret_eq (by simp), by go_grown⟩
  by_cases q1 : 2 < s.size
  rotate_left
  · go_enter Try.func18, Try.ntmps18
    go_wp2_with (first | (go_at_call 52; refine (l1Read_c _ _).mono ?_; rintro e w1 ⟨rfl, hb⟩; have hT : Below w.heap.size w w1 := keep0 (by first | assumption | go_grown) hb; (try clear hS); have hS := hT; clear hT; have hB := hS; have hzw := hB.size; clear hb) | (go_at_call 41; refine (l6Height_c _ _).mono ?_; rintro e w1 ⟨rfl, rfl⟩) | (go_at_call 42; refine (l6Text_c _ (by omega) (by omega) _).mono ?_; rintro e w1 ⟨rfl, hb⟩; have hT : Below w.heap.size w w1 := keep0 (by first | assumption | go_grown) hb; (try clear hS); have hS := hT; clear hT; have hB := hS; have hzw := hB.size; clear hb))
    go_returns
    exact ⟨ret_eq (by simp), by go_grown⟩
  by_cases x0 : (s.extract 0 2).toList = [70, 76]
  · have x0b : ((s.extract 0 2).toList == [70, 76]) = true := by rw [x0]; rfl
    clear x0
    obtain ⟨A, hA⟩ : ∃ A, s.extract 2 s.size = A := ⟨_, rfl⟩
    obtain ⟨V, hV⟩ : ∃ V, rdV A.data.toList = V := ⟨_, rfl⟩
    obtain ⟨v0, v1⟩ := hV ▸ rdV_bd A.data.toList
    rcases ko : rdK A.data.toList with _ | _
    · go_enter Try.func18, Try.ntmps18
      go_wp2_with (first | (go_at_call 52; refine (l1Read_c _ _).mono ?_; rintro e w1 ⟨rfl, hb⟩; have hT : Below w.heap.size w w1 := keep0 (by first | assumption | go_grown) hb; (try clear hS); have hS := hT; clear hT; have hB := hS; have hzw := hB.size; clear hb) | (go_at_call 41; refine (l6Height_c _ _).mono ?_; rintro e w1 ⟨rfl, rfl⟩) | (go_at_call 42; refine (l6Text_c _ (by omega) (by omega) _).mono ?_; rintro e w1 ⟨rfl, hb⟩; have hT : Below w.heap.size w w1 := keep0 (by first | assumption | go_grown) hb; (try clear hS); have hS := hT; clear hT; have hB := hS; have hzw := hB.size; clear hb))
      go_returns
      exact ⟨ret_eq (by simp), by go_grown⟩
    obtain ⟨W, hW⟩ : ∃ W, 100 * V = W := ⟨_, rfl⟩
    have ew : IntKind.i64.wrap W = W := IntWalk.i64_in _ (by omega)
    rcases k : isH W with _ | _
    · go_enter Try.func18, Try.ntmps18
      go_wp2_with (first | (go_at_call 52; refine (l1Read_c _ _).mono ?_; rintro e w1 ⟨rfl, hb⟩; have hT : Below w.heap.size w w1 := keep0 (by first | assumption | go_grown) hb; (try clear hS); have hS := hT; clear hT; have hB := hS; have hzw := hB.size; clear hb) | (go_at_call 41; refine (l6Height_c _ _).mono ?_; rintro e w1 ⟨rfl, rfl⟩) | (go_at_call 42; refine (l6Text_c _ (by omega) (by omega) _).mono ?_; rintro e w1 ⟨rfl, hb⟩; have hT : Below w.heap.size w w1 := keep0 (by first | assumption | go_grown) hb; (try clear hS); have hS := hT; clear hT; have hB := hS; have hzw := hB.size; clear hb))
      go_returns
      exact ⟨ret_eq (by simp), by go_grown⟩
    obtain ⟨k0, k1⟩ := wi_iff.1 k
    have hne : ((hT W).toList == s.toList) = false := toList_bne (hno.out _ k)
    go_enter Try.func18, Try.ntmps18
    go_wp2_with (first | (go_at_call 52; refine (l1Read_c _ _).mono ?_; rintro e w1 ⟨rfl, hb⟩; have hT : Below w.heap.size w w1 := keep0 (by first | assumption | go_grown) hb; (try clear hS); have hS := hT; clear hT; have hB := hS; have hzw := hB.size; clear hb) | (go_at_call 41; refine (l6Height_c _ _).mono ?_; rintro e w1 ⟨rfl, rfl⟩) | (go_at_call 42; refine (l6Text_c _ k0 k1 _).mono ?_; rintro e w1 ⟨rfl, hb⟩; have hT : Below w.heap.size w w1 := keep0 (by first | assumption | go_grown) hb; (try clear hS); have hS := hT; clear hT; have hB := hS; have hzw := hB.size; clear hb))
    go_returns
    exact ⟨ret_eq (by simp), by go_grown⟩
  have x0b : ((s.extract 0 2).toList == [70, 76]) = false := by rw [beq_eq_false_iff_ne]; exact x0
  clear x0
  by_cases q3 : 3 < s.size
  rotate_left
  · go_enter Try.func18, Try.ntmps18
    go_wp2_with (first | (go_at_call 52; refine (l1Read_c _ _).mono ?_; rintro e w1 ⟨rfl, hb⟩; have hT : Below w.heap.size w w1 := keep0 (by first | assumption | go_grown) hb; (try clear hS); have hS := hT; clear hT; have hB := hS; have hzw := hB.size; clear hb) | (go_at_call 41; refine (l6Height_c _ _).mono ?_; rintro e w1 ⟨rfl, rfl⟩) | (go_at_call 42; refine (l6Text_c _ (by omega) (by omega) _).mono ?_; rintro e w1 ⟨rfl, hb⟩; have hT : Below w.heap.size w w1 := keep0 (by first | assumption | go_grown) hb; (try clear hS); have hS := hT; clear hT; have hB := hS; have hzw := hB.size; clear hb))
    go_returns
    exact ⟨ret_eq (by simp), by go_grown⟩
  have x5 : ((s.size : Int) - 3).toNat = s.size - 3 := by omega
  by_cases x3 : (s.extract (s.size - 3) s.size).toList = [32, 102, 116]
  rotate_left
  · have x3b : ((s.extract (s.size - 3) s.size).toList == [32, 102, 116]) = false := by rw [beq_eq_false_iff_ne]; exact x3
    clear x3
    go_enter Try.func18, Try.ntmps18
    go_wp2_with (first | (go_at_call 52; refine (l1Read_c _ _).mono ?_; rintro e w1 ⟨rfl, hb⟩; have hT : Below w.heap.size w w1 := keep0 (by first | assumption | go_grown) hb; (try clear hS); have hS := hT; clear hT; have hB := hS; have hzw := hB.size; clear hb) | (go_at_call 41; refine (l6Height_c _ _).mono ?_; rintro e w1 ⟨rfl, rfl⟩) | (go_at_call 42; refine (l6Text_c _ (by omega) (by omega) _).mono ?_; rintro e w1 ⟨rfl, hb⟩; have hT : Below w.heap.size w w1 := keep0 (by first | assumption | go_grown) hb; (try clear hS); have hS := hT; clear hT; have hB := hS; have hzw := hB.size; clear hb))
    go_returns
    exact ⟨ret_eq (by simp), by go_grown⟩
  have x3b : ((s.extract (s.size - 3) s.size).toList == [32, 102, 116]) = true := by rw [x3]; rfl
  clear x3
  obtain ⟨A, hA⟩ : ∃ A, s.extract 0 (s.size - 3) = A := ⟨_, rfl⟩
  obtain ⟨V, hV⟩ : ∃ V, rdV A.data.toList = V := ⟨_, rfl⟩
  obtain ⟨v0, v1⟩ := hV ▸ rdV_bd A.data.toList
  rcases ko : rdK A.data.toList with _ | _
  · go_enter Try.func18, Try.ntmps18
    go_wp2_with (first | (go_at_call 52; refine (l1Read_c _ _).mono ?_; rintro e w1 ⟨rfl, hb⟩; have hT : Below w.heap.size w w1 := keep0 (by first | assumption | go_grown) hb; (try clear hS); have hS := hT; clear hT; have hB := hS; have hzw := hB.size; clear hb) | (go_at_call 41; refine (l6Height_c _ _).mono ?_; rintro e w1 ⟨rfl, rfl⟩) | (go_at_call 42; refine (l6Text_c _ (by omega) (by omega) _).mono ?_; rintro e w1 ⟨rfl, hb⟩; have hT : Below w.heap.size w w1 := keep0 (by first | assumption | go_grown) hb; (try clear hS); have hS := hT; clear hT; have hB := hS; have hzw := hB.size; clear hb))
    go_returns
    exact ⟨ret_eq (by simp), by go_grown⟩
  rcases k : isH V with _ | _
  · go_enter Try.func18, Try.ntmps18
    go_wp2_with (first | (go_at_call 52; refine (l1Read_c _ _).mono ?_; rintro e w1 ⟨rfl, hb⟩; have hT : Below w.heap.size w w1 := keep0 (by first | assumption | go_grown) hb; (try clear hS); have hS := hT; clear hT; have hB := hS; have hzw := hB.size; clear hb) | (go_at_call 41; refine (l6Height_c _ _).mono ?_; rintro e w1 ⟨rfl, rfl⟩) | (go_at_call 42; refine (l6Text_c _ (by omega) (by omega) _).mono ?_; rintro e w1 ⟨rfl, hb⟩; have hT : Below w.heap.size w w1 := keep0 (by first | assumption | go_grown) hb; (try clear hS); have hS := hT; clear hT; have hB := hS; have hzw := hB.size; clear hb))
    go_returns
    exact ⟨ret_eq (by simp), by go_grown⟩
  obtain ⟨k0, k1⟩ := wi_iff.1 k
  have hne : ((hT V).toList == s.toList) = false := toList_bne (hno.out _ k)
  go_enter Try.func18, Try.ntmps18
  go_wp2_with (first | (go_at_call 52; refine (l1Read_c _ _).mono ?_; rintro e w1 ⟨rfl, hb⟩; have hT : Below w.heap.size w w1 := keep0 (by first | assumption | go_grown) hb; (try clear hS); have hS := hT; clear hT; have hB := hS; have hzw := hB.size; clear hb) | (go_at_call 41; refine (l6Height_c _ _).mono ?_; rintro e w1 ⟨rfl, rfl⟩) | (go_at_call 42; refine (l6Text_c _ k0 k1 _).mono ?_; rintro e w1 ⟨rfl, hb⟩; have hT : Below w.heap.size w w1 := keep0 (by first | assumption | go_grown) hb; (try clear hS); have hS := hT; clear hT; have hB := hS; have hzw := hB.size; clear hb))
  go_returns
  exact ⟨ret_eq (by simp), by go_grown⟩
end Go.Proofs.Ythgnnldokdddfaa
