/- Contracts: a text that is cut at each place of a byte. -/
import Derived.Test.YtpcabjjmphcpeaaSplMath
import Derived.Test.YtpcabjjmphcpeaaApp
import Derived.Test.YtpcabjjmphcpeaaFloat
import Derived.Test.YtpcabjjmphcpeaaProg
namespace Go.Proofs.Ytpcabjjmphcpeaa
open Go.RowKit

theorem infoTxt : (Try.prog.info? 9).map (fun i => (i.zero, i.size, i.bytes)) = some (some (.string ByteArray.empty), 1, 16) := by kernel_rfl

set_option maxHeartbeats 2000000 in
theorem split_c (w : World) (s : ByteArray) (b : Int) (hs : s.size ≤ 1048576)  : Calls Try.prog 65 #[.string s, .int .u8 b] w (GivesS w 9 1 (spL s b).length (strs (spL s b)) id) := by
  obtain ⟨i0, hi0, iz0, iy0, ix0⟩ := info_parts infoTxt
  go_enter Try.func65, Try.ntmps65
  go_wp2
  go_loopw [5, 6, 7] (fun ov fv iv wr => ∃ (i k f : Nat) (B : Option Addr) (d : Nat), i ≤ s.size ∧ iv = .int .i64 i ∧ fv = .int .i64 f ∧ ov = .slice B k d ∧ (k ≤ i ∧ f ≤ i) ∧ Hid ((spS s b i).2 = f) ∧ Hid (wr.ownsRow (w.heap.size) 9 1 (.slice B k d) k (strs (spS s b i).1)) ∧ Below w.heap.size w wr) (fun _ _ iv _ => s.size - (intOf iv).toNat)
  case atStart =>
    refine ⟨0, 0, 0, _, _, by omega, rfl, rfl, rfl, ⟨by omega, by omega⟩, hide rfl, hide ?_, ?_⟩
    · exact World.ownsRow_nil _ _ _ _
    · go_grown
  case round =>
    obtain ⟨i, k, f, B, d, hi, rfl, rfl, rfl, ⟨hki, hfi⟩, hf, hown, hB⟩ := hrel
    have hrow := hown.out
    have hzw : w.heap.size ≤ wr.heap.size := hB.size
    have hfs : f ≤ s.size := by omega
    by_cases hlt : i < s.size
    rotate_left
    · obtain rfl : i = s.size := by omega
      have hL := hide (show strs (spL s b) = strs (spS s b s.size).1 ++ [.string (s.extract f s.size)] from by unfold spL; rw [strs_snoc, hf.out])
      have hk := own_len hown.out
      rw [strs_len] at hk
      have hn := hide (show (spL s b).length = k + 1 from by unfold spL; simp; omega)
      clear hk
      go_wp2_with (first | (at_builtin; refine wpList_append_lies _ rfl _ _ 63 rfl (w.heap.size) 9 i0 (.string ByteArray.empty) 1 16 Try.underlying63 hi0 iz0 iy0 ix0 rfl (by decide) _ k _ rfl (hown.out.alloc _) ⟨wr.heap.size, 0, none⟩ 1 1 [.string (s.extract f s.size)] rfl rfl (news_one (by simp [go_sem])) (by intro u hu; simp at hu; subst hu; rfl) (by decide) (by unfold maxLen; omega) (by omega) (by first | (simp [go_sem]; done) | (simp [go_sem]; omega)) _ rfl ?_; intro g cap w2 hown2 hgrow _ _; have hT : Below w.heap.size w w2 := own_grown (a := w) (B := w.heap.size) ((hown.out.alloc _)) hgrow (by go_grown) (by first | (simp [go_sem]; done) | (simp [go_sem]; omega)) (by omega); (try clear hS hB hzw hgrow); have hS := hT; clear hT; have hB := hS; have hzw : w.heap.size ≤ w2.heap.size := hB.size))
      go_returns
      exact ⟨_, _, by rw [hn.out]; rfl, by rw [hn.out, hL.out]; exact own_mono hown2 (by omega), by go_grown⟩
    have hba := hide (byteAt_in hlt)
    by_cases c : (s[i].toNat : Int) = b
    · have cb : ((s[i].toNat : Int) == b) = true := beq_iff_eq.2 c
      have hst := hide (show spS s b (i + 1) = ((spS s b i).1 ++ [s.extract f i], i + 1) from by rw [spS, if_pos (hba.out.trans c), hf.out])
      clear c
      go_wp2_with (first | (at_builtin; refine wpList_append_lies _ rfl _ _ 63 rfl (w.heap.size) 9 i0 (.string ByteArray.empty) 1 16 Try.underlying63 hi0 iz0 iy0 ix0 rfl (by decide) _ k _ rfl (hown.out.alloc _) ⟨wr.heap.size, 0, none⟩ 1 1 [.string (s.extract f i)] rfl rfl (news_one (by simp [go_sem])) (by intro u hu; simp at hu; subst hu; rfl) (by decide) (by unfold maxLen; omega) (by omega) (by first | (simp [go_sem]; done) | (simp [go_sem]; omega)) _ rfl ?_; intro g cap w2 hown2 hgrow _ _; have hT : Below w.heap.size w w2 := own_grown (a := w) (B := w.heap.size) ((hown.out.alloc _)) hgrow (by go_grown) (by first | (simp [go_sem]; done) | (simp [go_sem]; omega)) (by omega); (try clear hS hB hzw hgrow); have hS := hT; clear hT; have hB := hS; have hzw : w.heap.size ≤ w2.heap.size := hB.size))
      go_roundw
      case rel => exact ⟨i + 1, k + 1, i + 1, _, _, by omega, by go_num, by go_num, rfl, ⟨by omega, by omega⟩, hide (by rw [hst.out]), hide (by rw [hst.out, strs_snoc]; exact hown2), by go_grown⟩
      case measure => simp [intOf]; omega
    have cb : ((s[i].toNat : Int) == b) = false := beq_eq_false_iff_ne.2 c
    have hst := hide (show spS s b (i + 1) = spS s b i from by rw [spS, if_neg (fun e => c (hba.out.symm.trans e))])
    clear c
    go_wp2
    go_roundw
    case rel => exact ⟨i + 1, k, f, _, _, by omega, by go_num, rfl, rfl, ⟨by omega, by omega⟩, hide (by rw [hst.out]; exact hf.out), hide (by rw [hst.out]; exact hown.out), by go_grown⟩
    case measure => simp [intOf]; omega

set_option maxHeartbeats 2000000 in
theorem l1Split_c (w : World) (s : ByteArray) (b : Int) (hs : s.size ≤ 1048576)  : Calls Try.prog 63 #[.string s, .int .u8 b] w (GivesS w 9 1 (spL s b).length (strs (spL s b)) id) := by
  obtain ⟨i0, hi0, iz0, iy0, ix0⟩ := info_parts infoTxt
  go_enter Try.func63, Try.ntmps63
  go_wp2
  go_loopw [5, 6, 7] (fun ov fv iv wr => ∃ (i k f : Nat) (B : Option Addr) (d : Nat), i ≤ s.size ∧ iv = .int .i64 i ∧ fv = .int .i64 f ∧ ov = .slice B k d ∧ (k ≤ i ∧ f ≤ i) ∧ Hid ((spS s b i).2 = f) ∧ Hid (wr.ownsRow (w.heap.size) 9 1 (.slice B k d) k (strs (spS s b i).1)) ∧ Below w.heap.size w wr) (fun _ _ iv _ => s.size - (intOf iv).toNat)
  case atStart =>
    refine ⟨0, 0, 0, _, _, by omega, rfl, rfl, rfl, ⟨by omega, by omega⟩, hide rfl, hide ?_, ?_⟩
    · exact own_empty _ (by simp) (by omega)
    · go_grown
  case round =>
    obtain ⟨i, k, f, B, d, hi, rfl, rfl, rfl, ⟨hki, hfi⟩, hf, hown, hB⟩ := hrel
    have hrow := hown.out
    have hzw : w.heap.size ≤ wr.heap.size := hB.size
    have hfs : f ≤ s.size := by omega
    by_cases hlt : i < s.size
    rotate_left
    · obtain rfl : i = s.size := by omega
      have hL := hide (show strs (spL s b) = strs (spS s b s.size).1 ++ [.string (s.extract f s.size)] from by unfold spL; rw [strs_snoc, hf.out])
      have hk := own_len hown.out
      rw [strs_len] at hk
      have hn := hide (show (spL s b).length = k + 1 from by unfold spL; simp; omega)
      clear hk
      go_wp2_with (first | (at_builtin; refine wpList_append_lies _ rfl _ _ 63 rfl (w.heap.size) 9 i0 (.string ByteArray.empty) 1 16 Try.underlying63 hi0 iz0 iy0 ix0 rfl (by decide) _ k _ rfl (hown.out.alloc _) ⟨wr.heap.size, 0, none⟩ 1 1 [.string (s.extract f s.size)] rfl rfl (news_one (by simp [go_sem])) (by intro u hu; simp at hu; subst hu; rfl) (by decide) (by unfold maxLen; omega) (by omega) (by first | (simp [go_sem]; done) | (simp [go_sem]; omega)) _ rfl ?_; intro g cap w2 hown2 hgrow _ _; have hT : Below w.heap.size w w2 := own_grown (a := w) (B := w.heap.size) ((hown.out.alloc _)) hgrow (by go_grown) (by first | (simp [go_sem]; done) | (simp [go_sem]; omega)) (by omega); (try clear hS hB hzw hgrow); have hS := hT; clear hT; have hB := hS; have hzw : w.heap.size ≤ w2.heap.size := hB.size))
      go_returns
      exact ⟨_, _, by rw [hn.out]; rfl, by rw [hn.out, hL.out]; exact own_mono hown2 (by omega), by go_grown⟩
    have hba := hide (byteAt_in hlt)
    by_cases c : (s[i].toNat : Int) = b
    · have cb : ((s[i].toNat : Int) == b) = true := beq_iff_eq.2 c
      have hst := hide (show spS s b (i + 1) = ((spS s b i).1 ++ [s.extract f i], i + 1) from by rw [spS, if_pos (hba.out.trans c), hf.out])
      clear c
      go_wp2_with (first | (at_builtin; refine wpList_append_lies _ rfl _ _ 63 rfl (w.heap.size) 9 i0 (.string ByteArray.empty) 1 16 Try.underlying63 hi0 iz0 iy0 ix0 rfl (by decide) _ k _ rfl (hown.out.alloc _) ⟨wr.heap.size, 0, none⟩ 1 1 [.string (s.extract f i)] rfl rfl (news_one (by simp [go_sem])) (by intro u hu; simp at hu; subst hu; rfl) (by decide) (by unfold maxLen; omega) (by omega) (by first | (simp [go_sem]; done) | (simp [go_sem]; omega)) _ rfl ?_; intro g cap w2 hown2 hgrow _ _; have hT : Below w.heap.size w w2 := own_grown (a := w) (B := w.heap.size) ((hown.out.alloc _)) hgrow (by go_grown) (by first | (simp [go_sem]; done) | (simp [go_sem]; omega)) (by omega); (try clear hS hB hzw hgrow); have hS := hT; clear hT; have hB := hS; have hzw : w.heap.size ≤ w2.heap.size := hB.size))
      go_roundw
      case rel => exact ⟨i + 1, k + 1, i + 1, _, _, by omega, by go_num, by go_num, rfl, ⟨by omega, by omega⟩, hide (by rw [hst.out]), hide (by rw [hst.out, strs_snoc]; exact hown2), by go_grown⟩
      case measure => simp [intOf]; omega
    have cb : ((s[i].toNat : Int) == b) = false := beq_eq_false_iff_ne.2 c
    have hst := hide (show spS s b (i + 1) = spS s b i from by rw [spS, if_neg (fun e => c (hba.out.symm.trans e))])
    clear c
    go_wp2
    go_roundw
    case rel => exact ⟨i + 1, k, f, _, _, by omega, by go_num, rfl, rfl, ⟨by omega, by omega⟩, hide (by rw [hst.out]; exact hf.out), hide (by rw [hst.out]; exact hown.out), by go_grown⟩
    case measure => simp [intOf]; omega
end Go.Proofs.Ytpcabjjmphcpeaa
