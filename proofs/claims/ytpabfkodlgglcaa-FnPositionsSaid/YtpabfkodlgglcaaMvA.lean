/- Contracts: coordinates that are near to those of an older report. -/
import Derived.Test.YtpabfkodlgglcaaMvMath
import Derived.Test.YtpabfkodlgglcaaPoB
import Derived.Test.YtpabfkodlgglcaaFloat
import Derived.Test.YtpabfkodlgglcaaApp
namespace Go.Proofs.Ytpabfkodlgglcaa
open Go.RowKit

theorem infoInt : (Try.prog.info? 3).map (fun i => (i.zero, i.size, i.bytes)) = some (some (.int .i64 0), 1, 8) := by kernel_rfl

set_option maxHeartbeats 2000000 in
theorem l7Moved_c (w : World) (o a nw b dr : Int) (ha : a = 99 ∨ a = 100) (hb : b = 99 ∨ b = 100) (n0 : 0 ≤ nw) (n1 : nw < b) (d0 : 0 ≤ dr) (d1 : dr ≤ 3)  : Calls Try.prog 65 #[.int .i64 o, .int .i64 a, .int .i64 nw, .int .i64 b, .int .i64 dr] w (GivesS w 3 1 (mvL o a dr nw b).length (ints (mvL o a dr nw b)) id) := by
  obtain ⟨i0, hi0, iz0, iy0, ix0⟩ := info_parts infoInt
  have hC := mvC_le hb n0 n1
  go_enter Try.func65, Try.ntmps65
  go_wp2
  go_loopw [11, 12] (fun ov iv wr => ∃ (i k : Nat) (B : Option Addr) (d : Nat), i ≤ mvC nw b ∧ iv = .int .i64 (nw + b * i) ∧ ov = .slice B k d ∧ k ≤ i ∧ Hid (wr.ownsRow (w.heap.size) 3 1 (.slice B k d) k (ints (mvN o a dr nw b i))) ∧ Below w.heap.size w wr) (fun _ iv _ => (20000 - intOf iv).toNat)
  case atStart =>
    refine ⟨0, 0, _, _, by omega, by simp, rfl, by omega, hide ?_, ?_⟩
    · exact own_empty _ (by simp) (by omega)
    · go_grown
  case round =>
    obtain ⟨i, k, B, d, hi, rfl, rfl, hki, hown, hB⟩ := hrel
    have hrow := hown.out
    have hzw : w.heap.size ≤ wr.heap.size := hB.size
    have hiff := mvC_iff hb n0 n1 i
    obtain ⟨n, hn⟩ : ∃ n, nw + b * (i : Int) = n := ⟨_, rfl⟩
    have hn0 : 0 ≤ n := by rw [← hn]; rcases hb with rfl | rfl <;> omega
    have HN := hide hn
    rw [hn] at hiff ⊢
    have hstep : nw + b * ((i + 1 : Nat) : Int) = n + b := by rw [← hn, Int.natCast_add, Int.mul_add]; omega
    clear hn
    by_cases hle : n ≤ 9899
    rotate_left
    · have hge : ¬ i < mvC nw b := fun h => hle (hiff.2 h)
      obtain rfl : i = mvC nw b := by omega
      have hk := own_len hown.out
      obtain rfl : k = (mvL o a dr nw b).length := by unfold mvL; rw [← hk, ints_len]
      go_wp2
      go_returns
      exact ⟨_, _, rfl, own_mono hown.out (by omega), hB⟩
    have hlt := hiff.1 hle
    clear hiff
    have ewn : IntKind.i64.wrap (n + b) = n + b := IntWalk.i64_in _ (by rcases hb with rfl | rfl <;> omega)
    have hb9 : 0 < b ∧ b ≤ 100 := by rcases hb with rfl | rfl <;> omega
    obtain ⟨hbp, hbq⟩ := hb9
    have HST := hide hstep
    clear hstep
    go_wp2
    go_loop [13, 14] (fun nv dv => ∃ j : Nat, j ≤ (2 * dr + 1).toNat ∧ dv = .int .i64 (-dr + j) ∧ nv = .bool (mvP o a dr n j)) (fun _ dv => (5 - intOf dv).toNat)
    case atStart => exact ⟨0, by omega, by simp, rfl⟩
    case round =>
      obtain ⟨j, hj, rfl, rfl⟩ := hrel
      by_cases hjt : -dr + (j : Int) ≤ dr
      · rcases hp : mvP o a dr n j with _ | _
        rotate_left
        · have HV := hide (show mvP o a dr n (j + 1) = true from by rw [mvP]; simp [*])
          go_wp2_with (first | (go_at_call 63; refine (l1In_c _ _ _ _).mono ?_; rintro e w1 ⟨rfl, rfl⟩))
          go_round
          case rel => exact ⟨j + 1, by omega, by go_num, by rw [HV.out]⟩
          case measure => simp [intOf]; omega
        rcases hw : wi (n + (-dr + (j : Int))) 0 9899 with _ | _
        · have HV := hide (show mvP o a dr n (j + 1) = false from by rw [mvP]; simp [*])
          go_wp2_with (first | (go_at_call 63; refine (l1In_c _ _ _ _).mono ?_; rintro e w1 ⟨rfl, rfl⟩))
          go_round
          case rel => exact ⟨j + 1, by omega, by go_num, by rw [HV.out]⟩
          case measure => simp [intOf]; omega
        obtain ⟨w0, w1⟩ := wi_iff.1 hw
        have htm : (n + (-dr + (j : Int))).tmod a = (n + (-dr + (j : Int))) % a := Int.tmod_eq_emod_of_nonneg w0
        have han : ¬ a = 0 := by omega
        by_cases he : (n + (-dr + (j : Int))) % a = o
        · have heb : ((n + (-dr + (j : Int))) % a == o) = true := beq_iff_eq.2 he
          have HV := hide (show mvP o a dr n (j + 1) = true from by rw [mvP]; simp [*])
          go_wp2_with (first | (go_at_call 63; refine (l1In_c _ _ _ _).mono ?_; rintro e w1 ⟨rfl, rfl⟩))
          go_round
          case rel => exact ⟨j + 1, by omega, by go_num, by rw [HV.out]⟩
          case measure => simp [intOf]; omega
        have heb : ((n + (-dr + (j : Int))) % a == o) = false := beq_eq_false_iff_ne.2 he
        have HV := hide (show mvP o a dr n (j + 1) = false from by rw [mvP]; simp [*])
        go_wp2_with (first | (go_at_call 63; refine (l1In_c _ _ _ _).mono ?_; rintro e w1 ⟨rfl, rfl⟩))
        go_round
        case rel => exact ⟨j + 1, by omega, by go_num, by rw [HV.out]⟩
        case measure => simp [intOf]; omega
      obtain rfl : j = (2 * dr + 1).toNat := by omega
      rcases hm : mvP o a dr n (2 * dr + 1).toNat with _ | _
      · go_wp2
        go_roundw
        case rel => exact ⟨i + 1, k, _, _, hlt, by rw [HST.out], rfl, by omega, hide (by rw [mvN_no (by rw [HN.out]; exact hm)]; exact hown.out), by go_grown⟩
        case measure => simp [intOf]; omega
      go_wp2_with (first | (at_builtin; refine wpList_append_lies _ rfl _ _ 81 rfl (w.heap.size) 3 i0 (.int .i64 0) 1 8 Try.underlying81 hi0 iz0 iy0 ix0 rfl (by decide) _ k _ rfl (hown.out.alloc _) ⟨wr.heap.size, 0, none⟩ 1 1 [.int .i64 n] rfl rfl (news_one (by simp [go_sem])) (by intro u hu; simp at hu; subst hu; rfl) (by decide) (by unfold maxLen; omega) (by omega) (by first | (simp [go_sem]; done) | (simp [go_sem]; omega)) _ rfl ?_; intro g cap w2 hown2 hgrow _ _; have hT : Below w.heap.size w w2 := own_grown (a := w) (B := w.heap.size) ((hown.out.alloc _)) hgrow (by go_grown) (by first | (simp [go_sem]; done) | (simp [go_sem]; omega)) (by omega); (try clear hS hB hzw hgrow); have hS := hT; clear hT; have hB := hS; have hzw : w.heap.size ≤ w2.heap.size := hB.size))
      go_roundw
      case rel => exact ⟨i + 1, k + 1, _, _, hlt, by rw [HST.out], rfl, by omega, hide (by rw [mvN_yes (by rw [HN.out]; exact hm), HN.out, ints_snoc]; exact hown2), by go_grown⟩
      case measure => simp [intOf]; omega
end Go.Proofs.Ytpabfkodlgglcaa
