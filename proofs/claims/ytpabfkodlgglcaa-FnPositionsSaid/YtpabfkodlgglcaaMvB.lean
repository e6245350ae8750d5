/- Contract: coordinates that are near, by the program. -/
import Derived.Test.YtpabfkodlgglcaaMvMath
import Derived.Test.YtpabfkodlgglcaaMvP
import Derived.Test.YtpabfkodlgglcaaPoB
namespace Go.Proofs.Ytpabfkodlgglcaa
open Go.RowKit

set_option maxHeartbeats 2000000 in
theorem movedTo_c (w : World) (o a nw b dr : Int) (ha : a = 99 ∨ a = 100) (hb : b = 99 ∨ b = 100) (n0 : 0 ≤ nw) (n1 : nw < b) (d0 : 0 ≤ dr) (d1 : dr ≤ 3)  : Calls Try.prog 60 #[.int .i64 o, .int .i64 a, .int .i64 nw, .int .i64 b, .int .i64 dr] w (GivesS w 3 1 (mvL o a dr nw b).length (ints (mvL o a dr nw b)) id) := by
  have hC := mvC_le hb n0 n1
  go_enter Try.func60, Try.ntmps60
  go_wp2
  go_loopw [11, 12] (fun ov iv wr => ∃ (i : Nat) (M : List Int) (B : Option Addr) (d : Nat), i ≤ mvC nw b ∧ iv = .int .i64 (nw + b * i) ∧ ov = .slice B M.length d ∧ Hid (M = mvN o a dr nw b i) ∧ Hid (wr.ownsRow (w.heap.size) 3 1 (.slice B M.length d) M.length (ints M)) ∧ Below w.heap.size w wr) (fun _ iv _ => (20000 - intOf iv).toNat)
  case atStart => exact ⟨0, [], _, _, by omega, by simp, rfl, hide rfl, hide (World.ownsRow_nil _ _ _ _), Below.refl _ _⟩
  case round =>
    obtain ⟨i, M, B, d, hi, rfl, rfl, HM, hown, hB⟩ := hrel
    have hrow := hown.out
    have hzw : w.heap.size ≤ wr.heap.size := hB.size
    have hiff := mvC_iff hb n0 n1 i
    obtain ⟨n, hn⟩ : ∃ n, nw + b * (i : Int) = n := ⟨_, rfl⟩
    have hn0 : 0 ≤ n := by rw [← hn]; rcases hb with rfl | rfl <;> omega
    have HN := hide hn
    rw [hn] at hiff ⊢
    have hstep : nw + b * ((i + 1 : Nat) : Int) = n + b := by rw [← hn, Int.natCast_add, Int.mul_add]; omega
    clear hn
    by_cases hle : n ≤ 9899
    rotate_left
    · have hge : ¬ i < mvC nw b := fun h => hle (hiff.2 h)
      obtain rfl : i = mvC nw b := by omega
      have HL := hide (show M = mvL o a dr nw b from HM.out)
      go_wp2
      go_returns
      rw [← HL.out]
      exact ⟨_, _, rfl, own_mono hown.out (by omega), hB⟩
    have hlt := hiff.1 hle
    clear hiff
    have ewn : IntKind.i64.wrap (n + b) = n + b := IntWalk.i64_in _ (by rcases hb with rfl | rfl <;> omega)
    have hb9 : 0 < b ∧ b ≤ 100 := by rcases hb with rfl | rfl <;> omega
    obtain ⟨hbp, hbq⟩ := hb9
    have HST := hide hstep
    clear hstep hrow
    go_wp2
    go_loopw [11, 13] (fun ov dv wr => ∃ (j : Nat) (M : List Int) (B : Option Addr) (d : Nat), j ≤ (2 * dr + 1).toNat ∧ dv = .int .i64 (-dr + j) ∧ ov = .slice B M.length d ∧ Hid (M = mvM o a dr nw b i n j) ∧ M.length ≤ 1000 ∧ Hid (wr.ownsRow (w.heap.size) 3 1 (.slice B M.length d) M.length (ints M)) ∧ Below w.heap.size w wr) (fun _ dv _ => (5 - intOf dv).toNat)
    case atStart => exact ⟨0, M, _, _, by omega, by simp, rfl, hide (by rw [mvM_zero]; exact HM.out), by rw [HM.out]; have := mvN_len o a dr nw b i; omega, hown, hB⟩
    case round =>
      obtain ⟨j, M, B, d, hj, rfl, rfl, HM, hM9, hown, hB⟩ := hrel
      have hzw : w.heap.size ≤ wr.heap.size := hB.size
      by_cases hjt : -dr + (j : Int) ≤ dr
      · rcases hw : wi (n + (-dr + (j : Int))) 0 9899 with _ | _
        · have HS := hide (show M = mvM o a dr nw b i n (j + 1) from by rw [mvM_step (by rw [mvP]; simp [*])]; exact HM.out)
          go_wp2_with (first | (go_at_call 50; refine (inPlace_c _ _).mono ?_; rintro e w1 ⟨rfl, rfl⟩))
          go_roundw
          case rel => exact ⟨j + 1, M, B, d, by omega, by go_num, rfl, HS, hM9, hown, hB⟩
          case measure => simp [intOf]; omega
        obtain ⟨w0, w1⟩ := wi_iff.1 hw
        have htm : (n + (-dr + (j : Int))).tmod a = (n + (-dr + (j : Int))) % a := Int.tmod_eq_emod_of_nonneg w0
        have han : ¬ a = 0 := by omega
        by_cases he : (n + (-dr + (j : Int))) % a = o
        rotate_left
        · have heb : ((n + (-dr + (j : Int))) % a == o) = false := beq_eq_false_iff_ne.2 he
          have HS := hide (show M = mvM o a dr nw b i n (j + 1) from by rw [mvM_step (by rw [mvP]; simp [*])]; exact HM.out)
          go_wp2_with (first | (go_at_call 50; refine (inPlace_c _ _).mono ?_; rintro e w1 ⟨rfl, rfl⟩))
          go_roundw
          case rel => exact ⟨j + 1, M, B, d, by omega, by go_num, rfl, HS, hM9, hown, hB⟩
          case measure => simp [intOf]; omega
        have heb : ((n + (-dr + (j : Int))) % a == o) = true := beq_iff_eq.2 he
        have HP1 := hide (show mvP o a dr n (j + 1) = true from by rw [mvP]; simp [*])
        rcases hp : mvP o a dr n j with _ | _
        · have HL := hide (show ∀ q, M.length = q + 1 → nth M q < n from by rw [HM.out]; exact mvM_less hbp HN.out hp)
          have HS := hide (show M ++ [n] = mvM o a dr nw b i n (j + 1) from by rw [mvM_put hp HP1.out, ← HM.out])
          have hM8 : (M ++ [n]).length ≤ 1000 := by rw [HS.out]; have := mvM_len (o := o) (a := a) (dr := dr) (nw := nw) (b := b) (i := i) (n := n) (j := j + 1); omega
          have hML : (M ++ [n]).length = M.length + 1 := by simp
          clear hp
          go_wp2_with (first | (go_at_call 50; refine (inPlace_c _ _).mono ?_; rintro e w1 ⟨rfl, rfl⟩) | (go_at_call 78; refine (putNew_c _ _ _ _ _ _ hown (by omega) (by omega) HL).mono ?_; rintro e w2 ⟨B2, d2, rfl, hown2, hb⟩; have hB2 : Below w.heap.size w w2 := hB.trans hb; clear hB hb; have hB := hB2; clear hB2; have HO2 := hide hown2; clear hown2))
          go_roundw
          case rel => exact ⟨j + 1, M ++ [n], B2, d2, by omega, by go_num, by rw [hML], HS, hM8, hide (by rw [hML]; exact HO2.out), hB⟩
          case measure => simp [intOf]; omega
        have HL := hide (show ∃ q, M.length = q + 1 ∧ nth M q = n from by rw [HM.out]; exact mvM_last hp)
        have HS := hide (show M = mvM o a dr nw b i n (j + 1) from by rw [mvM_step (by rw [HP1.out, hp])]; exact HM.out)
        clear hp
        go_wp2_with (first | (go_at_call 50; refine (inPlace_c _ _).mono ?_; rintro e w1 ⟨rfl, rfl⟩) | (go_at_call 78; refine (putSame_c _ _ _ _ _ _ hown (by omega) (by omega) HL).mono ?_; rintro e wz ⟨rfl, rfl⟩))
        go_roundw
        case rel => exact ⟨j + 1, M, B, d, by omega, by go_num, rfl, HS, hM9, hown, hB⟩
        case measure => simp [intOf]; omega
      obtain rfl : j = (2 * dr + 1).toNat := by omega
      have HS := hide (show M = mvN o a dr nw b (i + 1) from by rw [HM.out, ← HN.out]; exact mvM_end)
      go_wp2
      go_roundw
      case rel => exact ⟨i + 1, M, B, d, hlt, by rw [HST.out], rfl, HS, hown, hB⟩
      case measure => simp [intOf]; omega
end Go.Proofs.Ytpabfkodlgglcaa
