/- Contracts: marks in lists. -/
import Derived.Test.YtnocgcfepkdjeaaSiC
namespace Go.Proofs.Ytnocgcfepkdjeaa
open Go.RowKit

theorem markIntS_c (A : Option Addr) (c n base : Nat) (xs : List Value) (k : Int) (w : World) (hown : Hid (w.ownsRow base 3 1 (.slice A n c) n xs)) (bn : n ≤ 4000000) (b2 : 0 ≤ k) (b3 : k ≤ 100000000)  : Calls Try.prog 46 #[.slice A n c, .int .i64 k] w (fun e w' => e = .returned (.int .i64 (k + (n : Nat))) ∧ w'.ownsRow base 3 1 (.slice A n c) n (seqV n k) ∧ w.grownBy w' (Value.ownBlock (.slice A n c))) := by
  have HX := hide (show xs.length = n from by have := hown.out.1; omega)
  by_cases hz : n = 0
  · subst hz
    have HXN := hide (List.eq_nil_of_length_eq_zero (by have := HX.out; omega) : xs = [])
    go_enter Try.func46, Try.ntmps46
    go_wp2
    go_loop [1, 5] (fun kv iv => kv = .int .i64 k ∧ iv = .int .i64 0) (fun _ _ => 0)
    case atStart => exact ⟨rfl, rfl⟩
    case round =>
      obtain ⟨rfl, rfl⟩ := hrel
      go_wp2
      go_returns
      exact ⟨ret_eq (by simp), by have h9 := hown.out; rw [HXN.out] at h9; exact h9, World.grownBy.refl _ _⟩
  obtain ⟨g, rfl, hg0, hg1⟩ := own_at hown.out hz
  go_enter Try.func46, Try.ntmps46
  go_wp2
  go_loopw [1, 5] (fun kv iv wr => ∃ i : Nat, i ≤ n ∧ iv = .int .i64 i ∧ kv = .int .i64 (k + (i : Nat)) ∧ Hid (wr.ownsRow base 3 1 (.slice (some ⟨g, 0, none⟩) n c) n (seqV i k ++ xs.drop i)) ∧ Hid (w.grownBy wr (some g))) (fun _ iv _ => n - (intOf iv).toNat)
  case atStart => exact ⟨0, by omega, rfl, by go_num, hide (by simpa [seqV] using hown.out), hide (World.grownBy.refl _ _)⟩
  case round =>
    obtain ⟨i, hi, rfl, rfl, hw, hgr⟩ := hrel
    by_cases hlt : i < n
    · obtain ⟨⟨u, hcell⟩, hfr, H1, H2⟩ := mark_own1 hw.out hlt HX.out
      have H3 := hide H1
      have H4 := hide (grown_trans hgr.out H2)
      clear H1 H2
      go_wp2
      go_roundw
      case rel => exact ⟨i + 1, by omega, by go_num, by go_num, H3, H4⟩
      case measure => simp [intOf]; omega
    obtain rfl : i = n := by omega
    have HD := hide (show xs.drop i = [] from List.drop_eq_nil_of_le (by have := HX.out; omega))
    go_wp2
    go_returns
    exact ⟨rfl, by have h9 := hw.out; rw [HD.out, List.append_nil] at h9; exact h9, hgr.out⟩

theorem markSiteS_c (A : Option Addr) (c n base : Nat) (xs : List Value) (k : Int) (w : World) (hown : Hid (w.ownsRow base 32 2 (.slice A n c) n xs)) (bn : n ≤ 4000000) (b2 : 0 ≤ k) (b3 : k ≤ 100000000)  : Calls Try.prog 45 #[.slice A n c, .int .i64 k] w (fun e w' => e = .returned (.int .i64 (k + ((n * 2) : Nat))) ∧ w'.ownsRow base 32 2 (.slice A n c) n (seqV (n * 2) k) ∧ w.grownBy w' (Value.ownBlock (.slice A n c))) := by
  have HX := hide (show xs.length = (n * 2) from by have := hown.out.1; omega)
  by_cases hz : n = 0
  · subst hz
    have HXN := hide (List.eq_nil_of_length_eq_zero (by have := HX.out; omega) : xs = [])
    go_enter Try.func45, Try.ntmps45
    go_wp2
    go_loop [1, 5] (fun kv iv => kv = .int .i64 k ∧ iv = .int .i64 0) (fun _ _ => 0)
    case atStart => exact ⟨rfl, rfl⟩
    case round =>
      obtain ⟨rfl, rfl⟩ := hrel
      go_wp2
      go_returns
      exact ⟨ret_eq (by simp), by have h9 := hown.out; rw [HXN.out] at h9; exact h9, World.grownBy.refl _ _⟩
  obtain ⟨g, rfl, hg0, hg1⟩ := own_at hown.out hz
  go_enter Try.func45, Try.ntmps45
  go_wp2
  go_loopw [1, 5] (fun kv iv wr => ∃ i : Nat, i ≤ n ∧ iv = .int .i64 i ∧ kv = .int .i64 (k + ((i * 2) : Nat)) ∧ Hid (wr.ownsRow base 32 2 (.slice (some ⟨g, 0, none⟩) n c) n (seqV (i * 2) k ++ xs.drop (i * 2))) ∧ Hid (w.grownBy wr (some g))) (fun _ iv _ => n - (intOf iv).toNat)
  case atStart => exact ⟨0, by omega, rfl, by go_num, hide (by simpa [seqV] using hown.out), hide (World.grownBy.refl _ _)⟩
  case round =>
    obtain ⟨i, hi, rfl, rfl, hw, hgr⟩ := hrel
    by_cases hlt : i < n
    · obtain ⟨⟨u, hcell⟩, hfr, H1, H2⟩ := mark_own2 (j := i * 2) hw.out (by omega) HX.out
      have H3 := H1
      have H4 := hide (grown_trans hgr.out H2)
      obtain ⟨⟨u2, hcell2⟩, hfr2, H5, H6⟩ := mark_own2 (j := i * 2 + 1) H3 (by omega) HX.out
      have H7 := hide H5
      have H8 := hide (grown_trans H4.out H6)
      have ek : k + ((i * 2 : Nat) : Int) + 1 = k + ((i * 2 + 1 : Nat) : Int) := by omega
      have e2 : (i + 1) * 2 = i * 2 + 1 + 1 := by omega
      clear H1 H2 H5 H6 H3
      obtain ⟨q, hq⟩ : ∃ q, k + ((i * 2 : Nat) : Int) = q := ⟨_, rfl⟩
      obtain ⟨q2, hq2⟩ : ∃ q2, k + ((i * 2 + 1 : Nat) : Int) = q2 := ⟨_, rfl⟩
      rw [hq] at hcell2 hfr2 H7 H8 H4 ek
      rw [hq2] at H7 H8 ek
      have q0 : 0 ≤ q := by omega
      have q1 : q ≤ 200000000 := by omega
      have HQ := hide hq
      have HQ2 := hide hq2
      have HE2 := hide e2
      rw [hq]
      clear hq hq2 e2
      go_wp2
      go_roundw
      case rel => exact ⟨i + 1, by omega, by go_num, int_eq (by have := HQ2.out; omega), by rw [HE2.out]; exact H7, H8⟩
      case measure => simp [intOf]; omega
    obtain rfl : i = n := by omega
    have HD := hide (show xs.drop (i * 2) = [] from List.drop_eq_nil_of_le (by have := HX.out; omega))
    go_wp2
    go_returns
    exact ⟨rfl, by have h9 := hw.out; rw [HD.out, List.append_nil] at h9; exact h9, hgr.out⟩

theorem heldSiteS_c (A : Option Addr) (c n : Nat) (k : Int) (w : World) (h1 : Hid (Reads w w.heap.size 2 A n (seqV (n * 2) k))) (bn : n ≤ 4000000) (b2 : 0 ≤ k) (b3 : k ≤ 100000000)  : Calls Try.prog 47 #[.slice A n c, .int .i64 k] w (fun e w' => e = .returned (.int .i64 (k + ((n * 2) : Nat))) ∧ w = w') := by
  go_enter Try.func47, Try.ntmps47
  go_wp2
  go_loop [1, 5] (fun kv iv => ∃ i : Nat, i ≤ n ∧ iv = .int .i64 i ∧ kv = .int .i64 (k + ((i * 2) : Nat))) (fun _ iv => n - (intOf iv).toNat)
  case atStart => exact ⟨0, by omega, rfl, by go_num⟩
  case round =>
    obtain ⟨i, hi, rfl, rfl⟩ := hrel
    obtain ⟨q, hq⟩ : ∃ q, k + ((i * 2) : Nat) = q := ⟨_, rfl⟩
    rw [hq]
    have q0 : 0 ≤ q := by omega
    have q1 : q ≤ 200000000 := by omega
    by_cases hlt : i < n
    · obtain ⟨ad, rfl, hb, hc, hc2⟩ := h1.out.two hlt (seqV_at k (by omega)) (seqV_at k (by omega))
      rw [hq] at hc
      have e1 : k + ((i * 2 + 1 : Nat) : Int) = q + 1 := by omega
      rw [e1] at hc2
      clear e1
      have HQ := hide hq
      clear hq
      go_wp2
      go_round
      case rel => exact ⟨i + 1, by omega, by go_num, int_eq (by have := HQ.out; omega)⟩
      case measure => simp [intOf]; omega
    obtain rfl : i = n := by omega
    have HQ := hide hq
    clear hq
    go_wp2
    go_returns
    exact ⟨ret_eq (int_eq (by have := HQ.out; omega)), rfl⟩
end Go.Proofs.Ytnocgcfepkdjeaa
