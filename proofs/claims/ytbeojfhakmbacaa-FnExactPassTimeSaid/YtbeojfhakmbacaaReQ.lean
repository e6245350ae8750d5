/- Contracts: marks in receivers. -/
import Derived.Test.YtbeojfhakmbacaaReMathD
import Derived.Test.YtbeojfhakmbacaaReB
namespace Go.Proofs.Ytbeojfhakmbacaa
open Go.RowKit

theorem below_row {w w' : World} (h : Below w.heap.size w w') (r : Option Nat) : w.grownBy w' r := ⟨h.os, h.tape, h.output, h.size, fun k hk _ => h.block k hk⟩

set_option maxRecDepth 100000 in
set_option maxHeartbeats 8000000 in
theorem markHeardS_c (A : Option Addr) (c base : Nat) (l : List Hd) (k : Int) (w : World) (hown : Hid (w.ownsRow base 42 10 (.slice A l.length c) l.length (hds l))) (bn : l.length ≤ 4000000) (b2 : 0 ≤ k) (b3 : k ≤ 100000000)  : Calls Try.prog 84 #[.slice A l.length c, .int .i64 k] w (fun e w' => e = .returned (.int .i64 (k + ((l.length * 10 : Nat) : Int))) ∧ w'.ownsRow base 42 10 (.slice A l.length c) l.length (hds (mkL l.length k)) ∧ w.grownBy w' (Value.ownBlock (.slice A l.length c))) := by
  by_cases hz : l = []
  · subst hz
    go_enter Try.func84, Try.ntmps84
    go_wp2
    go_loop [1, 5] (fun kv iv => kv = .int .i64 k ∧ iv = .int .i64 0) (fun _ _ => 0)
    case atStart => exact ⟨rfl, rfl⟩
    case round =>
      obtain ⟨rfl, rfl⟩ := hrel
      go_wp2
      go_returns
      exact ⟨ret_eq (by simp), hown.out, World.grownBy.refl _ _⟩
  have hz0 : l.length ≠ 0 := fun e => hz (List.eq_nil_of_length_eq_zero e)
  obtain ⟨g, rfl, hg0, hg1⟩ := own_at hown.out hz0
  go_enter Try.func84, Try.ntmps84
  go_wp2
  go_loopw [1, 5] (fun kv iv wr => ∃ i : Nat, i ≤ l.length ∧ iv = .int .i64 i ∧ kv = .int .i64 (k + ((i * 10 : Nat) : Int)) ∧ Hid (wr.ownsRow base 42 10 (.slice (some ⟨g, 0, none⟩) l.length c) l.length (hds (mkL i k ++ l.drop i))) ∧ Hid (w.grownBy wr (some g))) (fun _ iv _ => l.length - (intOf iv).toNat)
  case atStart => exact ⟨0, by omega, rfl, by go_num, hide (by simpa [mkL] using hown.out), hide (World.grownBy.refl _ _)⟩
  case round =>
    obtain ⟨i, hi, rfl, rfl, hw, hgr⟩ := hrel
    by_cases hlt : i < l.length
    · obtain ⟨q, hq⟩ : ∃ q, k + ((i * 10 : Nat) : Int) = q := ⟨_, rfl⟩
      rw [hq]
      have q0 : 0 ≤ q := by omega
      have q1 : q ≤ 200000000 := by omega
      have HM := hide (mark_hd l (k := k) hlt hq)
      have HQ := hide hq
      clear hq
      obtain ⟨u0, hc0⟩ : ∃ u, wr.cell? ⟨g, i * 10, none⟩ = some u := ten_at hw.out hlt 0 (by omega)
      have hf0 := hw.out.frozenAt (i * 10)
      obtain ⟨u1, hc1⟩ : ∃ u, wr.cell? ⟨g, i * 10 + 1, none⟩ = some u := ten_at hw.out hlt 1 (by omega)
      have hf1 := hw.out.frozenAt (i * 10 + 1)
      obtain ⟨u2, hc2⟩ : ∃ u, wr.cell? ⟨g, i * 10 + 2, none⟩ = some u := ten_at hw.out hlt 2 (by omega)
      have hf2 := hw.out.frozenAt (i * 10 + 2)
      obtain ⟨u3, hc3⟩ : ∃ u, wr.cell? ⟨g, i * 10 + 3, none⟩ = some u := ten_at hw.out hlt 3 (by omega)
      have hf3 := hw.out.frozenAt (i * 10 + 3)
      obtain ⟨u4, hc4⟩ : ∃ u, wr.cell? ⟨g, i * 10 + 4, none⟩ = some u := ten_at hw.out hlt 4 (by omega)
      have hf4 := hw.out.frozenAt (i * 10 + 4)
      obtain ⟨u5, hc5⟩ : ∃ u, wr.cell? ⟨g, i * 10 + 5, none⟩ = some u := ten_at hw.out hlt 5 (by omega)
      have hf5 := hw.out.frozenAt (i * 10 + 5)
      obtain ⟨u6, hc6⟩ : ∃ u, wr.cell? ⟨g, i * 10 + 6, none⟩ = some u := ten_at hw.out hlt 6 (by omega)
      have hf6 := hw.out.frozenAt (i * 10 + 6)
      obtain ⟨u7, hc7⟩ : ∃ u, wr.cell? ⟨g, i * 10 + 7, none⟩ = some u := ten_at hw.out hlt 7 (by omega)
      have hf7 := hw.out.frozenAt (i * 10 + 7)
      obtain ⟨u8, hc8⟩ : ∃ u, wr.cell? ⟨g, i * 10 + 8, none⟩ = some u := ten_at hw.out hlt 8 (by omega)
      have hf8 := hw.out.frozenAt (i * 10 + 8)
      obtain ⟨u9, hc9⟩ : ∃ u, wr.cell? ⟨g, i * 10 + 9, none⟩ = some u := ten_at hw.out hlt 9 (by omega)
      have hf9 := hw.out.frozenAt (i * 10 + 9)
      have hst := hide ((((((((((hw.out.stored (i * 10) (.int .i64 q)).1.stored (i * 10 + 1) (.bool ((q + 1) % 3 == 0))).1.stored (i * 10 + 2) (.int .i64 (q + 1 + 1))).1.stored (i * 10 + 3) (.int .i64 (q + 1 + 1 + 1))).1.stored (i * 10 + 4) (.int .i64 (q + 1 + 1 + 1 + 1))).1.stored (i * 10 + 5) (.bool ((q + 1 + 1 + 1 + 1 + 1) % 3 == 0))).1.stored (i * 10 + 6) (.int .i64 (q + 1 + 1 + 1 + 1 + 1 + 1))).1.stored (i * 10 + 7) (.int .i64 (q + 1 + 1 + 1 + 1 + 1 + 1 + 1))).1.stored (i * 10 + 8) (.int .i64 (q + 1 + 1 + 1 + 1 + 1 + 1 + 1 + 1))).1.stored (i * 10 + 9) (.int .i64 (q + 1 + 1 + 1 + 1 + 1 + 1 + 1 + 1 + 1))).1
      have hgg := hide (grown_trans (grown_trans (grown_trans (grown_trans (grown_trans (grown_trans (grown_trans (grown_trans (grown_trans (grown_trans hgr.out (hw.out.stored (i * 10) (.int .i64 q)).2) ((hw.out.stored (i * 10) (.int .i64 q)).1.stored (i * 10 + 1) (.bool ((q + 1) % 3 == 0))).2) (((hw.out.stored (i * 10) (.int .i64 q)).1.stored (i * 10 + 1) (.bool ((q + 1) % 3 == 0))).1.stored (i * 10 + 2) (.int .i64 (q + 1 + 1))).2) ((((hw.out.stored (i * 10) (.int .i64 q)).1.stored (i * 10 + 1) (.bool ((q + 1) % 3 == 0))).1.stored (i * 10 + 2) (.int .i64 (q + 1 + 1))).1.stored (i * 10 + 3) (.int .i64 (q + 1 + 1 + 1))).2) (((((hw.out.stored (i * 10) (.int .i64 q)).1.stored (i * 10 + 1) (.bool ((q + 1) % 3 == 0))).1.stored (i * 10 + 2) (.int .i64 (q + 1 + 1))).1.stored (i * 10 + 3) (.int .i64 (q + 1 + 1 + 1))).1.stored (i * 10 + 4) (.int .i64 (q + 1 + 1 + 1 + 1))).2) ((((((hw.out.stored (i * 10) (.int .i64 q)).1.stored (i * 10 + 1) (.bool ((q + 1) % 3 == 0))).1.stored (i * 10 + 2) (.int .i64 (q + 1 + 1))).1.stored (i * 10 + 3) (.int .i64 (q + 1 + 1 + 1))).1.stored (i * 10 + 4) (.int .i64 (q + 1 + 1 + 1 + 1))).1.stored (i * 10 + 5) (.bool ((q + 1 + 1 + 1 + 1 + 1) % 3 == 0))).2) (((((((hw.out.stored (i * 10) (.int .i64 q)).1.stored (i * 10 + 1) (.bool ((q + 1) % 3 == 0))).1.stored (i * 10 + 2) (.int .i64 (q + 1 + 1))).1.stored (i * 10 + 3) (.int .i64 (q + 1 + 1 + 1))).1.stored (i * 10 + 4) (.int .i64 (q + 1 + 1 + 1 + 1))).1.stored (i * 10 + 5) (.bool ((q + 1 + 1 + 1 + 1 + 1) % 3 == 0))).1.stored (i * 10 + 6) (.int .i64 (q + 1 + 1 + 1 + 1 + 1 + 1))).2) ((((((((hw.out.stored (i * 10) (.int .i64 q)).1.stored (i * 10 + 1) (.bool ((q + 1) % 3 == 0))).1.stored (i * 10 + 2) (.int .i64 (q + 1 + 1))).1.stored (i * 10 + 3) (.int .i64 (q + 1 + 1 + 1))).1.stored (i * 10 + 4) (.int .i64 (q + 1 + 1 + 1 + 1))).1.stored (i * 10 + 5) (.bool ((q + 1 + 1 + 1 + 1 + 1) % 3 == 0))).1.stored (i * 10 + 6) (.int .i64 (q + 1 + 1 + 1 + 1 + 1 + 1))).1.stored (i * 10 + 7) (.int .i64 (q + 1 + 1 + 1 + 1 + 1 + 1 + 1))).2) (((((((((hw.out.stored (i * 10) (.int .i64 q)).1.stored (i * 10 + 1) (.bool ((q + 1) % 3 == 0))).1.stored (i * 10 + 2) (.int .i64 (q + 1 + 1))).1.stored (i * 10 + 3) (.int .i64 (q + 1 + 1 + 1))).1.stored (i * 10 + 4) (.int .i64 (q + 1 + 1 + 1 + 1))).1.stored (i * 10 + 5) (.bool ((q + 1 + 1 + 1 + 1 + 1) % 3 == 0))).1.stored (i * 10 + 6) (.int .i64 (q + 1 + 1 + 1 + 1 + 1 + 1))).1.stored (i * 10 + 7) (.int .i64 (q + 1 + 1 + 1 + 1 + 1 + 1 + 1))).1.stored (i * 10 + 8) (.int .i64 (q + 1 + 1 + 1 + 1 + 1 + 1 + 1 + 1))).2) ((((((((((hw.out.stored (i * 10) (.int .i64 q)).1.stored (i * 10 + 1) (.bool ((q + 1) % 3 == 0))).1.stored (i * 10 + 2) (.int .i64 (q + 1 + 1))).1.stored (i * 10 + 3) (.int .i64 (q + 1 + 1 + 1))).1.stored (i * 10 + 4) (.int .i64 (q + 1 + 1 + 1 + 1))).1.stored (i * 10 + 5) (.bool ((q + 1 + 1 + 1 + 1 + 1) % 3 == 0))).1.stored (i * 10 + 6) (.int .i64 (q + 1 + 1 + 1 + 1 + 1 + 1))).1.stored (i * 10 + 7) (.int .i64 (q + 1 + 1 + 1 + 1 + 1 + 1 + 1))).1.stored (i * 10 + 8) (.int .i64 (q + 1 + 1 + 1 + 1 + 1 + 1 + 1 + 1))).1.stored (i * 10 + 9) (.int .i64 (q + 1 + 1 + 1 + 1 + 1 + 1 + 1 + 1 + 1))).2)
      have tm1 : (q + 1).tmod 3 = (q + 1) % 3 := Int.tmod_eq_emod_of_nonneg (by omega)
      have tm5 : (q + 1 + 1 + 1 + 1 + 1).tmod 3 = (q + 1 + 1 + 1 + 1 + 1) % 3 := Int.tmod_eq_emod_of_nonneg (by omega)
      go_wp2
      go_roundw
      case rel => exact ⟨i + 1, by omega, by go_num, int_eq (by have := HQ.out; omega), hide (by rw [← HM.out]; exact hst.out), hgg⟩
      case measure => simp [intOf]; omega
    obtain rfl : i = l.length := by omega
    go_wp2
    go_returns
    exact ⟨rfl, by have h9 := hw.out; rw [List.drop_length, List.append_nil] at h9; exact h9, hgr.out⟩

set_option maxRecDepth 100000 in
set_option maxHeartbeats 8000000 in
theorem heldHeardS_c (A : Option Addr) (c n : Nat) (k : Int) (w : World) (h1 : Hid (Reads w w.heap.size 10 A n (hds (mkL n k)))) (bn : n ≤ 4000000) (b2 : 0 ≤ k) (b3 : k ≤ 100000000)  : Calls Try.prog 85 #[.slice A n c, .int .i64 k] w (fun e w' => e = .returned (.int .i64 (k + ((n * 10 : Nat) : Int))) ∧ w = w') := by
  go_enter Try.func85, Try.ntmps85
  go_wp2
  go_loop [1, 5] (fun kv iv => ∃ i : Nat, i ≤ n ∧ iv = .int .i64 i ∧ kv = .int .i64 (k + ((i * 10 : Nat) : Int))) (fun _ iv => n - (intOf iv).toNat)
  case atStart => exact ⟨0, by omega, rfl, by go_num⟩
  case round =>
    obtain ⟨i, hi, rfl, rfl⟩ := hrel
    obtain ⟨q, hq⟩ : ∃ q, k + ((i * 10 : Nat) : Int) = q := ⟨_, rfl⟩
    rw [hq]
    have q0 : 0 ≤ q := by omega
    have q1 : q ≤ 200000000 := by omega
    by_cases hlt : i < n
    · obtain ⟨ad, rfl, hb, e0, e1, e2, e3, e4, e5, e6, e7, e8, e9⟩ := h1.out.hd (k := i) (by rw [mkL_len]; exact hlt) (mkL_at k hlt hq)
      have tm1 : (q + 1).tmod 3 = (q + 1) % 3 := Int.tmod_eq_emod_of_nonneg (by omega)
      have tm5 : (q + 1 + 1 + 1 + 1 + 1).tmod 3 = (q + 1 + 1 + 1 + 1 + 1) % 3 := Int.tmod_eq_emod_of_nonneg (by omega)
      have HQ := hide hq
      clear hq
      go_wp2
      go_round
      case rel => exact ⟨i + 1, by omega, by go_num, int_eq (by have := HQ.out; omega)⟩
      case measure => simp [intOf]; omega
    obtain rfl : i = n := by omega
    have HQ := hide hq
    clear hq
    go_wp2
    go_returns
    exact ⟨ret_eq (int_eq (by have := HQ.out; omega)), rfl⟩

theorem markReceiver_c (m : Int) (A : Option Addr) (c base : Nat) (l : List Hd) (k : Int) (w : World) (hown : Hid (w.ownsRow base 42 10 (.slice A l.length c) l.length (hds l))) (bn : l.length ≤ 4000000) (b2 : 0 ≤ k) (b3 : k ≤ 100000000)  : Calls Try.prog 38 #[.agg #[.int .i64 m, .slice A l.length c], .int .i64 k] w (fun e w' => e = .returned (.int .i64 (k + ((l.length * 10 : Nat) : Int))) ∧ w'.ownsRow base 42 10 (.slice A l.length c) l.length (hds (mkL l.length k)) ∧ w.grownBy w' (Value.ownBlock (.slice A l.length c))) := by
  go_enter Try.func38, Try.ntmps38
  go_wp2_with fail
  refine (markHeardS_c A c base l k _ (hide (hown.out.alloc _)) bn b2 b3).mono ?_
  rintro e w1 ⟨rfl, hn, hg⟩
  have hg2 := hide (grown_trans (below_row (w := w) (w' := w.alloc _) (by go_grown) _) hg)
  have HN := hide hn
  clear hn hg
  go_wp2
  go_returns
  exact ⟨ret_eq (by simp), HN.out, hg2.out⟩

theorem heldReceiver_c (m : Int) (A : Option Addr) (c n : Nat) (k : Int) (w : World) (h1 : Hid (Reads w w.heap.size 10 A n (hds (mkL n k)))) (bn : n ≤ 4000000) (b2 : 0 ≤ k) (b3 : k ≤ 100000000)  : Calls Try.prog 39 #[.agg #[.int .i64 m, .slice A n c], .int .i64 k] w (Gives w (.int .i64 (k + ((n * 10 : Nat) : Int)))) := by
  go_enter Try.func39, Try.ntmps39
  go_wp2_with (first | (go_at_call 85; refine (heldHeardS_c A c n k _ (hide (by refine reads_below h1.out ?_; go_grown)) bn b2 b3).mono ?_; rintro e w1 ⟨rfl, rfl⟩))
  go_returns
  exact ⟨ret_eq (by simp), by go_grown⟩
end Go.Proofs.Ytbeojfhakmbacaa
