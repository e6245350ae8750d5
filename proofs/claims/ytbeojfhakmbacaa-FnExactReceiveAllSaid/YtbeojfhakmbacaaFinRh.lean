/- The program's ReceiveAll returns what the reference's returns, for all arguments. No conditions. -/
import Derived.Test.YtbeojfhakmbacaaReB
import Derived.Test.YtbeojfhakmbacaaReMathD
import Derived.Test.YtbeojfhakmbacaaReC0
import Derived.Test.YtbeojfhakmbacaaSl
import Derived.Test.YtbeojfhakmbacaaReMath
import Derived.Test.YtbeojfhakmbacaaBase
import Derived.Test.YtbeojfhakmbacaaProg
import Derived.SliceStrings
import Derived.Test.YtbeojfhakmbacaaDec
import Derived.Test.YtbeojfhakmbacaaRegion
import Derived.Test.YtbeojfhakmbacaaRcMath
import Derived.Test.YtbeojfhakmbacaaRcD
import Derived.Test.YtbeojfhakmbacaaFrJ
import Derived.Test.YtbeojfhakmbacaaLite
import Derived.Deep.DeepCutAuto
import Derived.Test.YtbeojfhakmbacaaRcL
import Derived.Test.YtbeojfhakmbacaaRcS
import Derived.Test.YtbeojfhakmbacaaSplit
import Derived.Test.YtbeojfhakmbacaaRcA
import Derived.Test.YtbeojfhakmbacaaReD
import Derived.Test.YtbeojfhakmbacaaRcC
import Derived.Test.YtbeojfhakmbacaaReE
import Derived.Test.YtbeojfhakmbacaaReC3
import Derived.Test.YtbeojfhakmbacaaRowsA
namespace Go.Proofs.Ytbeojfhakmbacaa
open Go.RowKit

theorem own_cell_up {w w' : World} {v : Value} (hg : w.grownBy w' v.ownBlock) {a : Addr} {u : Value} (hc : w.cell? a = some u) (hn : ∀ g, v.ownBlock = some g → g ≠ a.block) : w'.cell? a = some u := hg.cell hc fun e => hn _ e.symm rfl

theorem eqIntS_c (A1 A2 : Option Addr) (c1 c2 : Nat) (l1 l2 : List Int) (w : World) (h1 : Hid (Reads w w.heap.size 1 A1 l1.length (ints l1))) (h2 : Hid (Reads w w.heap.size 1 A2 l2.length (ints l2))) (b1 : l1.length ≤ 4000000) (b2 : l2.length ≤ 4000000)  : Calls Try.prog 41 #[.slice A1 l1.length c1, .slice A2 l2.length c2] w (Gives w (.bool (decide (l1 = l2)))) := by
  by_cases he : l1.length = l2.length
  rotate_left
  · have HF := hide (show decide (l1 = l2) = false from decide_eq_false (len_ne he))
    have hb : ((l1.length : Int) != (l2.length : Int)) = true := by simp; omega
    go_enter Try.func41, Try.ntmps41
    go_wp2
    go_returns
    exact ⟨ret_eq (by rw [HF.out]; simp), by go_grown⟩
  obtain ⟨n, hn⟩ : ∃ n, l1.length = n := ⟨_, rfl⟩
  have hn2 : l2.length = n := by omega
  clear he
  rw [hn] at b1 h1 ⊢
  rw [hn2] at b2 h2 ⊢
  have Hn := hide hn
  have Hn2 := hide hn2
  clear hn hn2
  go_enter Try.func41, Try.ntmps41
  go_wp2
  go_loopw [5] (fun iv wr => ∃ (i : Nat), i ≤ n ∧ iv = .int .i64 i ∧ Hid (l1.take i = l2.take i) ∧ Below w.heap.size w wr) (fun iv _ => n - (intOf iv).toNat)
  case atStart => exact ⟨0, by omega, rfl, hide rfl, Below.refl _ _⟩
  case round =>
    obtain ⟨i, hi, rfl, H, hB⟩ := hrel
    by_cases hlt : i < n
    · have hl1 : i < l1.length := by have := Hn.out; omega
      have hl2 : i < l2.length := by have := Hn2.out; omega
      obtain ⟨a1, rfl, ekb, ex⟩ := (h1.out.below hB).num (k := i) (by omega)
      obtain ⟨a2, rfl, fkb, fx⟩ := (h2.out.below hB).num (k := i) (by omega)
      by_cases hc : nth l1 i = nth l2 i
      · have HS := hide (num_step H.out hl1 hl2 hc)
        clear hl1 hl2
        have hcb : (nth l1 i != nth l2 i) = false := by simp [hc]
        clear hc
        go_wp2
        refine wp_region_det (fun w' => w'.cell? (a1.add i) = some (.int .i64 (nth l1 i)) ∧ w'.cell? (a2.add i) = some (.int .i64 (nth l2 i)) ∧ Below w.heap.size w w') (by kernel_rfl) (by kernel_rfl) (by first | (with_reducible assumption) | (exact hS) | (exact ⟨hS.1, hS.2.1, (by go_grown)⟩) | (exact ⟨(by first | (with_reducible assumption) | (simp [go_sem]; done) | ((simp only [go_sem]); (with_reducible assumption)) | ((refine keep_cell ?_ (by with_reducible assumption)); go_grown; done) | (simp [go_sem, *]; done)), (by first | (with_reducible assumption) | (simp [go_sem]; done) | ((simp only [go_sem]); (with_reducible assumption)) | ((refine keep_cell ?_ (by with_reducible assumption)); go_grown; done) | (simp [go_sem, *]; done)), (by go_grown)⟩)) ?_
        repeat (first
          | ((refine wpDet_skip (by rfl) ?_); simp only [Act.put, List.setIfInBounds_toArray, List.set_cons_zero, List.set_cons_succ])
          | ((refine wpDet_val (v := ?_) (by rfl) (fun w hS => ?_) ?_); rotate_left; (focus ((try dsimp only at hS); go_simp; (try (with_reducible rfl)); done)); simp only [Act.put, List.setIfInBounds_toArray, List.set_cons_zero, List.set_cons_succ]))
        refine wpDet_nil ?_
        intro w1 hS
        have hT : w1.cell? (a1.add i) = some (.int .i64 (nth l1 i)) ∧ w1.cell? (a2.add i) = some (.int .i64 (nth l2 i)) ∧ Below w.heap.size w w1 := hS
        clear hS
        have hS := hT
        obtain ⟨c0, c1, hB⟩ := hT
        have hzw : w.heap.size ≤ w1.heap.size := hB.size
        go_wp2
        go_roundw
        case rel => exact ⟨i + 1, by omega, by go_num, HS, by go_grown⟩
        case measure => simp [intOf]; omega
      have HF := hide (show decide (l1 = l2) = false from decide_eq_false (num_ne hc))
      have hcb : (nth l1 i != nth l2 i) = true := by simp [hc]
      clear hc hl1 hl2
      go_wp2
      refine wp_region_det (fun w' => w'.cell? (a1.add i) = some (.int .i64 (nth l1 i)) ∧ w'.cell? (a2.add i) = some (.int .i64 (nth l2 i)) ∧ Below w.heap.size w w') (by kernel_rfl) (by kernel_rfl) (by first | (with_reducible assumption) | (exact hS) | (exact ⟨hS.1, hS.2.1, (by go_grown)⟩) | (exact ⟨(by first | (with_reducible assumption) | (simp [go_sem]; done) | ((simp only [go_sem]); (with_reducible assumption)) | ((refine keep_cell ?_ (by with_reducible assumption)); go_grown; done) | (simp [go_sem, *]; done)), (by first | (with_reducible assumption) | (simp [go_sem]; done) | ((simp only [go_sem]); (with_reducible assumption)) | ((refine keep_cell ?_ (by with_reducible assumption)); go_grown; done) | (simp [go_sem, *]; done)), (by go_grown)⟩)) ?_
      repeat (first
        | ((refine wpDet_skip (by rfl) ?_); simp only [Act.put, List.setIfInBounds_toArray, List.set_cons_zero, List.set_cons_succ])
        | ((refine wpDet_val (v := ?_) (by rfl) (fun w hS => ?_) ?_); rotate_left; (focus ((try dsimp only at hS); go_simp; (try (with_reducible rfl)); done)); simp only [Act.put, List.setIfInBounds_toArray, List.set_cons_zero, List.set_cons_succ]))
      refine wpDet_nil ?_
      intro w1 hS
      have hT : w1.cell? (a1.add i) = some (.int .i64 (nth l1 i)) ∧ w1.cell? (a2.add i) = some (.int .i64 (nth l2 i)) ∧ Below w.heap.size w w1 := hS
      clear hS
      have hS := hT
      obtain ⟨c0, c1, hB⟩ := hT
      have hzw : w.heap.size ≤ w1.heap.size := hB.size
      go_wp2
      go_returns
      exact ⟨ret_eq (by rw [HF.out]; simp), by go_grown⟩
    obtain rfl : i = n := by omega
    have HF := hide (show decide (l1 = l2) = true from decide_eq_true (num_all (by rw [Hn.out]; exact H.out) (by rw [Hn.out, Hn2.out])))
    go_wp2
    go_returns
    exact ⟨ret_eq (by rw [HF.out]; simp), by go_grown⟩

theorem markIntS_c (A : Option Addr) (c n base : Nat) (xs : List Value) (k : Int) (w : World) (hown : Hid (w.ownsRow base 3 1 (.slice A n c) n xs)) (bn : n ≤ 4000000) (b2 : 0 ≤ k) (b3 : k ≤ 100000000)  : Calls Try.prog 42 #[.slice A n c, .int .i64 k] w (fun e w' => e = .returned (.int .i64 (k + (n : Nat))) ∧ w'.ownsRow base 3 1 (.slice A n c) n (seqV n k) ∧ w.grownBy w' (Value.ownBlock (.slice A n c))) := by
  have HX := hide (show xs.length = n from by have := hown.out.1; omega)
  by_cases hz : n = 0
  · subst hz
    have HXN := hide (List.eq_nil_of_length_eq_zero (by have := HX.out; omega) : xs = [])
    go_enter Try.func42, Try.ntmps42
    go_wp2
    go_loop [1, 5] (fun kv iv => kv = .int .i64 k ∧ iv = .int .i64 0) (fun _ _ => 0)
    case atStart => exact ⟨rfl, rfl⟩
    case round =>
      obtain ⟨rfl, rfl⟩ := hrel
      go_wp2
      go_returns
      exact ⟨ret_eq (by simp), by have h9 := hown.out; rw [HXN.out] at h9; exact h9, World.grownBy.refl _ _⟩
  obtain ⟨g, rfl, hg0, hg1⟩ := own_at hown.out hz
  go_enter Try.func42, Try.ntmps42
  go_wp2
  go_loopw [1, 5] (fun kv iv wr => ∃ i : Nat, i ≤ n ∧ iv = .int .i64 i ∧ kv = .int .i64 (k + (i : Nat)) ∧ Hid (wr.ownsRow base 3 1 (.slice (some ⟨g, 0, none⟩) n c) n (seqV i k ++ xs.drop i)) ∧ Hid (w.grownBy wr (some g))) (fun _ iv _ => n - (intOf iv).toNat)
  case atStart => exact ⟨0, by omega, rfl, by go_num, hide (by simpa [seqV] using hown.out), hide (World.grownBy.refl _ _)⟩
  case round =>
    obtain ⟨i, hi, rfl, rfl, hw, hgr⟩ := hrel
    by_cases hlt : i < n
    · obtain ⟨⟨u, hcell⟩, hfr, H1, H2⟩ := mark_own1 hw.out hlt HX.out
      have H3 := hide H1
      have H4 := hide (grown_trans hgr.out H2)
      clear H1 H2
      go_wp2
      go_roundw
      case rel => exact ⟨i + 1, by omega, by go_num, by go_num, H3, H4⟩
      case measure => simp [intOf]; omega
    obtain rfl : i = n := by omega
    have HD := hide (show xs.drop i = [] from List.drop_eq_nil_of_le (by have := HX.out; omega))
    go_wp2
    go_returns
    exact ⟨rfl, by have h9 := hw.out; rw [HD.out, List.append_nil] at h9; exact h9, hgr.out⟩

theorem heldIntS_c (A : Option Addr) (c n : Nat) (k : Int) (w : World) (h1 : Hid (Reads w w.heap.size 1 A n (seqV n k))) (bn : n ≤ 4000000) (b2 : 0 ≤ k) (b3 : k ≤ 100000000)  : Calls Try.prog 43 #[.slice A n c, .int .i64 k] w (fun e w' => e = .returned (.int .i64 (k + (n : Nat))) ∧ w = w') := by
  go_enter Try.func43, Try.ntmps43
  go_wp2
  go_loop [1, 5] (fun kv iv => ∃ i : Nat, i ≤ n ∧ iv = .int .i64 i ∧ kv = .int .i64 (k + (i : Nat))) (fun _ iv => n - (intOf iv).toNat)
  case atStart => exact ⟨0, by omega, rfl, by go_num⟩
  case round =>
    obtain ⟨i, hi, rfl, rfl⟩ := hrel
    obtain ⟨q, hq⟩ : ∃ q, k + (i : Nat) = q := ⟨_, rfl⟩
    rw [hq]
    have q0 : 0 ≤ q := by omega
    have q1 : q ≤ 200000000 := by omega
    by_cases hlt : i < n
    · obtain ⟨ad, rfl, hb, hc⟩ := h1.out.one hlt (seqV_at k hlt)
      rw [hq] at hc
      have HQ := hide hq
      clear hq
      go_wp2
      go_round
      case rel => exact ⟨i + 1, by omega, by go_num, int_eq (by have := HQ.out; omega)⟩
      case measure => simp [intOf]; omega
    obtain rfl : i = n := by omega
    have HQ := hide hq
    clear hq
    go_wp2
    go_returns
    exact ⟨ret_eq (int_eq (by have := HQ.out; omega)), rfl⟩
end Go.Proofs.Ytbeojfhakmbacaa
namespace Go.Proofs.Ytbeojfhakmbacaa
open Go.RowKit

theorem below_row {w w' : World} (h : Below w.heap.size w w') (r : Option Nat) : w.grownBy w' r := ⟨h.os, h.tape, h.output, h.size, fun k hk _ => h.block k hk⟩

set_option maxRecDepth 100000 in
set_option maxHeartbeats 8000000 in
theorem markHeardS_c (A : Option Addr) (c base : Nat) (l : List Hd) (k : Int) (w : World) (hown : Hid (w.ownsRow base 42 10 (.slice A l.length c) l.length (hds l))) (bn : l.length ≤ 4000000) (b2 : 0 ≤ k) (b3 : k ≤ 100000000)  : Calls Try.prog 84 #[.slice A l.length c, .int .i64 k] w (fun e w' => e = .returned (.int .i64 (k + ((l.length * 10 : Nat) : Int))) ∧ w'.ownsRow base 42 10 (.slice A l.length c) l.length (hds (mkL l.length k)) ∧ w.grownBy w' (Value.ownBlock (.slice A l.length c))) := by
  by_cases hz : l = []
  · subst hz
    go_enter Try.func84, Try.ntmps84
    go_wp2
    go_loop [1, 5] (fun kv iv => kv = .int .i64 k ∧ iv = .int .i64 0) (fun _ _ => 0)
    case atStart => exact ⟨rfl, rfl⟩
    case round =>
      obtain ⟨rfl, rfl⟩ := hrel
      go_wp2
      go_returns
      exact ⟨ret_eq (by simp), hown.out, World.grownBy.refl _ _⟩
  have hz0 : l.length ≠ 0 := fun e => hz (List.eq_nil_of_length_eq_zero e)
  obtain ⟨g, rfl, hg0, hg1⟩ := own_at hown.out hz0
  go_enter Try.func84, Try.ntmps84
  go_wp2
  go_loopw [1, 5] (fun kv iv wr => ∃ i : Nat, i ≤ l.length ∧ iv = .int .i64 i ∧ kv = .int .i64 (k + ((i * 10 : Nat) : Int)) ∧ Hid (wr.ownsRow base 42 10 (.slice (some ⟨g, 0, none⟩) l.length c) l.length (hds (mkL i k ++ l.drop i))) ∧ Hid (w.grownBy wr (some g))) (fun _ iv _ => l.length - (intOf iv).toNat)
  case atStart => exact ⟨0, by omega, rfl, by go_num, hide (by simpa [mkL] using hown.out), hide (World.grownBy.refl _ _)⟩
  case round =>
    obtain ⟨i, hi, rfl, rfl, hw, hgr⟩ := hrel
    by_cases hlt : i < l.length
    · obtain ⟨q, hq⟩ : ∃ q, k + ((i * 10 : Nat) : Int) = q := ⟨_, rfl⟩
      rw [hq]
      have q0 : 0 ≤ q := by omega
      have q1 : q ≤ 200000000 := by omega
      have HM := hide (mark_hd l (k := k) hlt hq)
      have HQ := hide hq
      clear hq
      obtain ⟨u0, hc0⟩ : ∃ u, wr.cell? ⟨g, i * 10, none⟩ = some u := ten_at hw.out hlt 0 (by omega)
      have hf0 := hw.out.frozenAt (i * 10)
      obtain ⟨u1, hc1⟩ : ∃ u, wr.cell? ⟨g, i * 10 + 1, none⟩ = some u := ten_at hw.out hlt 1 (by omega)
      have hf1 := hw.out.frozenAt (i * 10 + 1)
      obtain ⟨u2, hc2⟩ : ∃ u, wr.cell? ⟨g, i * 10 + 2, none⟩ = some u := ten_at hw.out hlt 2 (by omega)
      have hf2 := hw.out.frozenAt (i * 10 + 2)
      obtain ⟨u3, hc3⟩ : ∃ u, wr.cell? ⟨g, i * 10 + 3, none⟩ = some u := ten_at hw.out hlt 3 (by omega)
      have hf3 := hw.out.frozenAt (i * 10 + 3)
      obtain ⟨u4, hc4⟩ : ∃ u, wr.cell? ⟨g, i * 10 + 4, none⟩ = some u := ten_at hw.out hlt 4 (by omega)
      have hf4 := hw.out.frozenAt (i * 10 + 4)
      obtain ⟨u5, hc5⟩ : ∃ u, wr.cell? ⟨g, i * 10 + 5, none⟩ = some u := ten_at hw.out hlt 5 (by omega)
      have hf5 := hw.out.frozenAt (i * 10 + 5)
      obtain ⟨u6, hc6⟩ : ∃ u, wr.cell? ⟨g, i * 10 + 6, none⟩ = some u := ten_at hw.out hlt 6 (by omega)
      have hf6 := hw.out.frozenAt (i * 10 + 6)
      obtain ⟨u7, hc7⟩ : ∃ u, wr.cell? ⟨g, i * 10 + 7, none⟩ = some u := ten_at hw.out hlt 7 (by omega)
      have hf7 := hw.out.frozenAt (i * 10 + 7)
      obtain ⟨u8, hc8⟩ : ∃ u, wr.cell? ⟨g, i * 10 + 8, none⟩ = some u := ten_at hw.out hlt 8 (by omega)
      have hf8 := hw.out.frozenAt (i * 10 + 8)
      obtain ⟨u9, hc9⟩ : ∃ u, wr.cell? ⟨g, i * 10 + 9, none⟩ = some u := ten_at hw.out hlt 9 (by omega)
      have hf9 := hw.out.frozenAt (i * 10 + 9)
      have hst := hide ((((((((((hw.out.stored (i * 10) (.int .i64 q)).1.stored (i * 10 + 1) (.bool ((q + 1) % 3 == 0))).1.stored (i * 10 + 2) (.int .i64 (q + 1 + 1))).1.stored (i * 10 + 3) (.int .i64 (q + 1 + 1 + 1))).1.stored (i * 10 + 4) (.int .i64 (q + 1 + 1 + 1 + 1))).1.stored (i * 10 + 5) (.bool ((q + 1 + 1 + 1 + 1 + 1) % 3 == 0))).1.stored (i * 10 + 6) (.int .i64 (q + 1 + 1 + 1 + 1 + 1 + 1))).1.stored (i * 10 + 7) (.int .i64 (q + 1 + 1 + 1 + 1 + 1 + 1 + 1))).1.stored (i * 10 + 8) (.int .i64 (q + 1 + 1 + 1 + 1 + 1 + 1 + 1 + 1))).1.stored (i * 10 + 9) (.int .i64 (q + 1 + 1 + 1 + 1 + 1 + 1 + 1 + 1 + 1))).1
      have hgg := hide (grown_trans (grown_trans (grown_trans (grown_trans (grown_trans (grown_trans (grown_trans (grown_trans (grown_trans (grown_trans hgr.out (hw.out.stored (i * 10) (.int .i64 q)).2) ((hw.out.stored (i * 10) (.int .i64 q)).1.stored (i * 10 + 1) (.bool ((q + 1) % 3 == 0))).2) (((hw.out.stored (i * 10) (.int .i64 q)).1.stored (i * 10 + 1) (.bool ((q + 1) % 3 == 0))).1.stored (i * 10 + 2) (.int .i64 (q + 1 + 1))).2) ((((hw.out.stored (i * 10) (.int .i64 q)).1.stored (i * 10 + 1) (.bool ((q + 1) % 3 == 0))).1.stored (i * 10 + 2) (.int .i64 (q + 1 + 1))).1.stored (i * 10 + 3) (.int .i64 (q + 1 + 1 + 1))).2) (((((hw.out.stored (i * 10) (.int .i64 q)).1.stored (i * 10 + 1) (.bool ((q + 1) % 3 == 0))).1.stored (i * 10 + 2) (.int .i64 (q + 1 + 1))).1.stored (i * 10 + 3) (.int .i64 (q + 1 + 1 + 1))).1.stored (i * 10 + 4) (.int .i64 (q + 1 + 1 + 1 + 1))).2) ((((((hw.out.stored (i * 10) (.int .i64 q)).1.stored (i * 10 + 1) (.bool ((q + 1) % 3 == 0))).1.stored (i * 10 + 2) (.int .i64 (q + 1 + 1))).1.stored (i * 10 + 3) (.int .i64 (q + 1 + 1 + 1))).1.stored (i * 10 + 4) (.int .i64 (q + 1 + 1 + 1 + 1))).1.stored (i * 10 + 5) (.bool ((q + 1 + 1 + 1 + 1 + 1) % 3 == 0))).2) (((((((hw.out.stored (i * 10) (.int .i64 q)).1.stored (i * 10 + 1) (.bool ((q + 1) % 3 == 0))).1.stored (i * 10 + 2) (.int .i64 (q + 1 + 1))).1.stored (i * 10 + 3) (.int .i64 (q + 1 + 1 + 1))).1.stored (i * 10 + 4) (.int .i64 (q + 1 + 1 + 1 + 1))).1.stored (i * 10 + 5) (.bool ((q + 1 + 1 + 1 + 1 + 1) % 3 == 0))).1.stored (i * 10 + 6) (.int .i64 (q + 1 + 1 + 1 + 1 + 1 + 1))).2) ((((((((hw.out.stored (i * 10) (.int .i64 q)).1.stored (i * 10 + 1) (.bool ((q + 1) % 3 == 0))).1.stored (i * 10 + 2) (.int .i64 (q + 1 + 1))).1.stored (i * 10 + 3) (.int .i64 (q + 1 + 1 + 1))).1.stored (i * 10 + 4) (.int .i64 (q + 1 + 1 + 1 + 1))).1.stored (i * 10 + 5) (.bool ((q + 1 + 1 + 1 + 1 + 1) % 3 == 0))).1.stored (i * 10 + 6) (.int .i64 (q + 1 + 1 + 1 + 1 + 1 + 1))).1.stored (i * 10 + 7) (.int .i64 (q + 1 + 1 + 1 + 1 + 1 + 1 + 1))).2) (((((((((hw.out.stored (i * 10) (.int .i64 q)).1.stored (i * 10 + 1) (.bool ((q + 1) % 3 == 0))).1.stored (i * 10 + 2) (.int .i64 (q + 1 + 1))).1.stored (i * 10 + 3) (.int .i64 (q + 1 + 1 + 1))).1.stored (i * 10 + 4) (.int .i64 (q + 1 + 1 + 1 + 1))).1.stored (i * 10 + 5) (.bool ((q + 1 + 1 + 1 + 1 + 1) % 3 == 0))).1.stored (i * 10 + 6) (.int .i64 (q + 1 + 1 + 1 + 1 + 1 + 1))).1.stored (i * 10 + 7) (.int .i64 (q + 1 + 1 + 1 + 1 + 1 + 1 + 1))).1.stored (i * 10 + 8) (.int .i64 (q + 1 + 1 + 1 + 1 + 1 + 1 + 1 + 1))).2) ((((((((((hw.out.stored (i * 10) (.int .i64 q)).1.stored (i * 10 + 1) (.bool ((q + 1) % 3 == 0))).1.stored (i * 10 + 2) (.int .i64 (q + 1 + 1))).1.stored (i * 10 + 3) (.int .i64 (q + 1 + 1 + 1))).1.stored (i * 10 + 4) (.int .i64 (q + 1 + 1 + 1 + 1))).1.stored (i * 10 + 5) (.bool ((q + 1 + 1 + 1 + 1 + 1) % 3 == 0))).1.stored (i * 10 + 6) (.int .i64 (q + 1 + 1 + 1 + 1 + 1 + 1))).1.stored (i * 10 + 7) (.int .i64 (q + 1 + 1 + 1 + 1 + 1 + 1 + 1))).1.stored (i * 10 + 8) (.int .i64 (q + 1 + 1 + 1 + 1 + 1 + 1 + 1 + 1))).1.stored (i * 10 + 9) (.int .i64 (q + 1 + 1 + 1 + 1 + 1 + 1 + 1 + 1 + 1))).2)
      have tm1 : (q + 1).tmod 3 = (q + 1) % 3 := Int.tmod_eq_emod_of_nonneg (by omega)
      have tm5 : (q + 1 + 1 + 1 + 1 + 1).tmod 3 = (q + 1 + 1 + 1 + 1 + 1) % 3 := Int.tmod_eq_emod_of_nonneg (by omega)
      go_wp2
      go_roundw
      case rel => exact ⟨i + 1, by omega, by go_num, int_eq (by have := HQ.out; omega), hide (by rw [← HM.out]; exact hst.out), hgg⟩
      case measure => simp [intOf]; omega
    obtain rfl : i = l.length := by omega
    go_wp2
    go_returns
    exact ⟨rfl, by have h9 := hw.out; rw [List.drop_length, List.append_nil] at h9; exact h9, hgr.out⟩

set_option maxRecDepth 100000 in
set_option maxHeartbeats 8000000 in
theorem heldHeardS_c (A : Option Addr) (c n : Nat) (k : Int) (w : World) (h1 : Hid (Reads w w.heap.size 10 A n (hds (mkL n k)))) (bn : n ≤ 4000000) (b2 : 0 ≤ k) (b3 : k ≤ 100000000)  : Calls Try.prog 85 #[.slice A n c, .int .i64 k] w (fun e w' => e = .returned (.int .i64 (k + ((n * 10 : Nat) : Int))) ∧ w = w') := by
  go_enter Try.func85, Try.ntmps85
  go_wp2
  go_loop [1, 5] (fun kv iv => ∃ i : Nat, i ≤ n ∧ iv = .int .i64 i ∧ kv = .int .i64 (k + ((i * 10 : Nat) : Int))) (fun _ iv => n - (intOf iv).toNat)
  case atStart => exact ⟨0, by omega, rfl, by go_num⟩
  case round =>
    obtain ⟨i, hi, rfl, rfl⟩ := hrel
    obtain ⟨q, hq⟩ : ∃ q, k + ((i * 10 : Nat) : Int) = q := ⟨_, rfl⟩
    rw [hq]
    have q0 : 0 ≤ q := by omega
    have q1 : q ≤ 200000000 := by omega
    by_cases hlt : i < n
    · obtain ⟨ad, rfl, hb, e0, e1, e2, e3, e4, e5, e6, e7, e8, e9⟩ := h1.out.hd (k := i) (by rw [mkL_len]; exact hlt) (mkL_at k hlt hq)
      have tm1 : (q + 1).tmod 3 = (q + 1) % 3 := Int.tmod_eq_emod_of_nonneg (by omega)
      have tm5 : (q + 1 + 1 + 1 + 1 + 1).tmod 3 = (q + 1 + 1 + 1 + 1 + 1) % 3 := Int.tmod_eq_emod_of_nonneg (by omega)
      have HQ := hide hq
      clear hq
      go_wp2
      go_round
      case rel => exact ⟨i + 1, by omega, by go_num, int_eq (by have := HQ.out; omega)⟩
      case measure => simp [intOf]; omega
    obtain rfl : i = n := by omega
    have HQ := hide hq
    clear hq
    go_wp2
    go_returns
    exact ⟨ret_eq (int_eq (by have := HQ.out; omega)), rfl⟩

theorem markReceiver_c (m : Int) (A : Option Addr) (c base : Nat) (l : List Hd) (k : Int) (w : World) (hown : Hid (w.ownsRow base 42 10 (.slice A l.length c) l.length (hds l))) (bn : l.length ≤ 4000000) (b2 : 0 ≤ k) (b3 : k ≤ 100000000)  : Calls Try.prog 38 #[.agg #[.int .i64 m, .slice A l.length c], .int .i64 k] w (fun e w' => e = .returned (.int .i64 (k + ((l.length * 10 : Nat) : Int))) ∧ w'.ownsRow base 42 10 (.slice A l.length c) l.length (hds (mkL l.length k)) ∧ w.grownBy w' (Value.ownBlock (.slice A l.length c))) := by
  go_enter Try.func38, Try.ntmps38
  go_wp2_with fail
  refine (markHeardS_c A c base l k _ (hide (hown.out.alloc _)) bn b2 b3).mono ?_
  rintro e w1 ⟨rfl, hn, hg⟩
  have hg2 := hide (grown_trans (below_row (w := w) (w' := w.alloc _) (by go_grown) _) hg)
  have HN := hide hn
  clear hn hg
  go_wp2
  go_returns
  exact ⟨ret_eq (by simp), HN.out, hg2.out⟩

theorem heldReceiver_c (m : Int) (A : Option Addr) (c n : Nat) (k : Int) (w : World) (h1 : Hid (Reads w w.heap.size 10 A n (hds (mkL n k)))) (bn : n ≤ 4000000) (b2 : 0 ≤ k) (b3 : k ≤ 100000000)  : Calls Try.prog 39 #[.agg #[.int .i64 m, .slice A n c], .int .i64 k] w (Gives w (.int .i64 (k + ((n * 10 : Nat) : Int)))) := by
  go_enter Try.func39, Try.ntmps39
  go_wp2_with (first | (go_at_call 85; refine (heldHeardS_c A c n k _ (hide (by refine reads_below h1.out ?_; go_grown)) bn b2 b3).mono ?_; rintro e w1 ⟨rfl, rfl⟩))
  go_returns
  exact ⟨ret_eq (by simp), by go_grown⟩
end Go.Proofs.Ytbeojfhakmbacaa
namespace Go.Proofs.Ytbeojfhakmbacaa
open Go.RowKit

set_option maxHeartbeats 4000000 in
theorem eqHeardS_c (A1 A2 : Option Addr) (c1 c2 : Nat) (l : List Hd) (w : World) (h1 : Hid (Reads w w.heap.size 10 A1 l.length (hds l))) (h2 : Hid (Reads w w.heap.size 10 A2 l.length (hds l))) (b1 : l.length ≤ 4000000)  : Calls Try.prog 81 #[.slice A1 l.length c1, .slice A2 l.length c2] w (Gives w (.bool true)) := by
  go_enter Try.func81, Try.ntmps81
  go_wp2
  go_loopw [5] (fun iv wr => ∃ (i : Nat), i ≤ l.length ∧ iv = .int .i64 i ∧ Below w.heap.size w wr) (fun iv _ => l.length - (intOf iv).toNat)
  case atStart => exact ⟨0, by omega, rfl, Below.refl _ _⟩
  case round =>
    obtain ⟨i, hi, rfl, hB⟩ := hrel
    by_cases hlt : i < l.length
    · obtain ⟨⟨a, ⟨eo, ea, eb⟩, et, ⟨oo, oa, ob⟩, ot, f⟩, he⟩ : ∃ q, hx l i = q := ⟨_, rfl⟩
      obtain ⟨a1, rfl, ekb, e0, e1, e2, e3, e4, e5, e6, e7, e8, e9⟩ := (h1.out.below hB).hd (k := i) (by omega) he
      obtain ⟨a2, rfl, gkb, g0, g1, g2, g3, g4, g5, g6, g7, g8, g9⟩ := (h2.out.below hB).hd (k := i) (by omega) he
      clear he
      go_wp2
      refine wp_region_det (fun w' => w'.cell? (a1.add (i * 10)) = some (.int .i64 a) ∧ w'.cell? ⟨(a1.add (i * 10)).block, (a1.add (i * 10)).off + 1, none⟩ = some (.bool eo) ∧ w'.cell? ⟨(a1.add (i * 10)).block, (a1.add (i * 10)).off + 2, none⟩ = some (.int .i64 ea) ∧ w'.cell? ⟨(a1.add (i * 10)).block, (a1.add (i * 10)).off + 3, none⟩ = some (.int .i64 eb) ∧ w'.cell? ⟨(a1.add (i * 10)).block, (a1.add (i * 10)).off + 4, none⟩ = some (.int .i64 et) ∧ w'.cell? ⟨(a1.add (i * 10)).block, (a1.add (i * 10)).off + 5, none⟩ = some (.bool oo) ∧ w'.cell? ⟨(a1.add (i * 10)).block, (a1.add (i * 10)).off + 6, none⟩ = some (.int .i64 oa) ∧ w'.cell? ⟨(a1.add (i * 10)).block, (a1.add (i * 10)).off + 7, none⟩ = some (.int .i64 ob) ∧ w'.cell? ⟨(a1.add (i * 10)).block, (a1.add (i * 10)).off + 8, none⟩ = some (.int .i64 ot) ∧ w'.cell? ⟨(a1.add (i * 10)).block, (a1.add (i * 10)).off + 9, none⟩ = some (.int .i64 f) ∧ w'.cell? (a2.add (i * 10)) = some (.int .i64 a) ∧ w'.cell? ⟨(a2.add (i * 10)).block, (a2.add (i * 10)).off + 1, none⟩ = some (.bool eo) ∧ w'.cell? ⟨(a2.add (i * 10)).block, (a2.add (i * 10)).off + 2, none⟩ = some (.int .i64 ea) ∧ w'.cell? ⟨(a2.add (i * 10)).block, (a2.add (i * 10)).off + 3, none⟩ = some (.int .i64 eb) ∧ w'.cell? ⟨(a2.add (i * 10)).block, (a2.add (i * 10)).off + 4, none⟩ = some (.int .i64 et) ∧ w'.cell? ⟨(a2.add (i * 10)).block, (a2.add (i * 10)).off + 5, none⟩ = some (.bool oo) ∧ w'.cell? ⟨(a2.add (i * 10)).block, (a2.add (i * 10)).off + 6, none⟩ = some (.int .i64 oa) ∧ w'.cell? ⟨(a2.add (i * 10)).block, (a2.add (i * 10)).off + 7, none⟩ = some (.int .i64 ob) ∧ w'.cell? ⟨(a2.add (i * 10)).block, (a2.add (i * 10)).off + 8, none⟩ = some (.int .i64 ot) ∧ w'.cell? ⟨(a2.add (i * 10)).block, (a2.add (i * 10)).off + 9, none⟩ = some (.int .i64 f) ∧ Below w.heap.size w w') (by kernel_rfl) (by kernel_rfl) (by first | (with_reducible assumption) | (exact hS) | (exact ⟨hS.1, hS.2.1, hS.2.2.1, hS.2.2.2.1, hS.2.2.2.2.1, hS.2.2.2.2.2.1, hS.2.2.2.2.2.2.1, hS.2.2.2.2.2.2.2.1, hS.2.2.2.2.2.2.2.2.1, hS.2.2.2.2.2.2.2.2.2.1, hS.2.2.2.2.2.2.2.2.2.2.1, hS.2.2.2.2.2.2.2.2.2.2.2.1, hS.2.2.2.2.2.2.2.2.2.2.2.2.1, hS.2.2.2.2.2.2.2.2.2.2.2.2.2.1, hS.2.2.2.2.2.2.2.2.2.2.2.2.2.2.1, hS.2.2.2.2.2.2.2.2.2.2.2.2.2.2.2.1, hS.2.2.2.2.2.2.2.2.2.2.2.2.2.2.2.2.1, hS.2.2.2.2.2.2.2.2.2.2.2.2.2.2.2.2.2.1, hS.2.2.2.2.2.2.2.2.2.2.2.2.2.2.2.2.2.2.1, hS.2.2.2.2.2.2.2.2.2.2.2.2.2.2.2.2.2.2.2.1, (by go_grown)⟩) | (exact ⟨(by first | (with_reducible assumption) | (simp [go_sem]; done) | ((simp only [go_sem]); (with_reducible assumption)) | ((refine keep_cell ?_ (by with_reducible assumption)); go_grown; done) | (simp [go_sem, *]; done)), (by first | (with_reducible assumption) | (simp [go_sem]; done) | ((simp only [go_sem]); (with_reducible assumption)) | ((refine keep_cell ?_ (by with_reducible assumption)); go_grown; done) | (simp [go_sem, *]; done)), (by first | (with_reducible assumption) | (simp [go_sem]; done) | ((simp only [go_sem]); (with_reducible assumption)) | ((refine keep_cell ?_ (by with_reducible assumption)); go_grown; done) | (simp [go_sem, *]; done)), (by first | (with_reducible assumption) | (simp [go_sem]; done) | ((simp only [go_sem]); (with_reducible assumption)) | ((refine keep_cell ?_ (by with_reducible assumption)); go_grown; done) | (simp [go_sem, *]; done)), (by first | (with_reducible assumption) | (simp [go_sem]; done) | ((simp only [go_sem]); (with_reducible assumption)) | ((refine keep_cell ?_ (by with_reducible assumption)); go_grown; done) | (simp [go_sem, *]; done)), (by first | (with_reducible assumption) | (simp [go_sem]; done) | ((simp only [go_sem]); (with_reducible assumption)) | ((refine keep_cell ?_ (by with_reducible assumption)); go_grown; done) | (simp [go_sem, *]; done)), (by first | (with_reducible assumption) | (simp [go_sem]; done) | ((simp only [go_sem]); (with_reducible assumption)) | ((refine keep_cell ?_ (by with_reducible assumption)); go_grown; done) | (simp [go_sem, *]; done)), (by first | (with_reducible assumption) | (simp [go_sem]; done) | ((simp only [go_sem]); (with_reducible assumption)) | ((refine keep_cell ?_ (by with_reducible assumption)); go_grown; done) | (simp [go_sem, *]; done)), (by first | (with_reducible assumption) | (simp [go_sem]; done) | ((simp only [go_sem]); (with_reducible assumption)) | ((refine keep_cell ?_ (by with_reducible assumption)); go_grown; done) | (simp [go_sem, *]; done)), (by first | (with_reducible assumption) | (simp [go_sem]; done) | ((simp only [go_sem]); (with_reducible assumption)) | ((refine keep_cell ?_ (by with_reducible assumption)); go_grown; done) | (simp [go_sem, *]; done)), (by first | (with_reducible assumption) | (simp [go_sem]; done) | ((simp only [go_sem]); (with_reducible assumption)) | ((refine keep_cell ?_ (by with_reducible assumption)); go_grown; done) | (simp [go_sem, *]; done)), (by first | (with_reducible assumption) | (simp [go_sem]; done) | ((simp only [go_sem]); (with_reducible assumption)) | ((refine keep_cell ?_ (by with_reducible assumption)); go_grown; done) | (simp [go_sem, *]; done)), (by first | (with_reducible assumption) | (simp [go_sem]; done) | ((simp only [go_sem]); (with_reducible assumption)) | ((refine keep_cell ?_ (by with_reducible assumption)); go_grown; done) | (simp [go_sem, *]; done)), (by first | (with_reducible assumption) | (simp [go_sem]; done) | ((simp only [go_sem]); (with_reducible assumption)) | ((refine keep_cell ?_ (by with_reducible assumption)); go_grown; done) | (simp [go_sem, *]; done)), (by first | (with_reducible assumption) | (simp [go_sem]; done) | ((simp only [go_sem]); (with_reducible assumption)) | ((refine keep_cell ?_ (by with_reducible assumption)); go_grown; done) | (simp [go_sem, *]; done)), (by first | (with_reducible assumption) | (simp [go_sem]; done) | ((simp only [go_sem]); (with_reducible assumption)) | ((refine keep_cell ?_ (by with_reducible assumption)); go_grown; done) | (simp [go_sem, *]; done)), (by first | (with_reducible assumption) | (simp [go_sem]; done) | ((simp only [go_sem]); (with_reducible assumption)) | ((refine keep_cell ?_ (by with_reducible assumption)); go_grown; done) | (simp [go_sem, *]; done)), (by first | (with_reducible assumption) | (simp [go_sem]; done) | ((simp only [go_sem]); (with_reducible assumption)) | ((refine keep_cell ?_ (by with_reducible assumption)); go_grown; done) | (simp [go_sem, *]; done)), (by first | (with_reducible assumption) | (simp [go_sem]; done) | ((simp only [go_sem]); (with_reducible assumption)) | ((refine keep_cell ?_ (by with_reducible assumption)); go_grown; done) | (simp [go_sem, *]; done)), (by first | (with_reducible assumption) | (simp [go_sem]; done) | ((simp only [go_sem]); (with_reducible assumption)) | ((refine keep_cell ?_ (by with_reducible assumption)); go_grown; done) | (simp [go_sem, *]; done)), (by go_grown)⟩)) ?_
      repeat (first
        | ((refine wpDet_skip (by rfl) ?_); simp only [Act.put, List.setIfInBounds_toArray, List.set_cons_zero, List.set_cons_succ])
        | ((refine wpDet_val (v := ?_) (by rfl) (fun w hS => ?_) ?_); rotate_left; (focus ((try dsimp only at hS); go_simp; (try (with_reducible rfl)); done)); simp only [Act.put, List.setIfInBounds_toArray, List.set_cons_zero, List.set_cons_succ])
        | ((refine wpDet_call (v := ?_) (f := ?_) (args := ?_) (by rfl) (fun w => ?_) (fun w hS => ?_) ?_); rotate_left; rotate_left; rotate_left; (focus (go_simp; (constructor <;> (with_reducible rfl)); done)); (focus (first | (go_at_call 34; refine (eqHeard_c _ _ _ _ _ _ _ _ _ _ _).mono ?_; intro e w' h; refine ⟨h.1.trans ?_, ⟨keep_cell (h.2) hS.1, keep_cell (h.2) hS.2.1, keep_cell (h.2) hS.2.2.1, keep_cell (h.2) hS.2.2.2.1, keep_cell (h.2) hS.2.2.2.2.1, keep_cell (h.2) hS.2.2.2.2.2.1, keep_cell (h.2) hS.2.2.2.2.2.2.1, keep_cell (h.2) hS.2.2.2.2.2.2.2.1, keep_cell (h.2) hS.2.2.2.2.2.2.2.2.1, keep_cell (h.2) hS.2.2.2.2.2.2.2.2.2.1, keep_cell (h.2) hS.2.2.2.2.2.2.2.2.2.2.1, keep_cell (h.2) hS.2.2.2.2.2.2.2.2.2.2.2.1, keep_cell (h.2) hS.2.2.2.2.2.2.2.2.2.2.2.2.1, keep_cell (h.2) hS.2.2.2.2.2.2.2.2.2.2.2.2.2.1, keep_cell (h.2) hS.2.2.2.2.2.2.2.2.2.2.2.2.2.2.1, keep_cell (h.2) hS.2.2.2.2.2.2.2.2.2.2.2.2.2.2.2.1, keep_cell (h.2) hS.2.2.2.2.2.2.2.2.2.2.2.2.2.2.2.2.1, keep_cell (h.2) hS.2.2.2.2.2.2.2.2.2.2.2.2.2.2.2.2.2.1, keep_cell (h.2) hS.2.2.2.2.2.2.2.2.2.2.2.2.2.2.2.2.2.2.1, keep_cell (h.2) hS.2.2.2.2.2.2.2.2.2.2.2.2.2.2.2.2.2.2.2.1, below_via hS.2.2.2.2.2.2.2.2.2.2.2.2.2.2.2.2.2.2.2.2 (h.2)⟩⟩; with_reducible rfl))); simp only [Act.put, List.setIfInBounds_toArray, List.set_cons_zero, List.set_cons_succ]))
      refine wpDet_nil ?_
      intro w1 hS
      have hT : w1.cell? (a1.add (i * 10)) = some (.int .i64 a) ∧ w1.cell? ⟨(a1.add (i * 10)).block, (a1.add (i * 10)).off + 1, none⟩ = some (.bool eo) ∧ w1.cell? ⟨(a1.add (i * 10)).block, (a1.add (i * 10)).off + 2, none⟩ = some (.int .i64 ea) ∧ w1.cell? ⟨(a1.add (i * 10)).block, (a1.add (i * 10)).off + 3, none⟩ = some (.int .i64 eb) ∧ w1.cell? ⟨(a1.add (i * 10)).block, (a1.add (i * 10)).off + 4, none⟩ = some (.int .i64 et) ∧ w1.cell? ⟨(a1.add (i * 10)).block, (a1.add (i * 10)).off + 5, none⟩ = some (.bool oo) ∧ w1.cell? ⟨(a1.add (i * 10)).block, (a1.add (i * 10)).off + 6, none⟩ = some (.int .i64 oa) ∧ w1.cell? ⟨(a1.add (i * 10)).block, (a1.add (i * 10)).off + 7, none⟩ = some (.int .i64 ob) ∧ w1.cell? ⟨(a1.add (i * 10)).block, (a1.add (i * 10)).off + 8, none⟩ = some (.int .i64 ot) ∧ w1.cell? ⟨(a1.add (i * 10)).block, (a1.add (i * 10)).off + 9, none⟩ = some (.int .i64 f) ∧ w1.cell? (a2.add (i * 10)) = some (.int .i64 a) ∧ w1.cell? ⟨(a2.add (i * 10)).block, (a2.add (i * 10)).off + 1, none⟩ = some (.bool eo) ∧ w1.cell? ⟨(a2.add (i * 10)).block, (a2.add (i * 10)).off + 2, none⟩ = some (.int .i64 ea) ∧ w1.cell? ⟨(a2.add (i * 10)).block, (a2.add (i * 10)).off + 3, none⟩ = some (.int .i64 eb) ∧ w1.cell? ⟨(a2.add (i * 10)).block, (a2.add (i * 10)).off + 4, none⟩ = some (.int .i64 et) ∧ w1.cell? ⟨(a2.add (i * 10)).block, (a2.add (i * 10)).off + 5, none⟩ = some (.bool oo) ∧ w1.cell? ⟨(a2.add (i * 10)).block, (a2.add (i * 10)).off + 6, none⟩ = some (.int .i64 oa) ∧ w1.cell? ⟨(a2.add (i * 10)).block, (a2.add (i * 10)).off + 7, none⟩ = some (.int .i64 ob) ∧ w1.cell? ⟨(a2.add (i * 10)).block, (a2.add (i * 10)).off + 8, none⟩ = some (.int .i64 ot) ∧ w1.cell? ⟨(a2.add (i * 10)).block, (a2.add (i * 10)).off + 9, none⟩ = some (.int .i64 f) ∧ Below w.heap.size w w1 := hS
      clear hS
      have hS := hT
      obtain ⟨c0, c1, c2, c3, c4, c5, c6, c7, c8, c9, c10, c11, c12, c13, c14, c15, c16, c17, c18, c19, hB⟩ := hT
      have hzw : w.heap.size ≤ w1.heap.size := hB.size
      go_wp2
      go_roundw
      case rel => exact ⟨i + 1, by omega, by go_num, by go_grown⟩
      case measure => simp [intOf]; omega
    obtain rfl : i = l.length := by omega
    go_wp2
    go_returns
    exact ⟨ret_eq rfl, by go_grown⟩

theorem eqReceiver_c (m : Int) (A1 A2 : Option Addr) (c1 c2 : Nat) (l : List Hd) (w : World) (h1 : Hid (Reads w w.heap.size 10 A1 l.length (hds l))) (h2 : Hid (Reads w w.heap.size 10 A2 l.length (hds l))) (b1 : l.length ≤ 4000000)  : Calls Try.prog 31 #[.agg #[.int .i64 m, .slice A1 l.length c1], .agg #[.int .i64 m, .slice A2 l.length c2]] w (Gives w (.bool true)) := by
  go_enter Try.func31, Try.ntmps31
  go_wp2_with (first | (go_at_call 81; refine (eqHeardS_c A1 A2 c1 c2 l _ (hide (by refine reads_below h1.out ?_; go_grown)) (hide (by refine reads_below h2.out ?_; go_grown)) b1).mono ?_; rintro e w1 ⟨rfl, hb⟩; have hT : Below w.heap.size w w1 := (fun W h hb => below_via h (hb) : ∀ W : World, (Below w.heap.size w W) → Below W.heap.size W w1 → (Below w.heap.size w w1)) _ (by first | (with_reducible assumption) | go_grown) hb; (try clear hS); have hS := hT; clear hT; have hB := hS; have hzw : w.heap.size ≤ w1.heap.size := hB.size; clear hb))
  go_returns
  exact ⟨ret_eq rfl, by go_grown⟩
end Go.Proofs.Ytbeojfhakmbacaa
namespace Go.Proofs.Ytbeojfhakmbacaa
open Go.RowKit Go.WideShapes Go.ChangeShapes Go.ChangeAt Go.Joins Go.Deep

section
variable {H : Type} {enc : TypeId × Value → H} {P : Program} {w : World} {base : Nat} {spare : Nat → Bool} {held : Bool}
/-- A slice whose elements are structs of one-cell fields. -/
theorem open_slice_fields {t e : TypeId} {fs : Array Field} {fuel : Nat} {cs : List Value} {x : DataW H × List MemPlace} (ht : P.underlying t = some (.slice e)) (he : P.underlying e = some (.struct fs))
    (hone : oneCellFields P fs = true) (hC : P.cellsOf e = fs.size) (h : DataW.trod enc P w base spare held fuel t cs = some x) :
    (cs = [.slice none 0 0] ∧ x = (.nil, [])) ∨
    ∃ (a : Addr) (len cap : Nat), cs = [.slice (some a) len cap] ∧ len ≤ cap ∧ cap ≤ maxLen ∧
      ∀ i, i < len → ∃ (ys : List (DataW H × List MemPlace)) (n : Nat), ys.length = fs.size ∧
        ∀ (j : Nat) (f : Field), fs[j]? = some f → ∃ (v : Value) (y : DataW H × List MemPlace), w.cell? (a.add (i * fs.size + j)) = some v ∧ ys[j]? = some y ∧ DataW.trod enc P w base spare held n f.type [v] = some y := by
  rcases open_slice ht h with h0 | ⟨a, len, cap, m, n, D, Pl, hcs, hb, hl, hm, hmm, hx, hi⟩
  · exact .inl h0
  · refine .inr ⟨a, len, cap, hcs, hl, hm, fun i hil => ?_⟩
    have him : i < m := by rw [hmm]; split <;> omega
    obtain ⟨cs', hc, ht'⟩ := hi i him
    rw [hC] at hc
    obtain ⟨ys, n', hn', hy, hlen, hyl, hf⟩ := DataW.trod_struct he ht'
    obtain ⟨_, hcl, hat⟩ := World.cells?_some hc
    refine ⟨ys, n', hyl, fun j f hj => ?_⟩
    obtain ⟨ho, hk⟩ := hone_of hone j f hj
    have hjl : j < fs.size := (Array.getElem?_eq_some_iff.1 hj).1
    have hcell := hat j hjl
    have hv : cs'[j]? = some (cs'[j]'(by omega)) := List.getElem?_eq_getElem (by omega)
    have h1 := hf j f hj
    rw [ho, hk] at h1
    have hone' : (cs'.drop j).take 1 = [cs'[j]'(by omega)] := by
      rw [List.drop_eq_getElem_cons (by omega)]
      rfl
    rw [hone'] at h1
    have hys : ys[j]? = some (ys[j]'(by omega)) := List.getElem?_eq_getElem (by omega)
    refine ⟨_, _, ?_, hys, h1.trans hys⟩
    rw [← Go.Deep.add_add, hcell, hv]
theorem list_of {α : Type} {n : Nat} {p : Nat → α → Prop} (h : ∀ i, i < n → ∃ x, p i x) (d : α) : ∃ l : List α, l.length = n ∧ ∀ i, i < n → p i (l.getD i d) := by
  induction n with
  | zero => exact ⟨[], rfl, fun i hi => absurd hi (by omega)⟩
  | succ n ih =>
    obtain ⟨l, hl, hp⟩ := ih fun i hi => h i (by omega)
    obtain ⟨x, hx⟩ := h n (by omega)
    refine ⟨l ++ [x], by simp [hl], fun i hi => ?_⟩
    by_cases hin : i < n
    · have := hp i hin
      simpa [List.getD, List.getElem?_append_left (show i < l.length by omega)] using this
    · obtain rfl : i = n := by omega
      simpa [List.getD, ← hl] using hx
theorem reads_mk {size n : Nat} {a : Addr} {xs : List Value} (hl : xs.length = n * size) (hc : ∀ j u, xs[j]? = some u → w.cell? (a.add j) = some u) (hz : size ≠ 0) : Reads w w.heap.size size (some a) n xs :=
  ⟨hl, fun hn => by
    refine ⟨a, rfl, ?_, hc⟩
    have h0 : 0 < xs.length := by rw [hl]; exact Nat.mul_pos hn (by omega)
    have h1 := hc 0 _ (List.getElem?_eq_getElem h0)
    have h2 := World.block_lt_of_cell? w _ h1
    rwa [block_of_add] at h2⟩
/-- A slice of structs of two ints. -/
theorem open_pts {t e : TypeId} {f0 f1 : Field} {v : Value} {d : DataW H} {p : List MemPlace} {r : Reach} {b0 : Nat} (ht : P.underlying t = some (.slice e)) (he : P.underlying e = some (.struct #[f0, f1])) (hone : oneCellFields P #[f0, f1] = true) (hC : P.cellsOf e = 2)
    (h0 : P.underlying f0.type = some (.int .i64)) (h1 : P.underlying f1.type = some (.int .i64)) (hv : Value.okWide P w r b0 t v) (h : DataW.Trod enc P w base spare held t v d p) :
    ∃ (A : Option Addr) (c : Nat) (l : List Pt), v = .slice A l.length c ∧ Reads w w.heap.size 2 A l.length (flat l) ∧ l.length ≤ c ∧ c ≤ 9223372036854775807 := by
  obtain ⟨fuel, hf⟩ := h
  have hvc : v.cells.toList = [v] := by
    obtain ⟨a, n, c, rfl, _⟩ := okWide_slice ht hv
    rfl
  rw [hvc] at hf
  rcases open_slice_fields ht he hone hC hf with ⟨h2, _⟩ | ⟨a, len, cap, h2, hl, hm, hi⟩
  · injection h2 with h2 _
    exact ⟨none, 0, [], by rw [h2]; rfl, Reads.none_, by simp, by omega⟩
  · injection h2 with h2 _
    have hx : ∀ i, i < len → ∃ q : Pt, w.cell? (a.add (i * 2)) = some (.int .i64 q.1) ∧ w.cell? (a.add (i * 2 + 1)) = some (.int .i64 q.2) := by
      intro i hil
      obtain ⟨ys, n, hy, hj⟩ := hi i hil
      obtain ⟨v0, y0, c0, _, t0⟩ := hj 0 f0 rfl
      obtain ⟨v1, y1, c1, _, t1⟩ := hj 1 f1 rfl
      obtain ⟨x, k0, _, _⟩ := DataW.trod_int h0 t0
      obtain ⟨y, k1, _, _⟩ := DataW.trod_int h1 t1
      simp at k0 k1
      subst k0 k1
      exact ⟨(x, y), c0, c1⟩
    obtain ⟨l, hll, hp⟩ := list_of hx (0, 0)
    refine ⟨some a, cap, l, by rw [h2, hll], ?_, by omega, hm⟩
    refine reads_mk (by rw [flat_len]) (fun j u hj => ?_) (by omega)
    have hjl : j < l.length * 2 := by have := (List.getElem?_eq_some_iff.1 hj).1; rwa [flat_len] at this
    have hat := flat_at l (j / 2) (by omega)
    have hpp := hp (j / 2) (by omega)
    have h2 : j % 2 = 0 ∨ j % 2 = 1 := by omega
    rcases h2 with h2 | h2
    · have ej : j / 2 * 2 = j := by omega
      rw [ej] at hat hpp
      rw [hat.1] at hj
      injection hj with hj
      subst hj
      exact hpp.1
    · have ej : j / 2 * 2 + 1 = j := by omega
      rw [ej] at hat hpp
      rw [hat.2] at hj
      injection hj with hj
      subst hj
      exact hpp.2
/-- A slice of ints. -/
theorem open_nums {t e : TypeId} {v : Value} {d : DataW H} {p : List MemPlace} {r : Reach} {b0 : Nat} (ht : P.underlying t = some (.slice e)) (he : P.underlying e = some (.int .i64)) (hC : P.cellsOf e = 1) (hv : Value.okWide P w r b0 t v) (h : DataW.Trod enc P w base spare held t v d p) :
    ∃ (A : Option Addr) (c : Nat) (a : List Int), v = .slice A a.length c ∧ Reads w w.heap.size 1 A a.length (ints a) ∧ a.length ≤ c ∧ c ≤ 9223372036854775807 := by
  obtain ⟨fuel, hf⟩ := h
  have hvc : v.cells.toList = [v] := by
    obtain ⟨a, n, c, rfl, _⟩ := okWide_slice ht hv
    rfl
  rw [hvc] at hf
  rcases open_slice ht hf with ⟨h2, _⟩ | ⟨a, len, cap, m, n, D, Pl, h2, hb, hl, hm, hmm, hx, hi⟩
  · injection h2 with h2 _
    exact ⟨none, 0, [], by rw [h2]; rfl, Reads.none_, by simp, by omega⟩
  · injection h2 with h2 _
    have hx : ∀ i, i < len → ∃ q : Int, w.cell? (a.add i) = some (.int .i64 q) := by
      intro i hil
      have him : i < m := by rw [hmm]; split <;> omega
      obtain ⟨cs', hc, ht'⟩ := hi i him
      rw [hC] at hc
      obtain ⟨_, hcl, hat⟩ := World.cells?_some hc
      rw [Nat.mul_one] at hat
      match cs', hcl with
      | [u], _ =>
        obtain ⟨x, k0, _, _⟩ := DataW.trod_int he ht'
        simp at k0
        subst k0
        have := hat 0 (by omega)
        exact ⟨x, by simpa [Addr.add] using this⟩
    obtain ⟨l, hll, hp⟩ := list_of hx 0
    refine ⟨some a, cap, l, by rw [h2, hll], ?_, by omega, hm⟩
    refine reads_mk (by rw [ints_len]; omega) (fun j u hj => ?_) (by omega)
    have hjl : j < l.length := by have := (List.getElem?_eq_some_iff.1 hj).1; rwa [ints_len] at this
    have hat := ints_at l j hjl
    rw [hat] at hj
    injection hj with hj
    subst hj
    exact hp j (by omega)
end
end Go.Proofs.Ytbeojfhakmbacaa
namespace Go.Proofs.Ytbeojfhakmbacaa
open Go.RowKit Go.WideShapes Go.ChangeShapes Go.ChangeAt Go.Joins Go.Deep
section
variable {H : Type} {enc : TypeId × Value → H} {w : World} {base : Nat} {spare : Nat → Bool} {held : Bool}
theorem cI : Try.prog.cellsOf 3 = 1 := by kernel_rfl
theorem cB : Try.prog.cellsOf 4 = 1 := by kernel_rfl
theorem cR : Try.prog.cellsOf 127 = 3 := by kernel_rfl
theorem cH : Try.prog.cellsOf 129 = 10 := by kernel_rfl
theorem len1 {α : Type} {l : List α} (h : l.length = 1) : ∃ a, l = [a] := by match l, h with | [a], _ => exact ⟨a, rfl⟩
set_option maxRecDepth 100000 in
theorem rp_of {fuel : Nat} {cs : List Value} {x : DataW H × List MemPlace} (h : DataW.trod enc Try.prog w base spare held fuel 127 cs = some x) : ∃ q : Rp, cs = [.bool q.1, .int .i64 q.2.1, .int .i64 q.2.2] := by
  obtain ⟨xs, n, _, _, hl, hx, hf⟩ := DataW.trod_struct Try.underlying127 h
  rw [cR] at hl
  match cs, hl with
  | [c0, c1, c2], _ =>
    match xs, hx with
    | [x0, x1, x2], _ =>
      have h0 : DataW.trod enc Try.prog w base spare held n 4 (([c0, c1, c2].drop 0).take (Try.prog.cellsOf 4)) = [x0, x1, x2][0]? := hf 0 _ rfl
      rw [cB] at h0
      have h1 : DataW.trod enc Try.prog w base spare held n 3 (([c0, c1, c2].drop 1).take (Try.prog.cellsOf 3)) = [x0, x1, x2][1]? := hf 1 _ rfl
      rw [cI] at h1
      have h2 : DataW.trod enc Try.prog w base spare held n 3 (([c0, c1, c2].drop 2).take (Try.prog.cellsOf 3)) = [x0, x1, x2][2]? := hf 2 _ rfl
      rw [cI] at h2
      obtain ⟨o, k0, _⟩ := DataW.trod_bool Try.underlying4 h0
      obtain ⟨a, k1, _, _⟩ := DataW.trod_int Try.underlying3 h1
      obtain ⟨b, k2, _, _⟩ := DataW.trod_int Try.underlying3 h2
      simp at k0 k1 k2
      exact ⟨(o, a, b), by rw [k0, k1, k2]⟩
set_option maxRecDepth 100000 in
theorem hd_of {fuel : Nat} {cs : List Value} {x : DataW H × List MemPlace} (h : DataW.trod enc Try.prog w base spare held fuel 129 cs = some x) : ∃ q : Hd, cs = hdc q := by
  obtain ⟨xs, n, _, _, hl, hx, hf⟩ := DataW.trod_struct Try.underlying129 h
  rw [cH] at hl
  match cs, hl with
  | [c0, c1, c2, c3, c4, c5, c6, c7, c8, c9], _ =>
    match xs, hx with
    | [x0, x1, x2, x3, x4, x5], _ =>
      have h0 : DataW.trod enc Try.prog w base spare held n 3 (([c0, c1, c2, c3, c4, c5, c6, c7, c8, c9].drop 0).take (Try.prog.cellsOf 3)) = [x0, x1, x2, x3, x4, x5][0]? := hf 0 _ rfl
      rw [cI] at h0
      have h1 : DataW.trod enc Try.prog w base spare held n 127 (([c0, c1, c2, c3, c4, c5, c6, c7, c8, c9].drop 1).take (Try.prog.cellsOf 127)) = [x0, x1, x2, x3, x4, x5][1]? := hf 1 _ rfl
      rw [cR] at h1
      have h2 : DataW.trod enc Try.prog w base spare held n 3 (([c0, c1, c2, c3, c4, c5, c6, c7, c8, c9].drop 4).take (Try.prog.cellsOf 3)) = [x0, x1, x2, x3, x4, x5][2]? := hf 2 _ rfl
      rw [cI] at h2
      have h3 : DataW.trod enc Try.prog w base spare held n 127 (([c0, c1, c2, c3, c4, c5, c6, c7, c8, c9].drop 5).take (Try.prog.cellsOf 127)) = [x0, x1, x2, x3, x4, x5][3]? := hf 3 _ rfl
      rw [cR] at h3
      have h4 : DataW.trod enc Try.prog w base spare held n 3 (([c0, c1, c2, c3, c4, c5, c6, c7, c8, c9].drop 8).take (Try.prog.cellsOf 3)) = [x0, x1, x2, x3, x4, x5][4]? := hf 4 _ rfl
      rw [cI] at h4
      have h5 : DataW.trod enc Try.prog w base spare held n 3 (([c0, c1, c2, c3, c4, c5, c6, c7, c8, c9].drop 9).take (Try.prog.cellsOf 3)) = [x0, x1, x2, x3, x4, x5][5]? := hf 5 _ rfl
      rw [cI] at h5
      obtain ⟨a, k0, _, _⟩ := DataW.trod_int Try.underlying3 h0
      obtain ⟨q1, k1⟩ := rp_of h1
      obtain ⟨b, k2, _, _⟩ := DataW.trod_int Try.underlying3 h2
      obtain ⟨q2, k3⟩ := rp_of h3
      obtain ⟨c, k4, _, _⟩ := DataW.trod_int Try.underlying3 h4
      obtain ⟨d, k5, _, _⟩ := DataW.trod_int Try.underlying3 h5
      simp at k0 k1 k2 k3 k4 k5
      refine ⟨(a, q1, b, q2, c, d), ?_⟩
      rw [k0, k1.1, k1.2.1, k1.2.2, k2, k3.1, k3.2.1, k3.2.2, k4, k5]
      rfl
set_option maxRecDepth 100000 in
theorem open_recv {v : Value} {d : DataW H} {p : List MemPlace} {r : Reach} {b0 : Nat} (hv : Value.okWide Try.prog w r b0 59 v) (h : DataW.Trod enc Try.prog w base spare held 59 v d p) :
    ∃ (m : Int) (A : Option Addr) (c : Nat) (l : List Hd), v = .agg #[.int .i64 m, .slice A l.length c] ∧ Reads w w.heap.size 10 A l.length (hds l) ∧ (-9223372036854775808 ≤ m ∧ m ≤ 9223372036854775807) ∧ l.length ≤ c ∧ c ≤ 9223372036854775807 := by
  obtain ⟨v0, v1, y0, y1, n, rfl, _, _, e0, e1⟩ := open_agg2 Try.underlying59 (by kernel_rfl) (by kernel_rfl) hv h
  obtain ⟨m, k0, _, w0⟩ := DataW.trod_int Try.underlying3 e0
  simp at k0
  subst k0
  rcases open_slice Try.underlying57 e1 with ⟨h2, _⟩ | ⟨a, len, cap, k, n', D, Pl, h2, hb, hl, hm, hmm, hx, hi⟩
  · injection h2 with h2 _
    exact ⟨m, none, 0, [], by rw [h2]; rfl, Reads.none_, i64_of_wf w0, by simp, by omega⟩
  · injection h2 with h2 _
    have hx : ∀ i, i < len → ∃ q : Hd, ∀ j u, j < 10 → (hdc q)[j]? = some u → w.cell? (a.add (i * 10 + j)) = some u := by
      intro i hil
      have him : i < k := by rw [hmm]; split <;> omega
      obtain ⟨cs', hc, ht'⟩ := hi i him
      rw [cH] at hc
      obtain ⟨q, rfl⟩ := hd_of ht'
      obtain ⟨_, hcl, hat⟩ := World.cells?_some hc
      refine ⟨q, fun j u hj hu => ?_⟩
      have h3 := hat j hj
      rw [Go.Deep.add_add] at h3
      rw [h3]; exact hu
    obtain ⟨l, hll, hp⟩ := list_of hx nHd
    refine ⟨m, some a, cap, l, by rw [h2, hll], ?_, i64_of_wf w0, by omega, hm⟩
    refine reads_mk (by rw [hds_len]) (fun j u hj => ?_) (by omega)
    have hjl : j < l.length * 10 := by have := (List.getElem?_eq_some_iff.1 hj).1; rwa [hds_len] at this
    have h3 := hds_at l (j / 10) (j % 10) (by omega) (by omega)
    have ej : j / 10 * 10 + j % 10 = j := by omega
    rw [ej, hj] at h3
    have h4 := hp (j / 10) (by omega) (j % 10) u (by omega) h3.symm
    rwa [ej] at h4
end
end Go.Proofs.Ytbeojfhakmbacaa
namespace Go.Proofs.Ytbeojfhakmbacaa
open Go.RowKit

def strs (l : List ByteArray) : List Value := l.map .string
def sx (l : List ByteArray) (k : Nat) : ByteArray := l.getD k ByteArray.empty
theorem strs_len (l : List ByteArray) : (strs l).length = l.length := by simp [strs]
theorem strs_at (l : List ByteArray) (k : Nat) (h : k < l.length) : (strs l)[k]? = some (.string (sx l k)) := by
  simp [strs, sx, h]
theorem strs_one (l : List ByteArray) : ∀ u ∈ strs l, u.oneCell' = true := by
  intro u hu
  unfold strs at hu
  obtain ⟨s, _, rfl⟩ := List.mem_map.1 hu
  rfl
theorem sx_mem {l : List ByteArray} {k : Nat} (h : k < l.length) : sx l k ∈ l := by
  unfold sx; rw [List.getD_eq_getElem?_getD, List.getElem?_eq_getElem h]; simp
theorem take_str (l : List ByteArray) (k : Nat) (h : k < l.length) : l.take (k + 1) = l.take k ++ [sx l k] := by
  rw [List.take_succ_eq_append_getElem h]; unfold sx; rw [List.getD_eq_getElem?_getD, List.getElem?_eq_getElem h]; rfl
theorem Reads.str {w : World} {B n : Nat} {A : Option Addr} {l : List ByteArray} (h : Reads w B 1 A n (strs l)) {k : Nat} (hk : k < l.length) : ∃ ad : Addr, A = some ad ∧ ad.block < B ∧ w.cell? (ad.add k) = some (.string (sx l k)) := by
  have hl := h.1
  rw [strs_len] at hl
  exact h.one (by omega) (strs_at l k hk)
def esS (n : Nat) : List Value := List.replicate n (.string ByteArray.empty)
theorem esS_succ (n : Nat) : esS (n + 1) = .string ByteArray.empty :: esS n := rfl
theorem esS_made (n : Nat) : (madeCells (Value.string ByteArray.empty).cells (n * 1)).toList = esS n := by
  rw [Nat.mul_one]; exact toList_madeCells_one _ _
theorem esS_at {xs : List Value} {i r : Nat} (h : xs.length = i) : (xs ++ esS (r + 1))[i]? = some (.string ByteArray.empty) := by
  subst h; rw [esS_succ]; simp
theorem fill_str (l : List ByteArray) {i r : Nat} (h : i + (r + 1) = l.length) : (strs (l.take i) ++ esS (r + 1)).set i (.string (sx l i)) = strs (l.take (i + 1)) ++ esS r := by
  rw [esS_succ, set_mid _ _ _ _ (by rw [strs_len, List.length_take]; omega), take_str l i (by omega)]
  simp [strs]

theorem infoStr : (Try.prog.info? 9).map (fun i => (i.zero, i.size, i.bytes)) = some (some (.string ByteArray.empty), 1, 16) := by kernel_rfl
end Go.Proofs.Ytbeojfhakmbacaa
namespace Go.Proofs.Ytbeojfhakmbacaa
open Go.RowKit Go.WideShapes Go.ChangeShapes Go.ChangeAt Go.Joins Go.Deep
section
variable {H : Type} {enc : TypeId × Value → H} {P : Program} {w : World} {base : Nat} {spare : Nat → Bool} {held : Bool}
/-- A slice of texts. -/
theorem open_strs {t e : TypeId} {v : Value} {d : DataW H} {p : List MemPlace} {r : Reach} {b0 : Nat} (ht : P.underlying t = some (.slice e)) (he : P.underlying e = some .string) (hC : P.cellsOf e = 1) (hv : Value.okWide P w r b0 t v) (h : DataW.Trod enc P w base spare held t v d p) :
    ∃ (A : Option Addr) (c : Nat) (a : List ByteArray), v = .slice A a.length c ∧ Reads w w.heap.size 1 A a.length (Go.Proofs.Ytbeojfhakmbacaa.strs a) ∧ a.length ≤ c ∧ c ≤ 9223372036854775807 ∧ ∀ s ∈ a, s.size ≤ maxLen := by
  obtain ⟨fuel, hf⟩ := h
  have hvc : v.cells.toList = [v] := by
    obtain ⟨a, n, c, rfl, _⟩ := okWide_slice ht hv
    rfl
  rw [hvc] at hf
  rcases open_strings ht he hC hf with ⟨h2, _⟩ | ⟨a, len, cap, ss, h2, _, hl, hm, hz, _, hcell, hsz⟩
  · injection h2 with h2 _
    exact ⟨none, 0, [], by rw [h2]; rfl, Reads.none_, by simp, by omega, by simp⟩
  · injection h2 with h2 _
    have hle : len ≤ ss.length := by rw [hz]; split <;> omega
    have hll : (ss.take len).length = len := by rw [List.length_take]; omega
    refine ⟨some a, cap, ss.take len, by rw [h2, hll], ?_, by omega, hm, fun s hs => hsz s (List.mem_of_mem_take hs)⟩
    refine reads_mk (by rw [strs_len]; omega) (fun j u hj => ?_) (by omega)
    have hjl : j < (ss.take len).length := by have := (List.getElem?_eq_some_iff.1 hj).1; rwa [strs_len] at this
    have hat := strs_at (ss.take len) j hjl
    rw [hat] at hj
    injection hj with hj
    subst hj
    have h9 := hcell j (by omega)
    rw [h9]
    unfold sx
    rw [List.getD_eq_getElem?_getD, List.getD_eq_getElem?_getD, List.getElem?_take, if_pos (by omega)]
end
end Go.Proofs.Ytbeojfhakmbacaa
namespace Go.Proofs.Ytbeojfhakmbacaa
open Go.RowKit

theorem conv_one (v : Int) (c : UInt8) (hv : v = c.toNat) (W : World) (a : Addr) (cap : Nat) (h : W.cell? a = some (.int .u8 v)) :
    (convert 22 9 (.slice (some a) 1 cap)).run Try.prog W = .ok (.string (str [c])) W := by
  have h2 := run_convert_bytes_back (P := Try.prog) W 22 9 5 a cap [c] Try.underlying22 Try.underlying5 Try.underlying9 (by
    intro j hj
    match j, hj with
    | 0, _ => simpa [Addr.add, hv] using h)
  exact h2


theorem markText_c (n : Int) (h0 : 1 ≤ n) (h1 : n ≤ 1000000000000) (w : World) : Calls Try.prog 88 #[.int .i64 n] w (fun e w' => ∃ z : ByteArray, e = .returned (.string z) ∧ Below w.heap.size w w') := by
  have hn : ¬ n ≤ 0 := by omega
  have hn2 : decide (n ≤ 0) = false := decide_eq_false hn
  clear hn
  go_enter Try.func88, Try.ntmps88
  go_wp2
  go_loopw [0, 3] (fun nv sv wr => ∃ (m : Int) (s : ByteArray), nv = .int .i64 m ∧ sv = .string s ∧ 0 ≤ m ∧ m ≤ n ∧ (s.size : Int) + m ≤ n ∧ Below w.heap.size w wr) (fun nv _ _ => (intOf nv).toNat)
  case atStart => exact ⟨n, ByteArray.empty, rfl, rfl, by omega, by omega, by simp, Below.refl _ _⟩
  case round =>
    obtain ⟨m, s, rfl, rfl, m0, m1, ms, hB⟩ := hrel
    have hzw : w.heap.size ≤ wr.heap.size := hB.size
    by_cases g : 0 < m
    · have q1 : m.tdiv 10 = m / 10 := Int.tdiv_eq_ediv_of_nonneg m0
      have q2 : m.tmod 10 = m % 10 := Int.tmod_eq_emod_of_nonneg m0
      have hconv : ∀ (W : World) (a : Addr), W.cell? a = some (.int .u8 (48 + m % 10)) → (convert 22 9 (.slice (some a) 1 1)).run Try.prog W = .ok (.string (str [dig m.toNat])) W :=
        fun W a h => conv_one _ _ (by rw [dig_val]; omega) W a 1 h
      have hadd : ∀ W : World, (Op.stringOp .add (str [dig m.toNat]) s).run Try.prog W = .ok (.string (str [dig m.toNat] ++ s)) W := fun W => run_string_add_sum W _ _ (by
        rw [str_size]; simp; omega)
      have HSZ := hide (show (((str [dig m.toNat] ++ s).size : Nat) : Int) = s.size + 1 from by rw [ByteArray.size_append, str_size]; simp; omega)
      go_wp2
      go_roundw
      case rel => exact ⟨m / 10, _, rfl, rfl, by omega, by omega, by rw [HSZ.out]; omega, by go_grown⟩
      case measure => simp [intOf]; omega
    · have hadd : ∀ W : World, (Op.stringOp .add ⟨#[109]⟩ s).run Try.prog W = .ok (.string (⟨#[109]⟩ ++ s)) W := fun W => run_string_add_sum W _ _ (by
        rw [show (ByteArray.mk #[109]).size = 1 from rfl]; omega)
      have g2 : decide (0 < m) = false := decide_eq_false g
      clear g
      go_wp2
      go_returns
      exact ⟨_, rfl, by go_grown⟩

theorem szStringS_c (A : Option Addr) (c : Nat) (l : List ByteArray) (k : Int) (w : World) (h1 : Hid (Reads w w.heap.size 1 A l.length (strs l))) (b1 : l.length ≤ 9223372036854775807) (hs : Hid (∀ s ∈ l, s.size ≤ maxLen)) (k0 : 0 ≤ k) (k1 : k ≤ 1048576)  : Calls Try.prog 49 #[.slice A l.length c, .int .i64 k] w (fun e w' => ∃ v : Int, e = .returned (.int .i64 v) ∧ (v < 0 ∨ (0 ≤ v ∧ (l.length ≤ 1048576 ∧ Hid (∀ s ∈ l, s.size ≤ 1048576)))) ∧ w = w') := by
  by_cases hbig : k < (l.length : Int)
  · have hb2 : k - (l.length : Int) < 0 := by omega
    have ew : IntKind.i64.wrap (k - (l.length : Int)) = k - (l.length : Int) := IntWalk.i64_in _ (by omega)
    go_enter Try.func49, Try.ntmps49
    go_wp2
    go_returns
    exact ⟨_, rfl, .inl (by omega), rfl⟩
  have ew : IntKind.i64.wrap (k - (l.length : Int)) = k - (l.length : Int) := IntWalk.i64_in _ (by omega)
  go_enter Try.func49, Try.ntmps49
  go_wp2
  go_loop [1, 5] (fun kv iv => ∃ (i : Nat) (q : Int), i ≤ l.length ∧ iv = .int .i64 i ∧ kv = .int .i64 q ∧ 0 ≤ q ∧ q ≤ k ∧ Hid (∀ s ∈ l.take i, s.size ≤ 1048576)) (fun _ iv => l.length - (intOf iv).toNat)
  case atStart => exact ⟨0, k - l.length, by omega, rfl, rfl, by omega, by omega, hide (by simp)⟩
  case round =>
    obtain ⟨i, q, hi, rfl, rfl, q0, q1, HQ⟩ := hrel
    by_cases hlt : i < l.length
    · obtain ⟨ad, rfl, hb, hc⟩ := h1.out.str hlt
      have hsm := hs.out _ (sx_mem hlt)
      unfold maxLen at hsm
      obtain ⟨z, hz⟩ : ∃ z, sx l i = z := ⟨_, rfl⟩
      rw [hz] at hc hsm
      have HZ := hide hz
      clear hz
      have ew2 : IntKind.i64.wrap (q - (z.size : Int)) = q - (z.size : Int) := IntWalk.i64_in _ (by omega)
      by_cases hq : q - (z.size : Int) < 0
      · go_wp2
        go_returns
        exact ⟨_, rfl, .inl (by omega), rfl⟩
      · have hq2 : decide (q - (z.size : Int) < 0) = false := decide_eq_false hq
        have HQ2 := hide (show ∀ s ∈ l.take (i + 1), s.size ≤ 1048576 from fun s hm => by
          rw [take_str l i hlt, List.mem_append] at hm
          rcases hm with hm | hm
          · exact HQ.out s hm
          · simp at hm; subst hm; rw [HZ.out]; omega)
        have hq3 : 0 ≤ q - (z.size : Int) := by omega
        clear hq
        go_wp2
        go_round
        case rel => exact ⟨i + 1, q - z.size, by omega, by go_num, rfl, by omega, by omega, HQ2⟩
        case measure => simp [intOf]; omega
    · obtain rfl : i = l.length := by omega
      go_wp2
      go_returns
      exact ⟨_, rfl, .inr ⟨q0, by omega, by have h9 := HQ.out; rw [List.take_length] at h9; exact hide h9⟩, rfl⟩

set_option maxHeartbeats 2000000 in
theorem toStringS_c (A : Option Addr) (c : Nat) (l : List ByteArray) (w : World) (h1 : Hid (Reads w w.heap.size 1 A l.length (strs l))) (b1 : l.length ≤ 4000000)  : Calls Try.prog 50 #[.slice A l.length c] w (GivesS w 9 1 l.length (strs l) id) := by
  obtain ⟨i0, hi0, iz0, iy0, ix0⟩ := info_parts infoStr
  go_enter Try.func50, Try.ntmps50
  go_wp2_with (first | (at_make; refine wpList_make_full _ rfl _ _ 71 rfl w.heap.size 9 i0 (.string ByteArray.empty) 1 Try.underlying71 hi0 iz0 iy0 .i64 .i64 l.length l.length l.length rfl rfl rfl rfl (by rw [ix0]; omega) (by unfold maxLen; omega) (by simp) ?_; intro w1 hown hgrow))
  have hB1 : Below w.heap.size w w1 := (Below.refl _ _).grown hgrow (Nat.le_refl _) (by intro k hk; cases hk)
  rw [esS_made] at hown
  have HO := hide hown
  clear hown hgrow hi0 iz0 iy0 ix0
  go_loopw [4] (fun iv wr => ∃ (i r : Nat), i + r = l.length ∧ iv = .int .i64 i ∧ Hid (wr.ownsRow w.heap.size 9 1 (.slice (some ⟨w.heap.size, 0, none⟩) l.length l.length) l.length (strs (l.take i) ++ esS r)) ∧ Below w.heap.size w wr) (fun iv _ => l.length - (intOf iv).toNat)
  case atStart => exact ⟨0, l.length, by omega, rfl, hide HO.out, hB1⟩
  case round =>
    obtain ⟨i, r, hir, rfl, hown, hB⟩ := hrel
    have hzw : w.heap.size ≤ wr.heap.size := hB.size
    by_cases hlt : i < l.length
    · obtain ⟨ad, rfl, hb, hc⟩ := (h1.out.below hB).str hlt
      obtain ⟨r, rfl⟩ : ∃ q, r = q + 1 := ⟨r - 1, by omega⟩
      have hcell : wr.cell? ⟨w.heap.size, i, none⟩ = some (.string ByteArray.empty) := by rw [hown.out.cellAt i (by omega)]; exact esS_at (by rw [strs_len, List.length_take]; omega)
      have hfr := hown.out.frozenAt i
      have HST := hide (hown.out.stored i (.string (sx l i))).1
      go_wp2
      go_roundw
      case rel => exact ⟨i + 1, r, by omega, by go_num, hide (by rw [← fill_str l hir]; exact HST.out), hB.setCell (p := ⟨w.heap.size, i, none⟩) (Nat.le_refl _) _⟩
      case measure => simp [intOf]; omega
    obtain rfl : i = l.length := by omega
    obtain rfl : r = 0 := by omega
    go_wp2
    go_returns
    exact ⟨_, _, rfl, by have h9 := hown.out; rw [List.take_length] at h9; simpa [esS] using h9, hB⟩

set_option maxHeartbeats 2000000 in
theorem eqStringS_c (A1 A2 : Option Addr) (c1 c2 : Nat) (l : List ByteArray) (w : World) (h1 : Hid (Reads w w.heap.size 1 A1 l.length (strs l))) (h2 : Hid (Reads w w.heap.size 1 A2 l.length (strs l))) (b1 : l.length ≤ 4000000)  : Calls Try.prog 51 #[.slice A1 l.length c1, .slice A2 l.length c2] w (Gives w (.bool true)) := by
  go_enter Try.func51, Try.ntmps51
  go_wp2
  go_loopw [5] (fun iv wr => ∃ (i : Nat), i ≤ l.length ∧ iv = .int .i64 i ∧ Below w.heap.size w wr) (fun iv _ => l.length - (intOf iv).toNat)
  case atStart => exact ⟨0, by omega, rfl, Below.refl _ _⟩
  case round =>
    obtain ⟨i, hi, rfl, hB⟩ := hrel
    by_cases hlt : i < l.length
    · obtain ⟨ad, rfl, hb, hc⟩ := (h1.out.below hB).str hlt
      obtain ⟨ad2, rfl, hb2, hc2⟩ := (h2.out.below hB).str hlt
      obtain ⟨z, hz⟩ : ∃ z, sx l i = z := ⟨_, rfl⟩
      rw [hz] at hc hc2
      clear hz
      go_wp2
      refine wp_region_det (fun w' => w'.cell? (ad.add i) = some (.string z) ∧ w'.cell? (ad2.add i) = some (.string z) ∧ Below w.heap.size w w') (by kernel_rfl) (by kernel_rfl) (by first | (with_reducible assumption) | (exact hS) | (exact ⟨hS.1, hS.2.1, (by go_grown)⟩) | (exact ⟨(by first | (with_reducible assumption) | (simp [go_sem]; done) | ((simp only [go_sem]); (with_reducible assumption)) | ((refine keep_cell ?_ (by with_reducible assumption)); go_grown; done) | (simp [go_sem, *]; done)), (by first | (with_reducible assumption) | (simp [go_sem]; done) | ((simp only [go_sem]); (with_reducible assumption)) | ((refine keep_cell ?_ (by with_reducible assumption)); go_grown; done) | (simp [go_sem, *]; done)), (by go_grown)⟩)) ?_
      repeat (first
        | ((refine wpDet_skip (by rfl) ?_); simp only [Act.put, List.setIfInBounds_toArray, List.set_cons_zero, List.set_cons_succ])
        | ((refine wpDet_val (v := ?_) (by rfl) (fun w hS => ?_) ?_); rotate_left; (focus ((try dsimp only at hS); go_simp; (try (with_reducible rfl)); done)); simp only [Act.put, List.setIfInBounds_toArray, List.set_cons_zero, List.set_cons_succ]))
      refine wpDet_nil ?_
      intro w1 hS
      have hT : w1.cell? (ad.add i) = some (.string z) ∧ w1.cell? (ad2.add i) = some (.string z) ∧ Below w.heap.size w w1 := hS
      clear hS
      have hS := hT
      obtain ⟨c0, c1, hB⟩ := hT
      have hzw : w.heap.size ≤ w1.heap.size := hB.size
      go_wp2
      go_roundw
      case rel => exact ⟨i + 1, by omega, by go_num, by go_grown⟩
      case measure => simp [intOf]; omega
    obtain rfl : i = l.length := by omega
    go_wp2
    go_returns
    exact ⟨ret_eq rfl, by go_grown⟩

set_option maxHeartbeats 2000000 in
theorem markStringS_c (A : Option Addr) (c n base : Nat) (xs : List Value) (k : Int) (w : World) (hown : Hid (w.ownsRow base 9 1 (.slice A n c) n xs)) (bn : n ≤ 4000000) (b2 : 1 ≤ k) (b3 : k ≤ 100000000)  : Calls Try.prog 52 #[.slice A n c, .int .i64 k] w (fun e w' => e = .returned (.int .i64 (k + (n : Int))) ∧ (∃ ys, w'.ownsRow base 9 1 (.slice A n c) n ys) ∧ w.grownBy w' (Value.ownBlock (.slice A n c))) := by
  by_cases hz : n = 0
  · subst hz
    go_enter Try.func52, Try.ntmps52
    go_wp2
    go_loop [1, 5] (fun kv iv => kv = .int .i64 k ∧ iv = .int .i64 0) (fun _ _ => 0)
    case atStart => exact ⟨rfl, rfl⟩
    case round =>
      obtain ⟨rfl, rfl⟩ := hrel
      go_wp2
      go_returns
      exact ⟨ret_eq (by simp), ⟨_, hown.out⟩, World.grownBy.refl _ _⟩
  obtain ⟨g, rfl, hg0, hg1⟩ := own_at hown.out hz
  go_enter Try.func52, Try.ntmps52
  go_wp2
  go_loopw [1, 5] (fun kv iv wr => ∃ i : Nat, i ≤ n ∧ iv = .int .i64 i ∧ kv = .int .i64 (k + (i : Int)) ∧ Hid (∃ ys, wr.ownsRow base 9 1 (.slice (some ⟨g, 0, none⟩) n c) n ys) ∧ Hid (w.grownBy wr (some g))) (fun _ iv _ => n - (intOf iv).toNat)
  case atStart => exact ⟨0, by omega, rfl, by go_num, hide ⟨_, hown.out⟩, hide (World.grownBy.refl _ _)⟩
  case round =>
    obtain ⟨i, hi, rfl, rfl, hw, hgr⟩ := hrel
    obtain ⟨q, hq⟩ : ∃ q, k + (i : Int) = q := ⟨_, rfl⟩
    have hq1 : 1 ≤ q := by omega
    have hq2 : q ≤ 200000000 := by omega
    rw [hq]
    have HQ := hide hq
    clear hq
    by_cases hlt : i < n
    · obtain ⟨ys, hys⟩ := hw.out
      go_wp2_with fail
      refine (markText_c q hq1 (by omega) _).mono ?_
      rintro e w1 ⟨z, rfl, hb⟩
      have ho1 := own_below hys hb
      have hg9 := grown_trans hgr.out (show wr.grownBy w1 (some g) from ⟨hb.os, hb.tape, hb.output, hb.size, fun k hk _ => hb.block k hk⟩)
      have hcell : ∃ u, w1.cell? ⟨g, i, none⟩ = some u := by
        rw [ho1.cellAt i (by omega)]
        exact ⟨_, List.getElem?_eq_getElem (by rw [ho1.1]; omega)⟩
      obtain ⟨u, hu⟩ := hcell
      have hfr := ho1.frozenAt i
      have hst := hide (ho1.stored i (.string z))
      have HG := hide (grown_trans hg9 hst.out.2)
      have HW := hide (show ∃ ys, (w1.setCell ⟨g, i, none⟩ (.string z)).ownsRow base 9 1 (.slice (some ⟨g, 0, none⟩) n c) n ys from ⟨_, hst.out.1⟩)
      clear hys hb ho1 hg9 hst hw hgr
      go_wp2_with fail
      go_roundw
      case rel => exact ⟨i + 1, by omega, by go_num, int_eq (by have := HQ.out; omega), HW, HG⟩
      case measure => simp [intOf]; omega
    obtain rfl : i = n := by omega
    go_wp2
    go_returns
    exact ⟨ret_eq (int_eq (by have := HQ.out; omega)), hw.out, hgr.out⟩
end Go.Proofs.Ytbeojfhakmbacaa
namespace Go.Proofs.Ytbeojfhakmbacaa
def RvK (m : Int) (l : List Hd) (s : ByteArray) (t : Int) : Bool := okR m l && rvK m l s t
def RvM (m : Int) (l : List Hd) (s : ByteArray) (t : Int) : Int := if okR m l = true then rvM m l s t else 0
def RvV (m : Int) (l : List Hd) (s : ByteArray) (t : Int) : List Hd := if okR m l = true then rvV m l s t else []
theorem Rv_bad {m : Int} {l : List Hd} {s : ByteArray} {t : Int} (h : okR m l = false) : RvK m l s t = false ∧ RvM m l s t = 0 ∧ RvV m l s t = [] :=
  ⟨by unfold RvK; rw [h]; rfl, by unfold RvM; rw [h]; rfl, by unfold RvV; rw [h]; rfl⟩
theorem Rv_ok {m : Int} {l : List Hd} {s : ByteArray} {t : Int} (h : okR m l = true) : RvK m l s t = rvK m l s t ∧ RvM m l s t = rvM m l s t ∧ RvV m l s t = rvV m l s t :=
  ⟨by unfold RvK; rw [h]; rfl, by unfold RvM; rw [if_pos h], by unfold RvV; rw [if_pos h]⟩
theorem RvV_len (m : Int) (l : List Hd) (s : ByteArray) (t : Int) : (RvV m l s t).length ≤ l.length + 1 := by
  unfold RvV; split
  · exact rvV_len _ _ _ _
  · simp
end Go.Proofs.Ytbeojfhakmbacaa
namespace Go.Proofs.Ytbeojfhakmbacaa
open Go.RowKit

theorem rv_rs {m : Int} {l : List Hd} {s : ByteArray} {t : Int} (hk : rfK s = true) (hm : m ≤ t) : rvK m l s t = rsK t (rfAd s) (rfKd s) (rfDt s) l ∧ rvM m l s t = rsM t (rfAd s) (rfKd s) (rfDt s) l ∧ rvV m l s t = rsV t (rfAd s) (rfKd s) (rfDt s) l := by
  have h : rvK m l s t = rsK t (rfAd s) (rfKd s) (rfDt s) l := by unfold rvK rsK; rw [hk, decide_eq_true hm]; rfl
  refine ⟨h, ?_, ?_⟩
  · unfold rvM rsM; rw [h]
  · unfold rvV rsV; rw [h]
theorem rv_f {m : Int} {l : List Hd} {s : ByteArray} {t : Int} (h : rfK s = false) : rvK m l s t = false := by unfold rvK; rw [h]; rfl
theorem rv_t {m : Int} {l : List Hd} {s : ByteArray} {t : Int} (h : wi t 0 9999 = false) : rvK m l s t = false := by
  unfold rvK; rw [okR_min h]; simp
theorem rv_m {m : Int} {l : List Hd} {s : ByteArray} {t : Int} (h : ¬ m ≤ t) : rvK m l s t = false := by
  unfold rvK; rw [decide_eq_false h]; simp

set_option maxRecDepth 100000 in
set_option maxHeartbeats 16000000 in
theorem sReceive_c (m : Int) (A : Option Addr) (c : Nat) (l : List Hd) (s : ByteArray) (t : Int) (w : World) (h1 : Hid (Reads w w.heap.size 10 A l.length (hds l))) (b1 : l.length ≤ 4000000) (hmax : s.size ≤ 1000000000000)  : Calls Try.prog 16 #[.agg #[.int .i64 m, .slice A l.length c], .string s, .int .i64 t] w (GivesS w 42 10 (RvV m l s t).length (hds (RvV m l s t)) (fun v => .tuple #[.agg #[.int .i64 (RvM m l s t), v], .bool (RvK m l s t)])) := by
  obtain ⟨Kd, h9⟩ : ∃ q, rfKd s = q := ⟨_, rfl⟩
  have HKD := hide h9
  clear h9
  obtain ⟨Ad, h9⟩ : ∃ q, rfAd s = q := ⟨_, rfl⟩
  have HAD := hide h9
  clear h9
  obtain ⟨Dt, h9⟩ : ∃ q, rfDt s = q := ⟨_, rfl⟩
  have HDT := hide h9
  clear h9
  obtain ⟨FI, h9⟩ : ∃ q, rfI s = q := ⟨_, rfl⟩
  have HFI := hide h9
  clear h9
  rcases ho : okR m l with _ | _
  have HF := hide (Rv_bad (s := s) (t := t) ho)
  rcases kf : rfK s with _ | _
  rotate_left
  rotate_left
  have HR := hide (Rv_ok (s := s) (t := t) ho)
  rw [HR.out.1, HR.out.2.1, HR.out.2.2]
  rcases kf : rfK s with _ | _
  have HF := hide (rv_no (m := m) (l := l) (t := t) (rv_f kf))
  rotate_left
  have HKF := hide kf
  rcases kt : wi t 0 9999 with _ | _
  have HF := hide (rv_no (m := m) (l := l) (s := s) (rv_t kt))
  rotate_left
  by_cases hmt : m ≤ t
  rotate_left
  have HF := hide (rv_no (m := m) (l := l) (s := s) (rv_m hmt))
  have hq : t < m := by omega
  clear hmt
  rotate_right
  · have HF := hide (rv_rs (m := m) (l := l) (s := s) HKF.out hmt)
    rw [HAD.out, HKD.out, HDT.out] at HF
    have hq : decide (t < m) = false := decide_eq_false (by omega)
    rw [HF.out.1, HF.out.2.1, HF.out.2.2]
    go_enter Try.func16, Try.ntmps16
    go_wp2_with (first | (go_at_call 57; refine (l5Repair_c s hmax _).mono ?_; rw [HKD.out, HAD.out, HDT.out, HFI.out, kf]; rintro e w1 ⟨rfl, hb⟩; have hT : w1.cell? ⟨w.heap.size, 0, none⟩ = some (.int .i64 m) ∧ w1.cell? ⟨w.heap.size, 1, none⟩ = some (.slice A l.length c) ∧ w1.cell? ⟨w.heap.size + 1, 0, none⟩ = some (.int .i64 0) ∧ w1.cell? ⟨w.heap.size + 1, 1, none⟩ = some (.slice none 0 0) ∧ (w.heap.size + 1 < w1.heap.size ∧ ∀ i, w1.frozen? ⟨w.heap.size + 1, i, none⟩ = false) ∧ Below w.heap.size w w1 := (fun W h hb => ⟨keep_cell (hb) h.1, keep_cell (hb) h.2.1, keep_cell (hb) h.2.2.1, keep_cell (hb) h.2.2.2.1, keep_fre (hb) h.2.2.2.2.1, below_via h.2.2.2.2.2 (hb)⟩ : ∀ W : World, (W.cell? ⟨w.heap.size, 0, none⟩ = some (.int .i64 m) ∧ W.cell? ⟨w.heap.size, 1, none⟩ = some (.slice A l.length c) ∧ W.cell? ⟨w.heap.size + 1, 0, none⟩ = some (.int .i64 0) ∧ W.cell? ⟨w.heap.size + 1, 1, none⟩ = some (.slice none 0 0) ∧ (w.heap.size + 1 < W.heap.size ∧ ∀ i, W.frozen? ⟨w.heap.size + 1, i, none⟩ = false) ∧ Below w.heap.size w W) → Below W.heap.size W w1 → (w1.cell? ⟨w.heap.size, 0, none⟩ = some (.int .i64 m) ∧ w1.cell? ⟨w.heap.size, 1, none⟩ = some (.slice A l.length c) ∧ w1.cell? ⟨w.heap.size + 1, 0, none⟩ = some (.int .i64 0) ∧ w1.cell? ⟨w.heap.size + 1, 1, none⟩ = some (.slice none 0 0) ∧ (w.heap.size + 1 < w1.heap.size ∧ ∀ i, w1.frozen? ⟨w.heap.size + 1, i, none⟩ = false) ∧ Below w.heap.size w w1)) _ (by first | (with_reducible assumption) | (exact hS) | (exact ⟨hS.1, hS.2.1, hS.2.2.1, hS.2.2.2.1, hS.2.2.2.2.1, (by go_grown)⟩) | (exact ⟨(by first | (with_reducible assumption) | (simp [go_sem]; done) | ((simp only [go_sem]); (with_reducible assumption)) | ((refine keep_cell ?_ (by with_reducible assumption)); go_grown; done) | (simp [go_sem, *]; done)), (by first | (with_reducible assumption) | (simp [go_sem]; done) | ((simp only [go_sem]); (with_reducible assumption)) | ((refine keep_cell ?_ (by with_reducible assumption)); go_grown; done) | (simp [go_sem, *]; done)), (by first | (with_reducible assumption) | (simp [go_sem]; done) | ((simp only [go_sem]); (with_reducible assumption)) | ((refine keep_cell ?_ (by with_reducible assumption)); go_grown; done) | (simp [go_sem, *]; done)), (by first | (with_reducible assumption) | (simp [go_sem]; done) | ((simp only [go_sem]); (with_reducible assumption)) | ((refine keep_cell ?_ (by with_reducible assumption)); go_grown; done) | (simp [go_sem, *]; done)), (by first | (with_reducible assumption) | (simp [go_sem]; done) | (refine keep_fre ?_ ⟨by with_reducible assumption, by with_reducible assumption⟩; go_grown; done) | (simp [go_sem, *]; done)), (by go_grown)⟩)) hb; (try clear hS); have hS := hT; clear hT; have hB := hS.2.2.2.2.2; have hzw : w.heap.size ≤ w1.heap.size := hB.size; have hz1 : w.heap.size < w1.heap.size := World.block_lt_of_cell? w1 _ (hS.1); have hz2 : w.heap.size + 1 < w1.heap.size := World.block_lt_of_cell? w1 _ (hS.2.2.1); clear hb) | (go_at_call 58; refine (l9Good_c _ _ _ l _ (hide (by refine reads_below h1.out ?_; go_grown)) b1).mono ?_; rintro e w2 ⟨rfl, hb⟩; have hT : w2.cell? ⟨w.heap.size, 0, none⟩ = some (.int .i64 m) ∧ w2.cell? ⟨w.heap.size, 1, none⟩ = some (.slice A l.length c) ∧ w2.cell? ⟨w.heap.size + 1, 0, none⟩ = some (.int .i64 0) ∧ w2.cell? ⟨w.heap.size + 1, 1, none⟩ = some (.slice none 0 0) ∧ (w.heap.size + 1 < w2.heap.size ∧ ∀ i, w2.frozen? ⟨w.heap.size + 1, i, none⟩ = false) ∧ w2.cell? ⟨w1.heap.size, 0, none⟩ = some (.int .i64 Kd) ∧ w2.cell? ⟨w1.heap.size, 1, none⟩ = some (.int .i64 Ad) ∧ w2.cell? ⟨w1.heap.size, 2, none⟩ = some (.int .i64 Dt) ∧ Below w.heap.size w w2 := (fun W h hb => ⟨keep_cell (hb) h.1, keep_cell (hb) h.2.1, keep_cell (hb) h.2.2.1, keep_cell (hb) h.2.2.2.1, keep_fre (hb) h.2.2.2.2.1, keep_cell (hb) h.2.2.2.2.2.1, keep_cell (hb) h.2.2.2.2.2.2.1, keep_cell (hb) h.2.2.2.2.2.2.2.1, below_via h.2.2.2.2.2.2.2.2 (hb)⟩ : ∀ W : World, (W.cell? ⟨w.heap.size, 0, none⟩ = some (.int .i64 m) ∧ W.cell? ⟨w.heap.size, 1, none⟩ = some (.slice A l.length c) ∧ W.cell? ⟨w.heap.size + 1, 0, none⟩ = some (.int .i64 0) ∧ W.cell? ⟨w.heap.size + 1, 1, none⟩ = some (.slice none 0 0) ∧ (w.heap.size + 1 < W.heap.size ∧ ∀ i, W.frozen? ⟨w.heap.size + 1, i, none⟩ = false) ∧ W.cell? ⟨w1.heap.size, 0, none⟩ = some (.int .i64 Kd) ∧ W.cell? ⟨w1.heap.size, 1, none⟩ = some (.int .i64 Ad) ∧ W.cell? ⟨w1.heap.size, 2, none⟩ = some (.int .i64 Dt) ∧ Below w.heap.size w W) → Below W.heap.size W w2 → (w2.cell? ⟨w.heap.size, 0, none⟩ = some (.int .i64 m) ∧ w2.cell? ⟨w.heap.size, 1, none⟩ = some (.slice A l.length c) ∧ w2.cell? ⟨w.heap.size + 1, 0, none⟩ = some (.int .i64 0) ∧ w2.cell? ⟨w.heap.size + 1, 1, none⟩ = some (.slice none 0 0) ∧ (w.heap.size + 1 < w2.heap.size ∧ ∀ i, w2.frozen? ⟨w.heap.size + 1, i, none⟩ = false) ∧ w2.cell? ⟨w1.heap.size, 0, none⟩ = some (.int .i64 Kd) ∧ w2.cell? ⟨w1.heap.size, 1, none⟩ = some (.int .i64 Ad) ∧ w2.cell? ⟨w1.heap.size, 2, none⟩ = some (.int .i64 Dt) ∧ Below w.heap.size w w2)) _ (by first | (with_reducible assumption) | (exact hS) | (exact ⟨hS.1, hS.2.1, hS.2.2.1, hS.2.2.2.1, hS.2.2.2.2.1, hS.2.2.2.2.2.1, hS.2.2.2.2.2.2.1, hS.2.2.2.2.2.2.2.1, (by go_grown)⟩) | (exact ⟨(by first | (with_reducible assumption) | (simp [go_sem]; done) | ((simp only [go_sem]); (with_reducible assumption)) | ((refine keep_cell ?_ (by with_reducible assumption)); go_grown; done) | (simp [go_sem, *]; done)), (by first | (with_reducible assumption) | (simp [go_sem]; done) | ((simp only [go_sem]); (with_reducible assumption)) | ((refine keep_cell ?_ (by with_reducible assumption)); go_grown; done) | (simp [go_sem, *]; done)), (by first | (with_reducible assumption) | (simp [go_sem]; done) | ((simp only [go_sem]); (with_reducible assumption)) | ((refine keep_cell ?_ (by with_reducible assumption)); go_grown; done) | (simp [go_sem, *]; done)), (by first | (with_reducible assumption) | (simp [go_sem]; done) | ((simp only [go_sem]); (with_reducible assumption)) | ((refine keep_cell ?_ (by with_reducible assumption)); go_grown; done) | (simp [go_sem, *]; done)), (by first | (with_reducible assumption) | (simp [go_sem]; done) | (refine keep_fre ?_ ⟨by with_reducible assumption, by with_reducible assumption⟩; go_grown; done) | (simp [go_sem, *]; done)), (by first | (with_reducible assumption) | (simp [go_sem]; done) | ((simp only [go_sem]); (with_reducible assumption)) | ((refine keep_cell ?_ (by with_reducible assumption)); go_grown; done) | (simp [go_sem, *]; done)), (by first | (with_reducible assumption) | (simp [go_sem]; done) | ((simp only [go_sem]); (with_reducible assumption)) | ((refine keep_cell ?_ (by with_reducible assumption)); go_grown; done) | (simp [go_sem, *]; done)), (by first | (with_reducible assumption) | (simp [go_sem]; done) | ((simp only [go_sem]); (with_reducible assumption)) | ((refine keep_cell ?_ (by with_reducible assumption)); go_grown; done) | (simp [go_sem, *]; done)), (by go_grown)⟩)) hb; (try clear hS); have hS := hT; clear hT; have hB := hS.2.2.2.2.2.2.2.2; have hzw : w.heap.size ≤ w2.heap.size := hB.size; have hz1 : w.heap.size < w2.heap.size := World.block_lt_of_cell? w2 _ (hS.1); have hz2 : w.heap.size + 1 < w2.heap.size := World.block_lt_of_cell? w2 _ (hS.2.2.1); have hz3 : w1.heap.size < w2.heap.size := World.block_lt_of_cell? w2 _ (hS.2.2.2.2.2.1); clear hb) | (go_at_call 59; refine (l9Minute_c _ _).mono ?_; rintro e w1 ⟨rfl, rfl⟩) | (go_at_call 60; refine (l9Receive_c m A c l Kd Ad Dt t _ (hide (by refine reads_below h1.out ?_; go_grown)) b1 ho).mono ?_; rintro e w3 ⟨B, d, rfl, hown, hb⟩; have hT : w3.cell? ⟨w.heap.size, 0, none⟩ = some (.int .i64 m) ∧ w3.cell? ⟨w.heap.size, 1, none⟩ = some (.slice A l.length c) ∧ w3.cell? ⟨w.heap.size + 1, 0, none⟩ = some (.int .i64 0) ∧ w3.cell? ⟨w.heap.size + 1, 1, none⟩ = some (.slice none 0 0) ∧ (w.heap.size + 1 < w3.heap.size ∧ ∀ i, w3.frozen? ⟨w.heap.size + 1, i, none⟩ = false) ∧ Below w.heap.size w w3 := (fun W h hb => ⟨keep_cell (hb) h.1, keep_cell (hb) h.2.1, keep_cell (hb) h.2.2.1, keep_cell (hb) h.2.2.2.1, keep_fre (hb) h.2.2.2.2.1, below_via h.2.2.2.2.2 (hb)⟩ : ∀ W : World, (W.cell? ⟨w.heap.size, 0, none⟩ = some (.int .i64 m) ∧ W.cell? ⟨w.heap.size, 1, none⟩ = some (.slice A l.length c) ∧ W.cell? ⟨w.heap.size + 1, 0, none⟩ = some (.int .i64 0) ∧ W.cell? ⟨w.heap.size + 1, 1, none⟩ = some (.slice none 0 0) ∧ (w.heap.size + 1 < W.heap.size ∧ ∀ i, W.frozen? ⟨w.heap.size + 1, i, none⟩ = false) ∧ Below w.heap.size w W) → Below W.heap.size W w3 → (w3.cell? ⟨w.heap.size, 0, none⟩ = some (.int .i64 m) ∧ w3.cell? ⟨w.heap.size, 1, none⟩ = some (.slice A l.length c) ∧ w3.cell? ⟨w.heap.size + 1, 0, none⟩ = some (.int .i64 0) ∧ w3.cell? ⟨w.heap.size + 1, 1, none⟩ = some (.slice none 0 0) ∧ (w.heap.size + 1 < w3.heap.size ∧ ∀ i, w3.frozen? ⟨w.heap.size + 1, i, none⟩ = false) ∧ Below w.heap.size w w3)) _ (by first | (with_reducible assumption) | (exact hS) | (exact ⟨hS.1, hS.2.1, hS.2.2.1, hS.2.2.2.1, hS.2.2.2.2.1, (by go_grown)⟩) | (exact ⟨(by first | (with_reducible assumption) | (simp [go_sem]; done) | ((simp only [go_sem]); (with_reducible assumption)) | ((refine keep_cell ?_ (by with_reducible assumption)); go_grown; done) | (simp [go_sem, *]; done)), (by first | (with_reducible assumption) | (simp [go_sem]; done) | ((simp only [go_sem]); (with_reducible assumption)) | ((refine keep_cell ?_ (by with_reducible assumption)); go_grown; done) | (simp [go_sem, *]; done)), (by first | (with_reducible assumption) | (simp [go_sem]; done) | ((simp only [go_sem]); (with_reducible assumption)) | ((refine keep_cell ?_ (by with_reducible assumption)); go_grown; done) | (simp [go_sem, *]; done)), (by first | (with_reducible assumption) | (simp [go_sem]; done) | ((simp only [go_sem]); (with_reducible assumption)) | ((refine keep_cell ?_ (by with_reducible assumption)); go_grown; done) | (simp [go_sem, *]; done)), (by first | (with_reducible assumption) | (simp [go_sem]; done) | (refine keep_fre ?_ ⟨by with_reducible assumption, by with_reducible assumption⟩; go_grown; done) | (simp [go_sem, *]; done)), (by go_grown)⟩)) hb; (try clear hS); have hS := hT; clear hT; have hB := hS.2.2.2.2.2; have hzw : w.heap.size ≤ w3.heap.size := hB.size; have hz1 : w.heap.size < w3.heap.size := World.block_lt_of_cell? w3 _ (hS.1); have hz2 : w.heap.size + 1 < w3.heap.size := World.block_lt_of_cell? w3 _ (hS.2.2.1); clear hb))
    refine bodyPost_ret (by simp [results, Try.results16, go_sem, cell_set_some, *]; try rfl) rfl ?_
    refine ⟨B, d, rfl, own_mono ?_ (show w.heap.size ≤ w2.heap.size by omega), by go_grown⟩
    repeat (refine own_set ?_ (by first | (simp; done) | (simp; omega)) _)
    exact hown
  all_goals
    go_enter Try.func16, Try.ntmps16
    go_wp2_with (first | (go_at_call 57; refine (l5Repair_c s hmax _).mono ?_; rw [HKD.out, HAD.out, HDT.out, HFI.out, kf]; rintro e w1 ⟨rfl, hb⟩; have hT : w1.cell? ⟨w.heap.size, 0, none⟩ = some (.int .i64 m) ∧ w1.cell? ⟨w.heap.size, 1, none⟩ = some (.slice A l.length c) ∧ w1.cell? ⟨w.heap.size + 1, 0, none⟩ = some (.int .i64 0) ∧ w1.cell? ⟨w.heap.size + 1, 1, none⟩ = some (.slice none 0 0) ∧ (w.heap.size + 1 < w1.heap.size ∧ ∀ i, w1.frozen? ⟨w.heap.size + 1, i, none⟩ = false) ∧ Below w.heap.size w w1 := (fun W h hb => ⟨keep_cell (hb) h.1, keep_cell (hb) h.2.1, keep_cell (hb) h.2.2.1, keep_cell (hb) h.2.2.2.1, keep_fre (hb) h.2.2.2.2.1, below_via h.2.2.2.2.2 (hb)⟩ : ∀ W : World, (W.cell? ⟨w.heap.size, 0, none⟩ = some (.int .i64 m) ∧ W.cell? ⟨w.heap.size, 1, none⟩ = some (.slice A l.length c) ∧ W.cell? ⟨w.heap.size + 1, 0, none⟩ = some (.int .i64 0) ∧ W.cell? ⟨w.heap.size + 1, 1, none⟩ = some (.slice none 0 0) ∧ (w.heap.size + 1 < W.heap.size ∧ ∀ i, W.frozen? ⟨w.heap.size + 1, i, none⟩ = false) ∧ Below w.heap.size w W) → Below W.heap.size W w1 → (w1.cell? ⟨w.heap.size, 0, none⟩ = some (.int .i64 m) ∧ w1.cell? ⟨w.heap.size, 1, none⟩ = some (.slice A l.length c) ∧ w1.cell? ⟨w.heap.size + 1, 0, none⟩ = some (.int .i64 0) ∧ w1.cell? ⟨w.heap.size + 1, 1, none⟩ = some (.slice none 0 0) ∧ (w.heap.size + 1 < w1.heap.size ∧ ∀ i, w1.frozen? ⟨w.heap.size + 1, i, none⟩ = false) ∧ Below w.heap.size w w1)) _ (by first | (with_reducible assumption) | (exact hS) | (exact ⟨hS.1, hS.2.1, hS.2.2.1, hS.2.2.2.1, hS.2.2.2.2.1, (by go_grown)⟩) | (exact ⟨(by first | (with_reducible assumption) | (simp [go_sem]; done) | ((simp only [go_sem]); (with_reducible assumption)) | ((refine keep_cell ?_ (by with_reducible assumption)); go_grown; done) | (simp [go_sem, *]; done)), (by first | (with_reducible assumption) | (simp [go_sem]; done) | ((simp only [go_sem]); (with_reducible assumption)) | ((refine keep_cell ?_ (by with_reducible assumption)); go_grown; done) | (simp [go_sem, *]; done)), (by first | (with_reducible assumption) | (simp [go_sem]; done) | ((simp only [go_sem]); (with_reducible assumption)) | ((refine keep_cell ?_ (by with_reducible assumption)); go_grown; done) | (simp [go_sem, *]; done)), (by first | (with_reducible assumption) | (simp [go_sem]; done) | ((simp only [go_sem]); (with_reducible assumption)) | ((refine keep_cell ?_ (by with_reducible assumption)); go_grown; done) | (simp [go_sem, *]; done)), (by first | (with_reducible assumption) | (simp [go_sem]; done) | (refine keep_fre ?_ ⟨by with_reducible assumption, by with_reducible assumption⟩; go_grown; done) | (simp [go_sem, *]; done)), (by go_grown)⟩)) hb; (try clear hS); have hS := hT; clear hT; have hB := hS.2.2.2.2.2; have hzw : w.heap.size ≤ w1.heap.size := hB.size; have hz1 : w.heap.size < w1.heap.size := World.block_lt_of_cell? w1 _ (hS.1); have hz2 : w.heap.size + 1 < w1.heap.size := World.block_lt_of_cell? w1 _ (hS.2.2.1); clear hb) | (go_at_call 58; refine (l9Good_c _ _ _ l _ (hide (by refine reads_below h1.out ?_; go_grown)) b1).mono ?_; rintro e w2 ⟨rfl, hb⟩; have hT : w2.cell? ⟨w.heap.size, 0, none⟩ = some (.int .i64 m) ∧ w2.cell? ⟨w.heap.size, 1, none⟩ = some (.slice A l.length c) ∧ w2.cell? ⟨w.heap.size + 1, 0, none⟩ = some (.int .i64 0) ∧ w2.cell? ⟨w.heap.size + 1, 1, none⟩ = some (.slice none 0 0) ∧ (w.heap.size + 1 < w2.heap.size ∧ ∀ i, w2.frozen? ⟨w.heap.size + 1, i, none⟩ = false) ∧ w2.cell? ⟨w1.heap.size, 0, none⟩ = some (.int .i64 Kd) ∧ w2.cell? ⟨w1.heap.size, 1, none⟩ = some (.int .i64 Ad) ∧ w2.cell? ⟨w1.heap.size, 2, none⟩ = some (.int .i64 Dt) ∧ Below w.heap.size w w2 := (fun W h hb => ⟨keep_cell (hb) h.1, keep_cell (hb) h.2.1, keep_cell (hb) h.2.2.1, keep_cell (hb) h.2.2.2.1, keep_fre (hb) h.2.2.2.2.1, keep_cell (hb) h.2.2.2.2.2.1, keep_cell (hb) h.2.2.2.2.2.2.1, keep_cell (hb) h.2.2.2.2.2.2.2.1, below_via h.2.2.2.2.2.2.2.2 (hb)⟩ : ∀ W : World, (W.cell? ⟨w.heap.size, 0, none⟩ = some (.int .i64 m) ∧ W.cell? ⟨w.heap.size, 1, none⟩ = some (.slice A l.length c) ∧ W.cell? ⟨w.heap.size + 1, 0, none⟩ = some (.int .i64 0) ∧ W.cell? ⟨w.heap.size + 1, 1, none⟩ = some (.slice none 0 0) ∧ (w.heap.size + 1 < W.heap.size ∧ ∀ i, W.frozen? ⟨w.heap.size + 1, i, none⟩ = false) ∧ W.cell? ⟨w1.heap.size, 0, none⟩ = some (.int .i64 Kd) ∧ W.cell? ⟨w1.heap.size, 1, none⟩ = some (.int .i64 Ad) ∧ W.cell? ⟨w1.heap.size, 2, none⟩ = some (.int .i64 Dt) ∧ Below w.heap.size w W) → Below W.heap.size W w2 → (w2.cell? ⟨w.heap.size, 0, none⟩ = some (.int .i64 m) ∧ w2.cell? ⟨w.heap.size, 1, none⟩ = some (.slice A l.length c) ∧ w2.cell? ⟨w.heap.size + 1, 0, none⟩ = some (.int .i64 0) ∧ w2.cell? ⟨w.heap.size + 1, 1, none⟩ = some (.slice none 0 0) ∧ (w.heap.size + 1 < w2.heap.size ∧ ∀ i, w2.frozen? ⟨w.heap.size + 1, i, none⟩ = false) ∧ w2.cell? ⟨w1.heap.size, 0, none⟩ = some (.int .i64 Kd) ∧ w2.cell? ⟨w1.heap.size, 1, none⟩ = some (.int .i64 Ad) ∧ w2.cell? ⟨w1.heap.size, 2, none⟩ = some (.int .i64 Dt) ∧ Below w.heap.size w w2)) _ (by first | (with_reducible assumption) | (exact hS) | (exact ⟨hS.1, hS.2.1, hS.2.2.1, hS.2.2.2.1, hS.2.2.2.2.1, hS.2.2.2.2.2.1, hS.2.2.2.2.2.2.1, hS.2.2.2.2.2.2.2.1, (by go_grown)⟩) | (exact ⟨(by first | (with_reducible assumption) | (simp [go_sem]; done) | ((simp only [go_sem]); (with_reducible assumption)) | ((refine keep_cell ?_ (by with_reducible assumption)); go_grown; done) | (simp [go_sem, *]; done)), (by first | (with_reducible assumption) | (simp [go_sem]; done) | ((simp only [go_sem]); (with_reducible assumption)) | ((refine keep_cell ?_ (by with_reducible assumption)); go_grown; done) | (simp [go_sem, *]; done)), (by first | (with_reducible assumption) | (simp [go_sem]; done) | ((simp only [go_sem]); (with_reducible assumption)) | ((refine keep_cell ?_ (by with_reducible assumption)); go_grown; done) | (simp [go_sem, *]; done)), (by first | (with_reducible assumption) | (simp [go_sem]; done) | ((simp only [go_sem]); (with_reducible assumption)) | ((refine keep_cell ?_ (by with_reducible assumption)); go_grown; done) | (simp [go_sem, *]; done)), (by first | (with_reducible assumption) | (simp [go_sem]; done) | (refine keep_fre ?_ ⟨by with_reducible assumption, by with_reducible assumption⟩; go_grown; done) | (simp [go_sem, *]; done)), (by first | (with_reducible assumption) | (simp [go_sem]; done) | ((simp only [go_sem]); (with_reducible assumption)) | ((refine keep_cell ?_ (by with_reducible assumption)); go_grown; done) | (simp [go_sem, *]; done)), (by first | (with_reducible assumption) | (simp [go_sem]; done) | ((simp only [go_sem]); (with_reducible assumption)) | ((refine keep_cell ?_ (by with_reducible assumption)); go_grown; done) | (simp [go_sem, *]; done)), (by first | (with_reducible assumption) | (simp [go_sem]; done) | ((simp only [go_sem]); (with_reducible assumption)) | ((refine keep_cell ?_ (by with_reducible assumption)); go_grown; done) | (simp [go_sem, *]; done)), (by go_grown)⟩)) hb; (try clear hS); have hS := hT; clear hT; have hB := hS.2.2.2.2.2.2.2.2; have hzw : w.heap.size ≤ w2.heap.size := hB.size; have hz1 : w.heap.size < w2.heap.size := World.block_lt_of_cell? w2 _ (hS.1); have hz2 : w.heap.size + 1 < w2.heap.size := World.block_lt_of_cell? w2 _ (hS.2.2.1); have hz3 : w1.heap.size < w2.heap.size := World.block_lt_of_cell? w2 _ (hS.2.2.2.2.2.1); clear hb) | (go_at_call 59; refine (l9Minute_c _ _).mono ?_; rintro e w1 ⟨rfl, rfl⟩))
    refine bodyPost_ret (by simp [results, Try.results16, go_sem, cell_set_some, *]; try rfl) rfl ?_
    rw [HF.out.1, HF.out.2.1, HF.out.2.2]
    exact ⟨none, 0, rfl, World.ownsRow_nil _ _ _ _, by go_grown⟩
end Go.Proofs.Ytbeojfhakmbacaa
namespace Go.Proofs.Ytbeojfhakmbacaa
open Go.RowKit

/-- What becomes of a receiver behind the first i texts. -/
def raN (t m : Int) (l : List Hd) (ls : List ByteArray) : Nat → Int × List Hd × Nat
  | 0 => (m, l, 0)
  | i + 1 => if rvK (raN t m l ls i).1 (raN t m l ls i).2.1 (sx ls i) t = true then (rvM (raN t m l ls i).1 (raN t m l ls i).2.1 (sx ls i) t, rvV (raN t m l ls i).1 (raN t m l ls i).2.1 (sx ls i) t, (raN t m l ls i).2.2 + 1) else raN t m l ls i
theorem raN_yes {t m : Int} {l : List Hd} {ls : List ByteArray} {i n : Nat} {M : Int} {L : List Hd} (h : raN t m l ls i = (M, L, n)) (hk : rvK M L (sx ls i) t = true) : raN t m l ls (i + 1) = (rvM M L (sx ls i) t, rvV M L (sx ls i) t, n + 1) := by
  rw [raN, h]; exact if_pos hk
theorem raN_no {t m : Int} {l : List Hd} {ls : List ByteArray} {i n : Nat} {M : Int} {L : List Hd} (h : raN t m l ls i = (M, L, n)) (hk : rvK M L (sx ls i) t = false) : raN t m l ls (i + 1) = (M, L, n) := by
  rw [raN, h]; exact if_neg (by rw [hk]; decide)
theorem raN_ok {t m : Int} {l : List Hd} {ls : List ByteArray} (h : okR m l = true) : ∀ i, okR (raN t m l ls i).1 (raN t m l ls i).2.1 = true ∧ (raN t m l ls i).2.2 ≤ i
  | 0 => ⟨h, Nat.le_refl _⟩
  | i + 1 => by
    obtain ⟨a, b⟩ := raN_ok (t := t) (ls := ls) h i
    rw [raN]
    split
    · rename_i hk
      exact ⟨rv_ok hk, by show _ + 1 ≤ i + 1; omega⟩
    · exact ⟨a, by omega⟩
def raK (m : Int) (l : List Hd) (ls : List ByteArray) (t : Int) : Bool := okR m l && (decide (ls.length ≤ 20) && (wi t 0 9999 && decide (m ≤ t)))
def raM (m : Int) (l : List Hd) (ls : List ByteArray) (t : Int) : Int := if raK m l ls t = true then (raN t m l ls ls.length).1 else 0
def raV (m : Int) (l : List Hd) (ls : List ByteArray) (t : Int) : List Hd := if raK m l ls t = true then (raN t m l ls ls.length).2.1 else []
def raC (m : Int) (l : List Hd) (ls : List ByteArray) (t : Int) : Int := if raK m l ls t = true then ((raN t m l ls ls.length).2.2 : Int) else 0
theorem ra_no {m : Int} {l : List Hd} {ls : List ByteArray} {t : Int} (h : raK m l ls t = false) : raK m l ls t = false ∧ raM m l ls t = 0 ∧ raV m l ls t = [] ∧ raC m l ls t = 0 := ⟨h, by unfold raM; rw [h]; rfl, by unfold raV; rw [h]; rfl, by unfold raC; rw [h]; rfl⟩
theorem ra_yes {m : Int} {l : List Hd} {ls : List ByteArray} {t : Int} {M : Int} {L : List Hd} {n : Nat} (h : raK m l ls t = true) (e : raN t m l ls ls.length = (M, L, n)) : raK m l ls t = true ∧ raM m l ls t = M ∧ raV m l ls t = L ∧ raC m l ls t = (n : Int) := ⟨h, by unfold raM; rw [if_pos h, e], by unfold raV; rw [if_pos h, e], by unfold raC; rw [if_pos h, e]⟩
theorem raV_len (m : Int) (l : List Hd) (ls : List ByteArray) (t : Int) : (raV m l ls t).length ≤ 6 := by
  unfold raV
  split
  · rename_i h
    unfold raK at h
    simp only [Bool.and_eq_true] at h
    exact (okR_iff (raN_ok (t := t) (ls := ls) h.1 ls.length).1).2.1
  · simp
end Go.Proofs.Ytbeojfhakmbacaa
namespace Go.Proofs.Ytbeojfhakmbacaa
open Go.RowKit

theorem ty_ne {w : World} {base : Nat} {e e2 : TypeId} {size : Nat} {A : Option Addr} {c n : Nat} {xs : List Value} {T : Nat} (h : w.ownsRow base e size (.slice A n c) n xs) (hT : ∃ cur fz, w.heap[T]? = some (.cells cur e2 fz)) (hne : e ≠ e2) : (Value.slice A n c).ownBlock ≠ some T := by
  intro q
  obtain ⟨cur, fz, hc⟩ := hT
  rcases h.2 with ⟨h1, _⟩ | ⟨g, cap, cu, h1, _, h2, _⟩
  · injection h1 with h1; subst h1; cases q
  · injection h1 with h1 _
    subst h1
    obtain rfl : g = T := Option.some.inj q
    rw [hc] at h2
    injection h2 with h2
    injection h2 with _ h2 _
    exact hne h2.symm
theorem ty_below {w w' : World} {T : Nat} {e : TypeId} (hb : Below w.heap.size w w') (h : ∃ cur fz, w.heap[T]? = some (.cells cur e fz)) : ∃ cur fz, w'.heap[T]? = some (.cells cur e fz) := by
  obtain ⟨cur, fz, hc⟩ := h
  have hlt : T < w.heap.size := (Array.getElem?_eq_some_iff.1 hc).1
  exact ⟨cur, fz, (hb.block T hlt).trans hc⟩
theorem ty_gb {w w' : World} {T : Nat} {e : TypeId} {r : Option Nat} (hg : w.grownBy w' r) (hr : r ≠ some T) (h : ∃ cur fz, w.heap[T]? = some (.cells cur e fz)) : ∃ cur fz, w'.heap[T]? = some (.cells cur e fz) := by
  obtain ⟨cur, fz, hc⟩ := h
  have hlt : T < w.heap.size := (Array.getElem?_eq_some_iff.1 hc).1
  exact ⟨cur, fz, (hg.block T hlt (fun q => hr q.symm)).trans hc⟩
theorem ty_new (w : World) (cs : Array Value) (e : TypeId) : ∃ cur fz, (w.alloc (.cells cs e)).heap[w.heap.size]? = some (.cells cur e fz) := ⟨cs, (0, 0), by show (w.heap.push _)[w.heap.size]? = _; exact Array.getElem?_push_size⟩
def TZ (W : World) (T : Nat) (e : TypeId) : Prop := W.cell? ⟨T, 0, none⟩ = some (.int .i64 0) ∧ W.cell? ⟨T, 1, none⟩ = some (.slice none 0 0) ∧ (T < W.heap.size ∧ ∀ i, W.frozen? ⟨T, i, none⟩ = false) ∧ ∃ cur fz, W.heap[T]? = some (.cells cur e fz)
theorem TZ.new (w : World) (e : TypeId) : TZ (w.alloc (.cells #[.int .i64 0, .slice none 0 0] e)) w.heap.size e := ⟨by simp [go_sem], by simp [go_sem], ⟨by simp, by simp [go_sem]⟩, ty_new _ _ _⟩
theorem TZ.below {w w' : World} {T : Nat} {e : TypeId} (h : TZ w T e) (hb : Below w.heap.size w w') : TZ w' T e := ⟨keep_cell hb h.1, keep_cell hb h.2.1, keep_fre hb h.2.2.1, ty_below hb h.2.2.2⟩
theorem TZ.gb {w w' : World} {T : Nat} {e : TypeId} {r : Option Nat} (h : TZ w T e) (hg : w.grownBy w' r) (hr : r ≠ some T) : TZ w' T e := ⟨hg.cell h.1 (fun q => hr q.symm), hg.cell h.2.1 (fun q => hr q.symm), fre_gb h.2.2.1 hg (fun q => hr q.symm), ty_gb hg hr h.2.2.2⟩
end Go.Proofs.Ytbeojfhakmbacaa
namespace Go.Proofs.Ytbeojfhakmbacaa
open Go.RowKit

set_option maxRecDepth 100000 in
set_option maxHeartbeats 16000000 in
theorem ReceiveAll_c (m : Int) (A : Option Addr) (c : Nat) (l : List Hd) (SA : Option Addr) (SC : Nat) (ls : List ByteArray) (t : Int) (w : World) (h1 : Hid (Reads w w.heap.size 10 A l.length (hds l))) (b1 : l.length ≤ 4000000) (h2 : Hid (Reads w w.heap.size 1 SA ls.length (strs ls))) (bs : ls.length ≤ 4000000) (hss : Hid (∀ s ∈ ls, s.size ≤ 1000000000000))  : Calls Try.prog 46 #[.agg #[.int .i64 m, .slice A l.length c], .slice SA ls.length SC, .int .i64 t] w (GivesS w 42 10 (raV m l ls t).length (hds (raV m l ls t)) (fun v => .tuple #[.agg #[.int .i64 (raM m l ls t), v], .int .i64 (raC m l ls t), .bool (raK m l ls t)])) := by
  rcases ho : okR m l with _ | _
  have HF := hide (ra_no (m := m) (l := l) (ls := ls) (t := t) (by unfold raK; rw [ho]; rfl))
  rotate_left
  by_cases h20 : 20 < ls.length
  have HF := hide (ra_no (m := m) (l := l) (ls := ls) (t := t) (by unfold raK; rw [decide_eq_false (by omega)]; simp))
  have hq20 : decide ((20 : Int) < (ls.length : Int)) = true := decide_eq_true (by omega)
  rotate_left
  have hl20 : ls.length ≤ 20 := by omega
  clear h20
  have hq20 : decide ((20 : Int) < (ls.length : Int)) = false := decide_eq_false (by omega)
  rcases kt : wi t 0 9999 with _ | _
  have HF := hide (ra_no (m := m) (l := l) (ls := ls) (t := t) (by unfold raK; rw [kt]; simp))
  rotate_left
  by_cases hmt : t < m
  have HF := hide (ra_no (m := m) (l := l) (ls := ls) (t := t) (by unfold raK; rw [decide_eq_false (show ¬ m ≤ t by omega)]; simp))
  rotate_left
  · have HRK := hide (show raK m l ls t = true from by unfold raK; rw [ho, kt, decide_eq_true hl20, decide_eq_true (show m ≤ t by omega)]; rfl)
    have HOK := hide ho
    have hq : decide (t < m) = false := decide_eq_false hmt
    have h6 := (okR_iff ho).2.1
    clear hmt
    obtain ⟨i0, hi0, iz0, iy0, ix0⟩ := info_parts infoHd
    go_enter Try.func46, Try.ntmps46
    go_upto_region 3 with (first | (go_at_call 18; refine (validRecv_c _ _ _ l _ (hide (by refine reads_below h1.out ?_; go_grown)) b1).mono ?_; rintro e w1 ⟨rfl, hb⟩; have hT : w1.cell? ⟨w.heap.size, 0, none⟩ = some (.int .i64 m) ∧ w1.cell? ⟨w.heap.size, 1, none⟩ = some (.slice A l.length c) ∧ w1.cell? ⟨w.heap.size + 1, 0, none⟩ = some (.int .i64 0) ∧ w1.cell? ⟨w.heap.size + 1, 1, none⟩ = some (.slice none 0 0) ∧ (w.heap.size + 1 < w1.heap.size ∧ ∀ i, w1.frozen? ⟨w.heap.size + 1, i, none⟩ = false) ∧ Below w.heap.size w w1 := (fun W h hb => ⟨keep_cell (hb) h.1, keep_cell (hb) h.2.1, keep_cell (hb) h.2.2.1, keep_cell (hb) h.2.2.2.1, keep_fre (hb) h.2.2.2.2.1, below_via h.2.2.2.2.2 (hb)⟩ : ∀ W : World, (W.cell? ⟨w.heap.size, 0, none⟩ = some (.int .i64 m) ∧ W.cell? ⟨w.heap.size, 1, none⟩ = some (.slice A l.length c) ∧ W.cell? ⟨w.heap.size + 1, 0, none⟩ = some (.int .i64 0) ∧ W.cell? ⟨w.heap.size + 1, 1, none⟩ = some (.slice none 0 0) ∧ (w.heap.size + 1 < W.heap.size ∧ ∀ i, W.frozen? ⟨w.heap.size + 1, i, none⟩ = false) ∧ Below w.heap.size w W) → Below W.heap.size W w1 → (w1.cell? ⟨w.heap.size, 0, none⟩ = some (.int .i64 m) ∧ w1.cell? ⟨w.heap.size, 1, none⟩ = some (.slice A l.length c) ∧ w1.cell? ⟨w.heap.size + 1, 0, none⟩ = some (.int .i64 0) ∧ w1.cell? ⟨w.heap.size + 1, 1, none⟩ = some (.slice none 0 0) ∧ (w.heap.size + 1 < w1.heap.size ∧ ∀ i, w1.frozen? ⟨w.heap.size + 1, i, none⟩ = false) ∧ Below w.heap.size w w1)) _ (by first | (with_reducible assumption) | (exact hS) | (exact ⟨hS.1, hS.2.1, hS.2.2.1, hS.2.2.2.1, hS.2.2.2.2.1, (by go_grown)⟩) | (exact ⟨(by first | (with_reducible assumption) | (simp [go_sem]; done) | ((simp only [go_sem]); (with_reducible assumption)) | ((refine keep_cell ?_ (by with_reducible assumption)); go_grown; done) | (simp [go_sem, *]; done)), (by first | (with_reducible assumption) | (simp [go_sem]; done) | ((simp only [go_sem]); (with_reducible assumption)) | ((refine keep_cell ?_ (by with_reducible assumption)); go_grown; done) | (simp [go_sem, *]; done)), (by first | (with_reducible assumption) | (simp [go_sem]; done) | ((simp only [go_sem]); (with_reducible assumption)) | ((refine keep_cell ?_ (by with_reducible assumption)); go_grown; done) | (simp [go_sem, *]; done)), (by first | (with_reducible assumption) | (simp [go_sem]; done) | ((simp only [go_sem]); (with_reducible assumption)) | ((refine keep_cell ?_ (by with_reducible assumption)); go_grown; done) | (simp [go_sem, *]; done)), (by first | (with_reducible assumption) | (simp [go_sem]; done) | (refine keep_fre ?_ ⟨by with_reducible assumption, by with_reducible assumption⟩; go_grown; done) | (simp [go_sem, *]; done)), (by go_grown)⟩)) hb; (try clear hS); have hS := hT; clear hT; have hB := hS.2.2.2.2.2; have hzw : w.heap.size ≤ w1.heap.size := hB.size; have hz1 : w.heap.size < w1.heap.size := World.block_lt_of_cell? w1 _ (hS.1); have hz2 : w.heap.size + 1 < w1.heap.size := World.block_lt_of_cell? w1 _ (hS.2.2.1); clear hb) | (go_at_call 61; refine (isMinute_c _ _).mono ?_; rintro e w1 ⟨rfl, rfl⟩))
    clear ho kt hq hq20
    go_cut [9] (fun pv wx => ∃ (T : Nat) (A3 : Option Addr) (c3 : Nat), pv = .pointer (some ⟨T, 0, none⟩) ∧ w.heap.size + 1 < T ∧ (Value.slice A3 l.length c3).ownBlock ≠ some T ∧ Hid (wx.ownsRow (w.heap.size + 2) 42 10 (.slice A3 l.length c3) l.length (hds l)) ∧ (wx.cell? ⟨w.heap.size + 1, 0, none⟩ = some (.int .i64 0) ∧ wx.cell? ⟨w.heap.size + 1, 1, none⟩ = some (.slice none 0 0) ∧ (w.heap.size + 1 < wx.heap.size ∧ ∀ i, wx.frozen? ⟨w.heap.size + 1, i, none⟩ = false) ∧ wx.cell? ⟨T, 0, none⟩ = some (.int .i64 m) ∧ wx.cell? ⟨T, 1, none⟩ = some (.slice A3 l.length c3) ∧ (T < wx.heap.size ∧ ∀ i, wx.frozen? ⟨T, i, none⟩ = false) ∧ Below w.heap.size w wx))
    case first =>
      refine wp_region_all (by kernel_rfl) ?_
      obtain ⟨W0, hW0⟩ : ∃ W, World.drew w1 = W := ⟨_, rfl⟩
      rw [hW0]
      have hcw : Below w1.heap.size w1 W0 := by rw [← hW0]; go_grown
      have hB1 := below_via hB hcw
      have HR0 := hide ((h1.out.below hB1).more hB1.size)
      have HS0 := hide (show W0.cell? ⟨w.heap.size, 0, none⟩ = some (.int .i64 m) ∧ W0.cell? ⟨w.heap.size, 1, none⟩ = some (.slice A l.length c) ∧ W0.cell? ⟨w.heap.size + 1, 0, none⟩ = some (.int .i64 0) ∧ W0.cell? ⟨w.heap.size + 1, 1, none⟩ = some (.slice none 0 0) ∧ (w.heap.size + 1 < W0.heap.size ∧ ∀ i, W0.frozen? ⟨w.heap.size + 1, i, none⟩ = false) ∧ Below w.heap.size w W0 from ⟨keep_cell hcw (hS.1), keep_cell hcw (hS.2.1), keep_cell hcw (hS.2.2.1), keep_cell hcw (hS.2.2.2.1), keep_fre hcw (hS.2.2.2.2.1), hB1⟩)
      have hwW : w.heap.size + 1 < W0.heap.size := (HS0.out.2.2.2.2.1).1
      have hn0 : A = none → l.length = 0 := fun e => reads_nn HR0.out e
      have hS7 : W0.cell? ⟨w.heap.size, 0, none⟩ = some (.int .i64 m) ∧ W0.cell? ⟨w.heap.size, 1, none⟩ = some (.slice A l.length c) ∧ Below W0.heap.size W0 W0 := ⟨HS0.out.1, HS0.out.2.1, Below.refl _ _⟩
      clear hS hB hcw hB1 hW0 hzw
      (try clear hz1)
      (try clear hz2)
      have hS := hS7
      clear hS7
      have hB := hS.2.2
      refine all_split 7 2 (by decide) ?_ ?_
      · refine all_seq_core [0, 1, 3, 4, 7, 2, 5, 6, 8] (fun W => W.cell? ⟨w.heap.size, 0, none⟩ = some (.int .i64 m) ∧ W.cell? ⟨w.heap.size, 1, none⟩ = some (.slice A l.length c) ∧ Below W0.heap.size W0 W) (addE_core 7 2 _) (by kernel_rfl) hS ?_
        simp only [byNum, List.getElem?_cons_zero, List.getElem?_cons_succ]
        repeat (first
          | ((refine seq_skip (by rfl) (by rfl) ?_); simp only [Act.put, pa, pb, pc])
          | ((refine seq_val (v := ?_) (by rfl) (by rfl) (fun w hS => ?_) ?_); rotate_left; (focus ((try dsimp only at hS); go_simp; (try (with_reducible rfl)); done)); simp only [Act.put, pa, pb, pc]))
        refine seq_deed (v := ?_) (w' := ?_) (by rfl) (by rfl) ?_ ?_
        rotate_left
        rotate_left
        focus (go_simp; (constructor <;> (with_reducible rfl)); done)
        obtain ⟨X1, hX1⟩ : ∃ X, World.alloc W0 (.cells #[.int .i64 0, .slice none 0 0] 26) = X := ⟨_, rfl⟩
        rw [hX1]
        have hbx : Below W0.heap.size W0 X1 := by rw [← hX1]; go_grown
        have hlT : W0.heap.size ≤ W0.heap.size := hB.size
        have hmT : W0.heap.size < X1.heap.size := by rw [← hX1]; simp
        have HT9 := hide (show TZ X1 W0.heap.size 26 from by rw [← hX1]; exact TZ.new _ _)
        have hS2 : X1.cell? ⟨w.heap.size, 0, none⟩ = some (.int .i64 m) ∧ X1.cell? ⟨w.heap.size, 1, none⟩ = some (.slice A l.length c) ∧ Below W0.heap.size W0 X1 := ⟨keep_cell hbx (hS.1), keep_cell hbx (hS.2.1), below_via hB hbx⟩
        clear hS hB
        have hS := hS2
        clear hS2
        have hB := hS.2.2
        clear hbx
        clear hX1
        have HT := HT9
        clear HT9
        refine ⟨(fun W => W.cell? ⟨w.heap.size, 0, none⟩ = some (.int .i64 m) ∧ W.cell? ⟨w.heap.size, 1, none⟩ = some (.slice A l.length c) ∧ Below W0.heap.size W0 W), hS, (fun W h => h), ?_⟩
        simp only [Act.put, pa, pb, pc]
        repeat (first
          | ((refine seq_skip (by rfl) (by rfl) ?_); simp only [Act.put, pa, pb, pc])
          | ((refine seq_val (v := ?_) (by rfl) (by rfl) (fun w hS => ?_) ?_); rotate_left; (focus ((try dsimp only at hS); go_simp; (try (with_reducible rfl)); done)); simp only [Act.put, pa, pb, pc]))
        refine seq_deed (v := ?_) (w' := ?_) (by rfl) (by rfl) ?_ ?_
        rotate_left
        rotate_left
        focus (go_simp; (constructor <;> (with_reducible rfl)); done)
        obtain ⟨X2, hX2⟩ : ∃ X, World.alloc X1 (.cells #[] 42) = X := ⟨_, rfl⟩
        rw [hX2]
        have hbx : Below X1.heap.size X1 X2 := by rw [← hX2]; go_grown
        have hlE : W0.heap.size ≤ X1.heap.size := hB.size
        have hmE : X1.heap.size < X2.heap.size := by rw [← hX2]; simp
        have HO9 := hide (show X2.ownsRow W0.heap.size 42 10 (.slice (some ⟨X1.heap.size, 0, none⟩) 0 0) 0 [] from by rw [← hX2]; exact own_empty _ rfl hlE)
        have HTb := hide (HT.out.below hbx)
        clear HT
        have HT := HTb
        clear HTb
        have hS2 : X2.cell? ⟨w.heap.size, 0, none⟩ = some (.int .i64 m) ∧ X2.cell? ⟨w.heap.size, 1, none⟩ = some (.slice A l.length c) ∧ Below W0.heap.size W0 X2 := ⟨keep_cell hbx (hS.1), keep_cell hbx (hS.2.1), below_via hB hbx⟩
        clear hS hB
        have hS := hS2
        clear hS2
        have hB := hS.2.2
        clear hbx
        clear hX2
        have HO := HO9
        clear HO9
        refine ⟨(fun W => W.cell? ⟨w.heap.size, 0, none⟩ = some (.int .i64 m) ∧ W.cell? ⟨w.heap.size, 1, none⟩ = some (.slice A l.length c) ∧ Below W0.heap.size W0 W), hS, (fun W h => h), ?_⟩
        simp only [Act.put, pa, pb, pc]
        repeat (first
          | ((refine seq_skip (by rfl) (by rfl) ?_); simp only [Act.put, pa, pb, pc])
          | ((refine seq_val (v := ?_) (by rfl) (by rfl) (fun w hS => ?_) ?_); rotate_left; (focus ((try dsimp only at hS); go_simp; (try (with_reducible rfl)); done)); simp only [Act.put, pa, pb, pc]))
        refine seq_append _ (by rfl) (by rfl) _ _ 24 (by rfl) W0.heap.size 42 i0 (hdV nHd) 10 80 Try.underlying24 hi0 iz0 iy0 ix0 rfl (by decide) _ 0 [] (by rfl) HO.out X2.heap.size A l.length c (hds l) (by rfl) (reads_below HR0.out hB) hn0 (hds_one l) (by unfold maxLen; omega) (by omega) hB.size ?_
        intro A3 c3 X3 hown1 hgrow
        rw [Nat.zero_add, List.nil_append] at hown1
        rw [Nat.zero_add]
        have HTb := hide (HT.out.gb hgrow (ne_some (show X1.heap.size ≠ W0.heap.size by omega)))
        clear HT
        have HT := HTb
        clear HTb
        have hS2 : X3.cell? ⟨w.heap.size, 0, none⟩ = some (.int .i64 m) ∧ X3.cell? ⟨w.heap.size, 1, none⟩ = some (.slice A l.length c) ∧ Below W0.heap.size W0 X3 := ⟨own_cell HO.out hgrow (hS.1) (by show w.heap.size < W0.heap.size; omega), own_cell HO.out hgrow (hS.2.1) (by show w.heap.size < W0.heap.size; omega), own_grown HO.out hgrow hB hB.size (Nat.le_refl _)⟩
        clear hS hB
        have hS := hS2
        clear hS2
        have hB := hS.2.2
        clear hgrow HO
        have HO := hide hown1
        clear hown1
        refine ⟨(fun W => W.cell? ⟨w.heap.size, 0, none⟩ = some (.int .i64 m) ∧ W.cell? ⟨w.heap.size, 1, none⟩ = some (.slice A l.length c) ∧ Below W0.heap.size W0 W), hS, (fun W h => h), ?_⟩
        simp only [Act.put, pa, pb, pc]
        repeat (first
          | ((refine seq_skip (by rfl) (by rfl) ?_); simp only [Act.put, pa, pb, pc])
          | ((refine seq_val (v := ?_) (by rfl) (by rfl) (fun w hS => ?_) ?_); rotate_left; (focus ((try dsimp only at hS); go_simp; (try (with_reducible rfl)); done)); simp only [Act.put, pa, pb, pc]))
        have hTn : (Value.slice A3 l.length c3).ownBlock ≠ some W0.heap.size := ty_ne HO.out HT.out.2.2.2 (by decide)
        have hBq := hB
        obtain ⟨X9, hX9⟩ : ∃ X, (X3.setCell ⟨W0.heap.size, 0, none⟩ (.int .i64 m)).setCell ⟨W0.heap.size, 1, none⟩ (.slice A3 l.length c3) = X := ⟨_, rfl⟩
        obtain ⟨y0, y1, ⟨y2, y3⟩, _⟩ := HT.out
        refine seq_store (w' := X9) (by rfl) (by rfl) (by rw [← hX9]; go_simp; (try (with_reducible rfl)); done) ?_
        have hS2 : X9.cell? ⟨w.heap.size, 0, none⟩ = some (.int .i64 m) ∧ X9.cell? ⟨w.heap.size, 1, none⟩ = some (.slice A l.length c) ∧ Below W0.heap.size W0 X9 := ⟨(by rw [← hX9]; exact sc _ (by omega) (sc _ (by omega) (hS.1))), (by rw [← hX9]; exact sc _ (by omega) (sc _ (by omega) (hS.2.1))), (by rw [← hX9]; exact (hB.setCell (p := ⟨W0.heap.size, 0, none⟩) (by show _ ≤ W0.heap.size; omega) _).setCell (p := ⟨W0.heap.size, 1, none⟩) (by show _ ≤ W0.heap.size; omega) _)⟩
        clear hS hB
        have hS := hS2
        clear hS2
        have hB := hS.2.2
        refine ⟨(fun W => W.cell? ⟨w.heap.size, 0, none⟩ = some (.int .i64 m) ∧ W.cell? ⟨w.heap.size, 1, none⟩ = some (.slice A l.length c) ∧ Below W0.heap.size W0 W), hS, (fun W h => h), ?_⟩
        simp only [Act.put, pa, pb, pc]
        repeat (first
          | ((refine seq_skip (by rfl) (by rfl) ?_); simp only [Act.put, pa, pb, pc])
          | ((refine seq_val (v := ?_) (by rfl) (by rfl) (fun w hS => ?_) ?_); rotate_left; (focus ((try dsimp only at hS); go_simp; (try (with_reducible rfl)); done)); simp only [Act.put, pa, pb, pc]))
        refine seq_nil ?_
        go_wp2_with fail
        go_meet
        case rel => exact ⟨W0.heap.size, A3, c3, rfl, by omega, hTn, hide (by rw [← hX9]; exact ownsRow_setCell_other (ownsRow_setCell_other (own_mono HO.out (by omega)) (a := ⟨W0.heap.size, 0, none⟩) hTn _) (a := ⟨W0.heap.size, 1, none⟩) hTn _), (by rw [← hX9]; exact ⟨sc _ (by omega) (sc _ (by omega) (keep_cell hBq (HS0.out.2.2.1))), sc _ (by omega) (sc _ (by omega) (keep_cell hBq (HS0.out.2.2.2.1))), sf _ (sf _ (keep_fre hBq (HS0.out.2.2.2.2.1))), sc_off (by omega) (sc_at y0), sc_at (sc_off (by omega) y1), sf _ (sf _ ⟨y2, y3⟩), ((below_via (HS0.out.2.2.2.2.2) hBq).setCell (p := ⟨W0.heap.size, 0, none⟩) (by show _ ≤ W0.heap.size; omega) _).setCell (p := ⟨W0.heap.size, 1, none⟩) (by show _ ≤ W0.heap.size; omega) _⟩)⟩
      · refine all_split 7 5 (by decide) ?_ ?_
        · refine all_seq_core [0, 1, 3, 4, 2, 7, 5, 6, 8] (fun W => W.cell? ⟨w.heap.size, 0, none⟩ = some (.int .i64 m) ∧ W.cell? ⟨w.heap.size, 1, none⟩ = some (.slice A l.length c) ∧ Below W0.heap.size W0 W) (Core.trans (addE_core 2 7 _) (addE_core 7 5 _)) (by kernel_rfl) hS ?_
          simp only [byNum, List.getElem?_cons_zero, List.getElem?_cons_succ]
          repeat (first
            | ((refine seq_skip (by rfl) (by rfl) ?_); simp only [Act.put, pa, pb, pc])
            | ((refine seq_val (v := ?_) (by rfl) (by rfl) (fun w hS => ?_) ?_); rotate_left; (focus ((try dsimp only at hS); go_simp; (try (with_reducible rfl)); done)); simp only [Act.put, pa, pb, pc]))
          refine seq_deed (v := ?_) (w' := ?_) (by rfl) (by rfl) ?_ ?_
          rotate_left
          rotate_left
          focus (go_simp; (constructor <;> (with_reducible rfl)); done)
          obtain ⟨X1, hX1⟩ : ∃ X, World.alloc W0 (.cells #[] 42) = X := ⟨_, rfl⟩
          rw [hX1]
          have hbx : Below W0.heap.size W0 X1 := by rw [← hX1]; go_grown
          have hlE : W0.heap.size ≤ W0.heap.size := hB.size
          have hmE : W0.heap.size < X1.heap.size := by rw [← hX1]; simp
          have HO9 := hide (show X1.ownsRow W0.heap.size 42 10 (.slice (some ⟨W0.heap.size, 0, none⟩) 0 0) 0 [] from by rw [← hX1]; exact own_empty _ rfl hlE)
          have hS2 : X1.cell? ⟨w.heap.size, 0, none⟩ = some (.int .i64 m) ∧ X1.cell? ⟨w.heap.size, 1, none⟩ = some (.slice A l.length c) ∧ Below W0.heap.size W0 X1 := ⟨keep_cell hbx (hS.1), keep_cell hbx (hS.2.1), below_via hB hbx⟩
          clear hS hB
          have hS := hS2
          clear hS2
          have hB := hS.2.2
          clear hbx
          clear hX1
          have HO := HO9
          clear HO9
          refine ⟨(fun W => W.cell? ⟨w.heap.size, 0, none⟩ = some (.int .i64 m) ∧ W.cell? ⟨w.heap.size, 1, none⟩ = some (.slice A l.length c) ∧ Below W0.heap.size W0 W), hS, (fun W h => h), ?_⟩
          simp only [Act.put, pa, pb, pc]
          repeat (first
            | ((refine seq_skip (by rfl) (by rfl) ?_); simp only [Act.put, pa, pb, pc])
            | ((refine seq_val (v := ?_) (by rfl) (by rfl) (fun w hS => ?_) ?_); rotate_left; (focus ((try dsimp only at hS); go_simp; (try (with_reducible rfl)); done)); simp only [Act.put, pa, pb, pc]))
          refine seq_deed (v := ?_) (w' := ?_) (by rfl) (by rfl) ?_ ?_
          rotate_left
          rotate_left
          focus (go_simp; (constructor <;> (with_reducible rfl)); done)
          obtain ⟨X2, hX2⟩ : ∃ X, World.alloc X1 (.cells #[.int .i64 0, .slice none 0 0] 26) = X := ⟨_, rfl⟩
          rw [hX2]
          have hbx : Below X1.heap.size X1 X2 := by rw [← hX2]; go_grown
          have hlT : W0.heap.size ≤ X1.heap.size := hB.size
          have hmT : X1.heap.size < X2.heap.size := by rw [← hX2]; simp
          have HT9 := hide (show TZ X2 X1.heap.size 26 from by rw [← hX2]; exact TZ.new _ _)
          have HOb := hide (own_below HO.out hbx)
          clear HO
          have HO := HOb
          clear HOb
          have hS2 : X2.cell? ⟨w.heap.size, 0, none⟩ = some (.int .i64 m) ∧ X2.cell? ⟨w.heap.size, 1, none⟩ = some (.slice A l.length c) ∧ Below W0.heap.size W0 X2 := ⟨keep_cell hbx (hS.1), keep_cell hbx (hS.2.1), below_via hB hbx⟩
          clear hS hB
          have hS := hS2
          clear hS2
          have hB := hS.2.2
          clear hbx
          clear hX2
          have HT := HT9
          clear HT9
          refine ⟨(fun W => W.cell? ⟨w.heap.size, 0, none⟩ = some (.int .i64 m) ∧ W.cell? ⟨w.heap.size, 1, none⟩ = some (.slice A l.length c) ∧ Below W0.heap.size W0 W), hS, (fun W h => h), ?_⟩
          simp only [Act.put, pa, pb, pc]
          repeat (first
            | ((refine seq_skip (by rfl) (by rfl) ?_); simp only [Act.put, pa, pb, pc])
            | ((refine seq_val (v := ?_) (by rfl) (by rfl) (fun w hS => ?_) ?_); rotate_left; (focus ((try dsimp only at hS); go_simp; (try (with_reducible rfl)); done)); simp only [Act.put, pa, pb, pc]))
          refine seq_append _ (by rfl) (by rfl) _ _ 24 (by rfl) W0.heap.size 42 i0 (hdV nHd) 10 80 Try.underlying24 hi0 iz0 iy0 ix0 rfl (by decide) _ 0 [] (by rfl) HO.out X2.heap.size A l.length c (hds l) (by rfl) (reads_below HR0.out hB) hn0 (hds_one l) (by unfold maxLen; omega) (by omega) hB.size ?_
          intro A3 c3 X3 hown1 hgrow
          rw [Nat.zero_add, List.nil_append] at hown1
          rw [Nat.zero_add]
          have HTb := hide (HT.out.gb hgrow (ne_some (show W0.heap.size ≠ X1.heap.size by omega)))
          clear HT
          have HT := HTb
          clear HTb
          have hS2 : X3.cell? ⟨w.heap.size, 0, none⟩ = some (.int .i64 m) ∧ X3.cell? ⟨w.heap.size, 1, none⟩ = some (.slice A l.length c) ∧ Below W0.heap.size W0 X3 := ⟨own_cell HO.out hgrow (hS.1) (by show w.heap.size < W0.heap.size; omega), own_cell HO.out hgrow (hS.2.1) (by show w.heap.size < W0.heap.size; omega), own_grown HO.out hgrow hB hB.size (Nat.le_refl _)⟩
          clear hS hB
          have hS := hS2
          clear hS2
          have hB := hS.2.2
          clear hgrow HO
          have HO := hide hown1
          clear hown1
          refine ⟨(fun W => W.cell? ⟨w.heap.size, 0, none⟩ = some (.int .i64 m) ∧ W.cell? ⟨w.heap.size, 1, none⟩ = some (.slice A l.length c) ∧ Below W0.heap.size W0 W), hS, (fun W h => h), ?_⟩
          simp only [Act.put, pa, pb, pc]
          repeat (first
            | ((refine seq_skip (by rfl) (by rfl) ?_); simp only [Act.put, pa, pb, pc])
            | ((refine seq_val (v := ?_) (by rfl) (by rfl) (fun w hS => ?_) ?_); rotate_left; (focus ((try dsimp only at hS); go_simp; (try (with_reducible rfl)); done)); simp only [Act.put, pa, pb, pc]))
          have hTn : (Value.slice A3 l.length c3).ownBlock ≠ some X1.heap.size := ty_ne HO.out HT.out.2.2.2 (by decide)
          have hBq := hB
          obtain ⟨X9, hX9⟩ : ∃ X, (X3.setCell ⟨X1.heap.size, 0, none⟩ (.int .i64 m)).setCell ⟨X1.heap.size, 1, none⟩ (.slice A3 l.length c3) = X := ⟨_, rfl⟩
          obtain ⟨y0, y1, ⟨y2, y3⟩, _⟩ := HT.out
          refine seq_store (w' := X9) (by rfl) (by rfl) (by rw [← hX9]; go_simp; (try (with_reducible rfl)); done) ?_
          have hS2 : X9.cell? ⟨w.heap.size, 0, none⟩ = some (.int .i64 m) ∧ X9.cell? ⟨w.heap.size, 1, none⟩ = some (.slice A l.length c) ∧ Below W0.heap.size W0 X9 := ⟨(by rw [← hX9]; exact sc _ (by omega) (sc _ (by omega) (hS.1))), (by rw [← hX9]; exact sc _ (by omega) (sc _ (by omega) (hS.2.1))), (by rw [← hX9]; exact (hB.setCell (p := ⟨X1.heap.size, 0, none⟩) (by show _ ≤ X1.heap.size; omega) _).setCell (p := ⟨X1.heap.size, 1, none⟩) (by show _ ≤ X1.heap.size; omega) _)⟩
          clear hS hB
          have hS := hS2
          clear hS2
          have hB := hS.2.2
          refine ⟨(fun W => W.cell? ⟨w.heap.size, 0, none⟩ = some (.int .i64 m) ∧ W.cell? ⟨w.heap.size, 1, none⟩ = some (.slice A l.length c) ∧ Below W0.heap.size W0 W), hS, (fun W h => h), ?_⟩
          simp only [Act.put, pa, pb, pc]
          repeat (first
            | ((refine seq_skip (by rfl) (by rfl) ?_); simp only [Act.put, pa, pb, pc])
            | ((refine seq_val (v := ?_) (by rfl) (by rfl) (fun w hS => ?_) ?_); rotate_left; (focus ((try dsimp only at hS); go_simp; (try (with_reducible rfl)); done)); simp only [Act.put, pa, pb, pc]))
          refine seq_nil ?_
          go_wp2_with fail
          go_meet
          case rel => exact ⟨X1.heap.size, A3, c3, rfl, by omega, hTn, hide (by rw [← hX9]; exact ownsRow_setCell_other (ownsRow_setCell_other (own_mono HO.out (by omega)) (a := ⟨X1.heap.size, 0, none⟩) hTn _) (a := ⟨X1.heap.size, 1, none⟩) hTn _), (by rw [← hX9]; exact ⟨sc _ (by omega) (sc _ (by omega) (keep_cell hBq (HS0.out.2.2.1))), sc _ (by omega) (sc _ (by omega) (keep_cell hBq (HS0.out.2.2.2.1))), sf _ (sf _ (keep_fre hBq (HS0.out.2.2.2.2.1))), sc_off (by omega) (sc_at y0), sc_at (sc_off (by omega) y1), sf _ (sf _ ⟨y2, y3⟩), ((below_via (HS0.out.2.2.2.2.2) hBq).setCell (p := ⟨X1.heap.size, 0, none⟩) (by show _ ≤ X1.heap.size; omega) _).setCell (p := ⟨X1.heap.size, 1, none⟩) (by show _ ≤ X1.heap.size; omega) _⟩)⟩
        · refine all_seq_core [0, 1, 3, 4, 2, 5, 6, 7, 8] (fun W => W.cell? ⟨w.heap.size, 0, none⟩ = some (.int .i64 m) ∧ W.cell? ⟨w.heap.size, 1, none⟩ = some (.slice A l.length c) ∧ Below W0.heap.size W0 W) (Core.trans (addE_core 2 7 _) (addE_core 5 7 _)) (by kernel_rfl) hS ?_
          simp only [byNum, List.getElem?_cons_zero, List.getElem?_cons_succ]
          repeat (first
            | ((refine seq_skip (by rfl) (by rfl) ?_); simp only [Act.put, pa, pb, pc])
            | ((refine seq_val (v := ?_) (by rfl) (by rfl) (fun w hS => ?_) ?_); rotate_left; (focus ((try dsimp only at hS); go_simp; (try (with_reducible rfl)); done)); simp only [Act.put, pa, pb, pc]))
          refine seq_deed (v := ?_) (w' := ?_) (by rfl) (by rfl) ?_ ?_
          rotate_left
          rotate_left
          focus (go_simp; (constructor <;> (with_reducible rfl)); done)
          obtain ⟨X1, hX1⟩ : ∃ X, World.alloc W0 (.cells #[] 42) = X := ⟨_, rfl⟩
          rw [hX1]
          have hbx : Below W0.heap.size W0 X1 := by rw [← hX1]; go_grown
          have hlE : W0.heap.size ≤ W0.heap.size := hB.size
          have hmE : W0.heap.size < X1.heap.size := by rw [← hX1]; simp
          have HO9 := hide (show X1.ownsRow W0.heap.size 42 10 (.slice (some ⟨W0.heap.size, 0, none⟩) 0 0) 0 [] from by rw [← hX1]; exact own_empty _ rfl hlE)
          have hS2 : X1.cell? ⟨w.heap.size, 0, none⟩ = some (.int .i64 m) ∧ X1.cell? ⟨w.heap.size, 1, none⟩ = some (.slice A l.length c) ∧ Below W0.heap.size W0 X1 := ⟨keep_cell hbx (hS.1), keep_cell hbx (hS.2.1), below_via hB hbx⟩
          clear hS hB
          have hS := hS2
          clear hS2
          have hB := hS.2.2
          clear hbx
          clear hX1
          have HO := HO9
          clear HO9
          refine ⟨(fun W => W.cell? ⟨w.heap.size, 0, none⟩ = some (.int .i64 m) ∧ W.cell? ⟨w.heap.size, 1, none⟩ = some (.slice A l.length c) ∧ Below W0.heap.size W0 W), hS, (fun W h => h), ?_⟩
          simp only [Act.put, pa, pb, pc]
          repeat (first
            | ((refine seq_skip (by rfl) (by rfl) ?_); simp only [Act.put, pa, pb, pc])
            | ((refine seq_val (v := ?_) (by rfl) (by rfl) (fun w hS => ?_) ?_); rotate_left; (focus ((try dsimp only at hS); go_simp; (try (with_reducible rfl)); done)); simp only [Act.put, pa, pb, pc]))
          refine seq_append _ (by rfl) (by rfl) _ _ 24 (by rfl) W0.heap.size 42 i0 (hdV nHd) 10 80 Try.underlying24 hi0 iz0 iy0 ix0 rfl (by decide) _ 0 [] (by rfl) HO.out X1.heap.size A l.length c (hds l) (by rfl) (reads_below HR0.out hB) hn0 (hds_one l) (by unfold maxLen; omega) (by omega) hB.size ?_
          intro A3 c3 X2 hown1 hgrow
          rw [Nat.zero_add, List.nil_append] at hown1
          rw [Nat.zero_add]
          have hS2 : X2.cell? ⟨w.heap.size, 0, none⟩ = some (.int .i64 m) ∧ X2.cell? ⟨w.heap.size, 1, none⟩ = some (.slice A l.length c) ∧ Below W0.heap.size W0 X2 := ⟨own_cell HO.out hgrow (hS.1) (by show w.heap.size < W0.heap.size; omega), own_cell HO.out hgrow (hS.2.1) (by show w.heap.size < W0.heap.size; omega), own_grown HO.out hgrow hB hB.size (Nat.le_refl _)⟩
          clear hS hB
          have hS := hS2
          clear hS2
          have hB := hS.2.2
          clear hgrow HO
          have HO := hide hown1
          clear hown1
          refine ⟨(fun W => W.cell? ⟨w.heap.size, 0, none⟩ = some (.int .i64 m) ∧ W.cell? ⟨w.heap.size, 1, none⟩ = some (.slice A l.length c) ∧ Below W0.heap.size W0 W), hS, (fun W h => h), ?_⟩
          simp only [Act.put, pa, pb, pc]
          repeat (first
            | ((refine seq_skip (by rfl) (by rfl) ?_); simp only [Act.put, pa, pb, pc])
            | ((refine seq_val (v := ?_) (by rfl) (by rfl) (fun w hS => ?_) ?_); rotate_left; (focus ((try dsimp only at hS); go_simp; (try (with_reducible rfl)); done)); simp only [Act.put, pa, pb, pc]))
          refine seq_deed (v := ?_) (w' := ?_) (by rfl) (by rfl) ?_ ?_
          rotate_left
          rotate_left
          focus (go_simp; (constructor <;> (with_reducible rfl)); done)
          obtain ⟨X3, hX3⟩ : ∃ X, World.alloc X2 (.cells #[.int .i64 0, .slice none 0 0] 26) = X := ⟨_, rfl⟩
          rw [hX3]
          have hbx : Below X2.heap.size X2 X3 := by rw [← hX3]; go_grown
          have hlT : W0.heap.size ≤ X2.heap.size := hB.size
          have hmT : X2.heap.size < X3.heap.size := by rw [← hX3]; simp
          have HT9 := hide (show TZ X3 X2.heap.size 26 from by rw [← hX3]; exact TZ.new _ _)
          have HOb := hide (own_below HO.out hbx)
          clear HO
          have HO := HOb
          clear HOb
          have hS2 : X3.cell? ⟨w.heap.size, 0, none⟩ = some (.int .i64 m) ∧ X3.cell? ⟨w.heap.size, 1, none⟩ = some (.slice A l.length c) ∧ Below W0.heap.size W0 X3 := ⟨keep_cell hbx (hS.1), keep_cell hbx (hS.2.1), below_via hB hbx⟩
          clear hS hB
          have hS := hS2
          clear hS2
          have hB := hS.2.2
          clear hbx
          clear hX3
          have HT := HT9
          clear HT9
          refine ⟨(fun W => W.cell? ⟨w.heap.size, 0, none⟩ = some (.int .i64 m) ∧ W.cell? ⟨w.heap.size, 1, none⟩ = some (.slice A l.length c) ∧ Below W0.heap.size W0 W), hS, (fun W h => h), ?_⟩
          simp only [Act.put, pa, pb, pc]
          repeat (first
            | ((refine seq_skip (by rfl) (by rfl) ?_); simp only [Act.put, pa, pb, pc])
            | ((refine seq_val (v := ?_) (by rfl) (by rfl) (fun w hS => ?_) ?_); rotate_left; (focus ((try dsimp only at hS); go_simp; (try (with_reducible rfl)); done)); simp only [Act.put, pa, pb, pc]))
          have hTn : (Value.slice A3 l.length c3).ownBlock ≠ some X2.heap.size := ty_ne HO.out HT.out.2.2.2 (by decide)
          have hBq := hB
          obtain ⟨X9, hX9⟩ : ∃ X, (X3.setCell ⟨X2.heap.size, 0, none⟩ (.int .i64 m)).setCell ⟨X2.heap.size, 1, none⟩ (.slice A3 l.length c3) = X := ⟨_, rfl⟩
          obtain ⟨y0, y1, ⟨y2, y3⟩, _⟩ := HT.out
          refine seq_store (w' := X9) (by rfl) (by rfl) (by rw [← hX9]; go_simp; (try (with_reducible rfl)); done) ?_
          have hS2 : X9.cell? ⟨w.heap.size, 0, none⟩ = some (.int .i64 m) ∧ X9.cell? ⟨w.heap.size, 1, none⟩ = some (.slice A l.length c) ∧ Below W0.heap.size W0 X9 := ⟨(by rw [← hX9]; exact sc _ (by omega) (sc _ (by omega) (hS.1))), (by rw [← hX9]; exact sc _ (by omega) (sc _ (by omega) (hS.2.1))), (by rw [← hX9]; exact (hB.setCell (p := ⟨X2.heap.size, 0, none⟩) (by show _ ≤ X2.heap.size; omega) _).setCell (p := ⟨X2.heap.size, 1, none⟩) (by show _ ≤ X2.heap.size; omega) _)⟩
          clear hS hB
          have hS := hS2
          clear hS2
          have hB := hS.2.2
          refine ⟨(fun W => W.cell? ⟨w.heap.size, 0, none⟩ = some (.int .i64 m) ∧ W.cell? ⟨w.heap.size, 1, none⟩ = some (.slice A l.length c) ∧ Below W0.heap.size W0 W), hS, (fun W h => h), ?_⟩
          simp only [Act.put, pa, pb, pc]
          repeat (first
            | ((refine seq_skip (by rfl) (by rfl) ?_); simp only [Act.put, pa, pb, pc])
            | ((refine seq_val (v := ?_) (by rfl) (by rfl) (fun w hS => ?_) ?_); rotate_left; (focus ((try dsimp only at hS); go_simp; (try (with_reducible rfl)); done)); simp only [Act.put, pa, pb, pc]))
          refine seq_nil ?_
          go_wp2_with fail
          go_meet
          case rel => exact ⟨X2.heap.size, A3, c3, rfl, by omega, hTn, hide (by rw [← hX9]; exact ownsRow_setCell_other (ownsRow_setCell_other (own_mono HO.out (by omega)) (a := ⟨X2.heap.size, 0, none⟩) hTn _) (a := ⟨X2.heap.size, 1, none⟩) hTn _), (by rw [← hX9]; exact ⟨sc _ (by omega) (sc _ (by omega) (keep_cell hBq (HS0.out.2.2.1))), sc _ (by omega) (sc _ (by omega) (keep_cell hBq (HS0.out.2.2.2.1))), sf _ (sf _ (keep_fre hBq (HS0.out.2.2.2.2.1))), sc_off (by omega) (sc_at y0), sc_at (sc_off (by omega) y1), sf _ (sf _ ⟨y2, y3⟩), ((below_via (HS0.out.2.2.2.2.2) hBq).setCell (p := ⟨X2.heap.size, 0, none⟩) (by show _ ≤ X2.heap.size; omega) _).setCell (p := ⟨X2.heap.size, 1, none⟩) (by show _ ≤ X2.heap.size; omega) _⟩)⟩
    (try clear hS)
    (try clear hB)
    (try clear hzw)
    obtain ⟨T, A3, c3, rfl, hwT, hTn, HROW, hS⟩ := hcut
    go_wp2_with fail
    go_loopw [10, 44] (fun cv iv wr => ∃ (i n : Nat) (M : Int) (L : List Hd) (AL : Option Addr) (cL : Nat), i ≤ ls.length ∧ n ≤ i ∧ iv = .int .i64 i ∧ cv = .int .i64 n ∧ Hid (raN t m l ls i = (M, L, n)) ∧ (Value.slice AL L.length cL).ownBlock ≠ some T ∧ Hid (wr.ownsRow (w.heap.size + 2) 42 10 (.slice AL L.length cL) L.length (hds L)) ∧ (wr.cell? ⟨w.heap.size + 1, 0, none⟩ = some (.int .i64 0) ∧ wr.cell? ⟨w.heap.size + 1, 1, none⟩ = some (.slice none 0 0) ∧ (w.heap.size + 1 < wr.heap.size ∧ ∀ i, wr.frozen? ⟨w.heap.size + 1, i, none⟩ = false) ∧ wr.cell? ⟨T, 0, none⟩ = some (.int .i64 M) ∧ wr.cell? ⟨T, 1, none⟩ = some (.slice AL L.length cL) ∧ (T < wr.heap.size ∧ ∀ i, wr.frozen? ⟨T, i, none⟩ = false) ∧ Below w.heap.size w wr)) (fun _ iv _ => ls.length - (intOf iv).toNat)
    case atStart => exact ⟨0, 0, m, l, A3, c3, by omega, by omega, rfl, rfl, hide rfl, hTn, HROW, hS⟩
    case round =>
      (try clear hS)
      (try clear HROW)
      (try clear hB)
      (try clear hzw)
      (try clear hTn)
      obtain ⟨i, n, M, L, AL, cL, hi, hni, rfl, rfl, HN, hLT, HROW, hS⟩ := hrel
      have hB := hS.2.2.2.2.2.2
      have hzw : w.heap.size ≤ wr.heap.size := hB.size
      have hok := raN_ok (t := t) (ls := ls) HOK.out i
      rw [HN.out] at hok
      have HOM := hide hok.1
      have hL6 : L.length ≤ 6 := (okR_iff hok.1).2.1
      clear hok
      have hTr : T < wr.heap.size := (hS.2.2.2.2.2.1).1
      by_cases hlt : i < ls.length
      rotate_left
      · obtain rfl : i = ls.length := by omega
        have HF := hide (ra_yes HRK.out HN.out)
        go_wp2_with fail
        refine bodyPost_ret (by simp [results, Try.results46, go_sem, cell_set_some, *]; try rfl) rfl ?_
        rw [HF.out.1, HF.out.2.1, HF.out.2.2.1, HF.out.2.2.2]
        refine ⟨AL, cL, rfl, own_mono ?_ (show w.heap.size ≤ w.heap.size + 2 by omega), by go_grown⟩
        repeat (refine own_set ?_ (by first | (simp; done) | (simp; omega)) _)
        exact HROW.out
      obtain ⟨ad, hSA, hb9, hc⟩ := (h2.out.below hB).str hlt
      obtain ⟨y, hz⟩ : ∃ q, sx ls i = q := ⟨_, rfl⟩
      have hys : y.size ≤ 1000000000000 := by rw [← hz]; exact hss.out _ (sx_mem hlt)
      rw [hz] at hc
      have HZ := hide hz
      clear hz
      subst hSA
      go_upto_region 9 with (first | (go_at_call 56; refine (received_c M AL cL L y t _ (hide (own_reads HROW.out)) (by omega) HOM.out hys).mono ?_; rintro e w5 ⟨B, d, rfl, hown, hb⟩; have hT : w5.cell? ⟨w.heap.size + 1, 0, none⟩ = some (.int .i64 0) ∧ w5.cell? ⟨w.heap.size + 1, 1, none⟩ = some (.slice none 0 0) ∧ (w.heap.size + 1 < w5.heap.size ∧ ∀ i, w5.frozen? ⟨w.heap.size + 1, i, none⟩ = false) ∧ w5.cell? ⟨T, 0, none⟩ = some (.int .i64 M) ∧ w5.cell? ⟨T, 1, none⟩ = some (.slice AL L.length cL) ∧ (T < w5.heap.size ∧ ∀ i, w5.frozen? ⟨T, i, none⟩ = false) ∧ Below w.heap.size w w5 := (fun W h hb => ⟨keep_cell (hb) h.1, keep_cell (hb) h.2.1, keep_fre (hb) h.2.2.1, keep_cell (hb) h.2.2.2.1, keep_cell (hb) h.2.2.2.2.1, keep_fre (hb) h.2.2.2.2.2.1, below_via h.2.2.2.2.2.2 (hb)⟩ : ∀ W : World, (W.cell? ⟨w.heap.size + 1, 0, none⟩ = some (.int .i64 0) ∧ W.cell? ⟨w.heap.size + 1, 1, none⟩ = some (.slice none 0 0) ∧ (w.heap.size + 1 < W.heap.size ∧ ∀ i, W.frozen? ⟨w.heap.size + 1, i, none⟩ = false) ∧ W.cell? ⟨T, 0, none⟩ = some (.int .i64 M) ∧ W.cell? ⟨T, 1, none⟩ = some (.slice AL L.length cL) ∧ (T < W.heap.size ∧ ∀ i, W.frozen? ⟨T, i, none⟩ = false) ∧ Below w.heap.size w W) → Below W.heap.size W w5 → (w5.cell? ⟨w.heap.size + 1, 0, none⟩ = some (.int .i64 0) ∧ w5.cell? ⟨w.heap.size + 1, 1, none⟩ = some (.slice none 0 0) ∧ (w.heap.size + 1 < w5.heap.size ∧ ∀ i, w5.frozen? ⟨w.heap.size + 1, i, none⟩ = false) ∧ w5.cell? ⟨T, 0, none⟩ = some (.int .i64 M) ∧ w5.cell? ⟨T, 1, none⟩ = some (.slice AL L.length cL) ∧ (T < w5.heap.size ∧ ∀ i, w5.frozen? ⟨T, i, none⟩ = false) ∧ Below w.heap.size w w5)) _ hS hb; (try clear hS); have hS := hT; clear hT; have hB := hS.2.2.2.2.2.2; have hzw : w.heap.size ≤ w5.heap.size := hB.size; have hz1 : w.heap.size + 1 < w5.heap.size := World.block_lt_of_cell? w5 _ (hS.1); have hz2 : T < w5.heap.size := World.block_lt_of_cell? w5 _ (hS.2.2.2.1); have HR1 := hide (own_below HROW.out hb); clear hb))
      obtain ⟨N, hN9⟩ : ∃ q, w5.heap.size = q := ⟨_, rfl⟩
      obtain ⟨X, hX⟩ : ∃ X, World.alloc w5 (.cells #[.int .i64 (rvM M L y t), .slice B (rvV M L y t).length d] 26) = X := ⟨_, rfl⟩
      rw [hX, hN9]
      have hbx : Below w5.heap.size w5 X := by rw [← hX]; go_grown
      have hTN : T < N := by rw [← hN9]; exact (hS.2.2.2.2.2.1).1
      have hwr2 : w.heap.size + 2 ≤ wr.heap.size := by have h8 := hTr; omega
      have hBT : (Value.slice B (rvV M L y t).length d).ownBlock ≠ some T := fun e => by have h8 := (hown.lt _ e).1; omega
      have HRA := hide (own_below HR1.out hbx)
      have HRB := hide (own_mono (own_below hown hbx) hwr2)
      have hS9 : X.cell? ⟨w.heap.size + 1, 0, none⟩ = some (.int .i64 0) ∧ X.cell? ⟨w.heap.size + 1, 1, none⟩ = some (.slice none 0 0) ∧ (w.heap.size + 1 < X.heap.size ∧ ∀ i, X.frozen? ⟨w.heap.size + 1, i, none⟩ = false) ∧ X.cell? ⟨T, 0, none⟩ = some (.int .i64 M) ∧ X.cell? ⟨T, 1, none⟩ = some (.slice AL L.length cL) ∧ (T < X.heap.size ∧ ∀ i, X.frozen? ⟨T, i, none⟩ = false) ∧ X.cell? ⟨N, 0, none⟩ = some (.int .i64 (rvM M L y t)) ∧ X.cell? ⟨N, 1, none⟩ = some (.slice B (rvV M L y t).length d) ∧ Below w.heap.size w X := ⟨keep_cell hbx (hS.1), keep_cell hbx (hS.2.1), keep_fre hbx (hS.2.2.1), keep_cell hbx (hS.2.2.2.1), keep_cell hbx (hS.2.2.2.2.1), keep_fre hbx (hS.2.2.2.2.2.1), (by rw [← hX, ← hN9]; simp [go_sem]), (by rw [← hX, ← hN9]; simp [go_sem]), below_via (hS.2.2.2.2.2.2) hbx⟩
      clear hS hB hzw hbx hX hN9 hown HR1 HROW hc hwr2 hTr
      (try clear hz1)
      (try clear hz2)
      (try clear hz3)
      have hS := hS9
      clear hS9
      have hB := hS.2.2.2.2.2.2.2.2
      have hzw : w.heap.size ≤ X.heap.size := hB.size
      rcases hk : rvK M L y t with _ | _
      · have HS := hide (raN_no HN.out (show rvK M L (sx ls i) t = false from by rw [HZ.out]; exact hk))
        clear hk
        go_wp2_with fail
        go_roundw
        case rel => exact ⟨i + 1, n, M, L, AL, cL, by omega, by omega, by go_num, rfl, HS, hLT, HRA, hS.1, hS.2.1, hS.2.2.1, hS.2.2.2.1, hS.2.2.2.2.1, hS.2.2.2.2.2.1, hB⟩
        case measure => simp [intOf]; omega
      have HS := hide (raN_yes HN.out (show rvK M L (sx ls i) t = true from by rw [HZ.out]; exact hk))
      rw [HZ.out] at HS
      clear hk
      have fz : ∀ q, X.frozen? ⟨T, q, none⟩ = false := (hS.2.2.2.2.2.1).2
      have hn20 : n ≤ 20 := by omega
      go_wp2_with fail
      go_roundw
      case rel => exact ⟨i + 1, n + 1, rvM M L y t, rvV M L y t, B, d, by omega, by omega, by go_num, by go_num, HS, hBT, hide (ownsRow_setCell_other (ownsRow_setCell_other HRB.out (a := ⟨T, 0, none⟩) hBT _) (a := ⟨T, 1, none⟩) hBT _), sc _ (by omega) (sc _ (by omega) (hS.1)), sc _ (by omega) (sc _ (by omega) (hS.2.1)), sf _ (sf _ (hS.2.2.1)), sc_off (by omega) (sc_at (hS.2.2.2.1)), sc_at (sc_off (by omega) (hS.2.2.2.2.1)), sf _ (sf _ (hS.2.2.2.2.2.1)), (hB.setCell (p := ⟨T, 0, none⟩) (by show _ ≤ T; omega) _).setCell (p := ⟨T, 1, none⟩) (by show _ ≤ T; omega) _⟩
      case measure => simp [intOf]; omega
  all_goals
    go_enter Try.func46, Try.ntmps46
    go_wp2_with (first | (go_at_call 18; refine (validRecv_c _ _ _ l _ (hide (by refine reads_below h1.out ?_; go_grown)) b1).mono ?_; rintro e w1 ⟨rfl, hb⟩; have hT : w1.cell? ⟨w.heap.size, 0, none⟩ = some (.int .i64 m) ∧ w1.cell? ⟨w.heap.size, 1, none⟩ = some (.slice A l.length c) ∧ w1.cell? ⟨w.heap.size + 1, 0, none⟩ = some (.int .i64 0) ∧ w1.cell? ⟨w.heap.size + 1, 1, none⟩ = some (.slice none 0 0) ∧ (w.heap.size + 1 < w1.heap.size ∧ ∀ i, w1.frozen? ⟨w.heap.size + 1, i, none⟩ = false) ∧ Below w.heap.size w w1 := (fun W h hb => ⟨keep_cell (hb) h.1, keep_cell (hb) h.2.1, keep_cell (hb) h.2.2.1, keep_cell (hb) h.2.2.2.1, keep_fre (hb) h.2.2.2.2.1, below_via h.2.2.2.2.2 (hb)⟩ : ∀ W : World, (W.cell? ⟨w.heap.size, 0, none⟩ = some (.int .i64 m) ∧ W.cell? ⟨w.heap.size, 1, none⟩ = some (.slice A l.length c) ∧ W.cell? ⟨w.heap.size + 1, 0, none⟩ = some (.int .i64 0) ∧ W.cell? ⟨w.heap.size + 1, 1, none⟩ = some (.slice none 0 0) ∧ (w.heap.size + 1 < W.heap.size ∧ ∀ i, W.frozen? ⟨w.heap.size + 1, i, none⟩ = false) ∧ Below w.heap.size w W) → Below W.heap.size W w1 → (w1.cell? ⟨w.heap.size, 0, none⟩ = some (.int .i64 m) ∧ w1.cell? ⟨w.heap.size, 1, none⟩ = some (.slice A l.length c) ∧ w1.cell? ⟨w.heap.size + 1, 0, none⟩ = some (.int .i64 0) ∧ w1.cell? ⟨w.heap.size + 1, 1, none⟩ = some (.slice none 0 0) ∧ (w.heap.size + 1 < w1.heap.size ∧ ∀ i, w1.frozen? ⟨w.heap.size + 1, i, none⟩ = false) ∧ Below w.heap.size w w1)) _ (by first | (with_reducible assumption) | (exact hS) | (exact ⟨hS.1, hS.2.1, hS.2.2.1, hS.2.2.2.1, hS.2.2.2.2.1, (by go_grown)⟩) | (exact ⟨(by first | (with_reducible assumption) | (simp [go_sem]; done) | ((simp only [go_sem]); (with_reducible assumption)) | ((refine keep_cell ?_ (by with_reducible assumption)); go_grown; done) | (simp [go_sem, *]; done)), (by first | (with_reducible assumption) | (simp [go_sem]; done) | ((simp only [go_sem]); (with_reducible assumption)) | ((refine keep_cell ?_ (by with_reducible assumption)); go_grown; done) | (simp [go_sem, *]; done)), (by first | (with_reducible assumption) | (simp [go_sem]; done) | ((simp only [go_sem]); (with_reducible assumption)) | ((refine keep_cell ?_ (by with_reducible assumption)); go_grown; done) | (simp [go_sem, *]; done)), (by first | (with_reducible assumption) | (simp [go_sem]; done) | ((simp only [go_sem]); (with_reducible assumption)) | ((refine keep_cell ?_ (by with_reducible assumption)); go_grown; done) | (simp [go_sem, *]; done)), (by first | (with_reducible assumption) | (simp [go_sem]; done) | (refine keep_fre ?_ ⟨by with_reducible assumption, by with_reducible assumption⟩; go_grown; done) | (simp [go_sem, *]; done)), (by go_grown)⟩)) hb; (try clear hS); have hS := hT; clear hT; have hB := hS.2.2.2.2.2; have hzw : w.heap.size ≤ w1.heap.size := hB.size; have hz1 : w.heap.size < w1.heap.size := World.block_lt_of_cell? w1 _ (hS.1); have hz2 : w.heap.size + 1 < w1.heap.size := World.block_lt_of_cell? w1 _ (hS.2.2.1); clear hb) | (go_at_call 61; refine (isMinute_c _ _).mono ?_; rintro e w1 ⟨rfl, rfl⟩))
    refine bodyPost_ret (by simp [results, Try.results46, go_sem, cell_set_some, *]; try rfl) rfl ?_
    rw [HF.out.1, HF.out.2.1, HF.out.2.2.1, HF.out.2.2.2]
    exact ⟨none, 0, rfl, World.ownsRow_nil _ _ _ _, by go_grown⟩
end Go.Proofs.Ytbeojfhakmbacaa
namespace Go.Proofs.Ytbeojfhakmbacaa
open Go.RowKit

theorem sReceive2_c (m : Int) (A : Option Addr) (c : Nat) (l : List Hd) (s : ByteArray) (t : Int) (w : World) (h1 : Hid (Reads w w.heap.size 10 A l.length (hds l))) (b1 : l.length ≤ 4000000) (ho : okR m l = true) (hmax : s.size ≤ 1000000000000) : Calls Try.prog 16 #[.agg #[.int .i64 m, .slice A l.length c], .string s, .int .i64 t] w (GivesS w 42 10 (rvV m l s t).length (hds (rvV m l s t)) (fun v => .tuple #[.agg #[.int .i64 (rvM m l s t), v], .bool (rvK m l s t)])) := by
  obtain ⟨e1, e2, e3⟩ := Rv_ok (s := s) (t := t) ho
  have h := sReceive_c m A c l s t w h1 b1 hmax
  rw [e1, e2, e3] at h
  exact h

set_option maxRecDepth 100000 in
set_option maxHeartbeats 16000000 in
theorem sReceiveAll_c (m : Int) (A : Option Addr) (c : Nat) (l : List Hd) (SA : Option Addr) (SC : Nat) (ls : List ByteArray) (t : Int) (w : World) (h1 : Hid (Reads w w.heap.size 10 A l.length (hds l))) (b1 : l.length ≤ 4000000) (h2 : Hid (Reads w w.heap.size 1 SA ls.length (strs ls))) (bs : ls.length ≤ 4000000) (hss : Hid (∀ s ∈ ls, s.size ≤ 1000000000000))  : Calls Try.prog 47 #[.agg #[.int .i64 m, .slice A l.length c], .slice SA ls.length SC, .int .i64 t] w (GivesS w 42 10 (raV m l ls t).length (hds (raV m l ls t)) (fun v => .tuple #[.agg #[.int .i64 (raM m l ls t), v], .int .i64 (raC m l ls t), .bool (raK m l ls t)])) := by
  rcases ho : okR m l with _ | _
  have HF := hide (ra_no (m := m) (l := l) (ls := ls) (t := t) (by unfold raK; rw [ho]; rfl))
  rotate_left
  by_cases h20 : 20 < ls.length
  have HF := hide (ra_no (m := m) (l := l) (ls := ls) (t := t) (by unfold raK; rw [decide_eq_false (by omega)]; simp))
  have hq20 : decide ((20 : Int) < (ls.length : Int)) = true := decide_eq_true (by omega)
  rotate_left
  have hl20 : ls.length ≤ 20 := by omega
  clear h20
  have hq20 : decide ((20 : Int) < (ls.length : Int)) = false := decide_eq_false (by omega)
  rcases kt : wi t 0 9999 with _ | _
  have HF := hide (ra_no (m := m) (l := l) (ls := ls) (t := t) (by unfold raK; rw [kt]; simp))
  rotate_left
  by_cases hmt : t < m
  have HF := hide (ra_no (m := m) (l := l) (ls := ls) (t := t) (by unfold raK; rw [decide_eq_false (show ¬ m ≤ t by omega)]; simp))
  rotate_left
  · have HRK := hide (show raK m l ls t = true from by unfold raK; rw [ho, kt, decide_eq_true hl20, decide_eq_true (show m ≤ t by omega)]; rfl)
    have HOK := hide ho
    have hq : decide (t < m) = false := decide_eq_false hmt
    have h6 := (okR_iff ho).2.1
    clear hmt
    obtain ⟨i0, hi0, iz0, iy0, ix0⟩ := info_parts infoHd
    go_enter Try.func47, Try.ntmps47
    go_upto_region 4 with (first | (go_at_call 58; refine (l9Good_c _ _ _ l _ (hide (by refine reads_below h1.out ?_; go_grown)) b1).mono ?_; rintro e w1 ⟨rfl, hb⟩; have hT : w1.cell? ⟨w.heap.size, 0, none⟩ = some (.int .i64 m) ∧ w1.cell? ⟨w.heap.size, 1, none⟩ = some (.slice A l.length c) ∧ w1.cell? ⟨w.heap.size + 1, 0, none⟩ = some (.int .i64 0) ∧ w1.cell? ⟨w.heap.size + 1, 1, none⟩ = some (.slice none 0 0) ∧ (w.heap.size + 1 < w1.heap.size ∧ ∀ i, w1.frozen? ⟨w.heap.size + 1, i, none⟩ = false) ∧ Below w.heap.size w w1 := (fun W h hb => ⟨keep_cell (hb) h.1, keep_cell (hb) h.2.1, keep_cell (hb) h.2.2.1, keep_cell (hb) h.2.2.2.1, keep_fre (hb) h.2.2.2.2.1, below_via h.2.2.2.2.2 (hb)⟩ : ∀ W : World, (W.cell? ⟨w.heap.size, 0, none⟩ = some (.int .i64 m) ∧ W.cell? ⟨w.heap.size, 1, none⟩ = some (.slice A l.length c) ∧ W.cell? ⟨w.heap.size + 1, 0, none⟩ = some (.int .i64 0) ∧ W.cell? ⟨w.heap.size + 1, 1, none⟩ = some (.slice none 0 0) ∧ (w.heap.size + 1 < W.heap.size ∧ ∀ i, W.frozen? ⟨w.heap.size + 1, i, none⟩ = false) ∧ Below w.heap.size w W) → Below W.heap.size W w1 → (w1.cell? ⟨w.heap.size, 0, none⟩ = some (.int .i64 m) ∧ w1.cell? ⟨w.heap.size, 1, none⟩ = some (.slice A l.length c) ∧ w1.cell? ⟨w.heap.size + 1, 0, none⟩ = some (.int .i64 0) ∧ w1.cell? ⟨w.heap.size + 1, 1, none⟩ = some (.slice none 0 0) ∧ (w.heap.size + 1 < w1.heap.size ∧ ∀ i, w1.frozen? ⟨w.heap.size + 1, i, none⟩ = false) ∧ Below w.heap.size w w1)) _ (by first | (with_reducible assumption) | (exact hS) | (exact ⟨hS.1, hS.2.1, hS.2.2.1, hS.2.2.2.1, hS.2.2.2.2.1, (by go_grown)⟩) | (exact ⟨(by first | (with_reducible assumption) | (simp [go_sem]; done) | ((simp only [go_sem]); (with_reducible assumption)) | ((refine keep_cell ?_ (by with_reducible assumption)); go_grown; done) | (simp [go_sem, *]; done)), (by first | (with_reducible assumption) | (simp [go_sem]; done) | ((simp only [go_sem]); (with_reducible assumption)) | ((refine keep_cell ?_ (by with_reducible assumption)); go_grown; done) | (simp [go_sem, *]; done)), (by first | (with_reducible assumption) | (simp [go_sem]; done) | ((simp only [go_sem]); (with_reducible assumption)) | ((refine keep_cell ?_ (by with_reducible assumption)); go_grown; done) | (simp [go_sem, *]; done)), (by first | (with_reducible assumption) | (simp [go_sem]; done) | ((simp only [go_sem]); (with_reducible assumption)) | ((refine keep_cell ?_ (by with_reducible assumption)); go_grown; done) | (simp [go_sem, *]; done)), (by first | (with_reducible assumption) | (simp [go_sem]; done) | (refine keep_fre ?_ ⟨by with_reducible assumption, by with_reducible assumption⟩; go_grown; done) | (simp [go_sem, *]; done)), (by go_grown)⟩)) hb; (try clear hS); have hS := hT; clear hT; have hB := hS.2.2.2.2.2; have hzw : w.heap.size ≤ w1.heap.size := hB.size; have hz1 : w.heap.size < w1.heap.size := World.block_lt_of_cell? w1 _ (hS.1); have hz2 : w.heap.size + 1 < w1.heap.size := World.block_lt_of_cell? w1 _ (hS.2.2.1); clear hb) | (go_at_call 59; refine (l9Minute_c _ _).mono ?_; rintro e w1 ⟨rfl, rfl⟩) | (go_at_call 87; refine (l9Own_c m A c l m _ (hide (by refine reads_below h1.out ?_; go_grown)) b1).mono ?_; rintro e w2 ⟨A3, c3, rfl, hown, hb⟩; have hT : w2.cell? ⟨w.heap.size + 1, 0, none⟩ = some (.int .i64 0) ∧ w2.cell? ⟨w.heap.size + 1, 1, none⟩ = some (.slice none 0 0) ∧ (w.heap.size + 1 < w2.heap.size ∧ ∀ i, w2.frozen? ⟨w.heap.size + 1, i, none⟩ = false) ∧ Below w.heap.size w w2 := (fun W h hb => ⟨keep_cell (hb) h.1, keep_cell (hb) h.2.1, keep_fre (hb) h.2.2.1, below_via h.2.2.2 (hb)⟩ : ∀ W : World, (W.cell? ⟨w.heap.size + 1, 0, none⟩ = some (.int .i64 0) ∧ W.cell? ⟨w.heap.size + 1, 1, none⟩ = some (.slice none 0 0) ∧ (w.heap.size + 1 < W.heap.size ∧ ∀ i, W.frozen? ⟨w.heap.size + 1, i, none⟩ = false) ∧ Below w.heap.size w W) → Below W.heap.size W w2 → (w2.cell? ⟨w.heap.size + 1, 0, none⟩ = some (.int .i64 0) ∧ w2.cell? ⟨w.heap.size + 1, 1, none⟩ = some (.slice none 0 0) ∧ (w.heap.size + 1 < w2.heap.size ∧ ∀ i, w2.frozen? ⟨w.heap.size + 1, i, none⟩ = false) ∧ Below w.heap.size w w2)) _ (by first | (with_reducible assumption) | (exact hS) | (exact ⟨hS.1, hS.2.1, hS.2.2.1, (by go_grown)⟩) | (exact ⟨(by first | (with_reducible assumption) | (simp [go_sem]; done) | ((simp only [go_sem]); (with_reducible assumption)) | ((refine keep_cell ?_ (by with_reducible assumption)); go_grown; done) | (simp [go_sem, *]; done)), (by first | (with_reducible assumption) | (simp [go_sem]; done) | ((simp only [go_sem]); (with_reducible assumption)) | ((refine keep_cell ?_ (by with_reducible assumption)); go_grown; done) | (simp [go_sem, *]; done)), (by first | (with_reducible assumption) | (simp [go_sem]; done) | (refine keep_fre ?_ ⟨by with_reducible assumption, by with_reducible assumption⟩; go_grown; done) | (simp [go_sem, *]; done)), (by go_grown)⟩)) hb; (try clear hS); have hS := hT; clear hT; have hB := hS.2.2.2; have hzw : w.heap.size ≤ w2.heap.size := hB.size; have hz1 : w.heap.size + 1 < w2.heap.size := World.block_lt_of_cell? w2 _ (hS.1); clear hb))
    clear ho kt hq hq20
    obtain ⟨T, hT9⟩ : ∃ q, w2.heap.size = q := ⟨_, rfl⟩
    obtain ⟨X3, hX3⟩ : ∃ X, World.alloc w2 (.cells #[.int .i64 m, .slice A3 l.length c3] 26) = X := ⟨_, rfl⟩
    rw [hX3, hT9]
    have hbx : Below w2.heap.size w2 X3 := by rw [← hX3]; go_grown
    have hwT : w.heap.size + 1 < T := by rw [← hT9]; exact (hS.2.2.1).1
    have hTn : (Value.slice A3 l.length c3).ownBlock ≠ some T := fun e => by have := (hown.lt _ e).2; omega
    have HROW := hide (own_mono (own_below hown hbx) (show w.heap.size + 2 ≤ w1.heap.size by omega))
    have hS3 : X3.cell? ⟨w.heap.size + 1, 0, none⟩ = some (.int .i64 0) ∧ X3.cell? ⟨w.heap.size + 1, 1, none⟩ = some (.slice none 0 0) ∧ (w.heap.size + 1 < X3.heap.size ∧ ∀ i, X3.frozen? ⟨w.heap.size + 1, i, none⟩ = false) ∧ X3.cell? ⟨T, 0, none⟩ = some (.int .i64 m) ∧ X3.cell? ⟨T, 1, none⟩ = some (.slice A3 l.length c3) ∧ (T < X3.heap.size ∧ ∀ i, X3.frozen? ⟨T, i, none⟩ = false) ∧ Below w.heap.size w X3 := ⟨keep_cell hbx (hS.1), keep_cell hbx (hS.2.1), keep_fre hbx (hS.2.2.1), (by rw [← hX3, ← hT9]; simp [go_sem]), (by rw [← hX3, ← hT9]; simp [go_sem]), ⟨(by rw [← hX3, ← hT9]; simp), (by rw [← hX3, ← hT9]; simp [go_sem])⟩, below_via (hS.2.2.2) hbx⟩
    clear hS hB hzw hbx hX3 hT9 hown
    (try clear hz1)
    (try clear hz2)
    have hS := hS3
    clear hS3
    go_wp2_with fail
    go_loopw [10, 11] (fun cv iv wr => ∃ (i n : Nat) (M : Int) (L : List Hd) (AL : Option Addr) (cL : Nat), i ≤ ls.length ∧ n ≤ i ∧ iv = .int .i64 i ∧ cv = .int .i64 n ∧ Hid (raN t m l ls i = (M, L, n)) ∧ (Value.slice AL L.length cL).ownBlock ≠ some T ∧ Hid (wr.ownsRow (w.heap.size + 2) 42 10 (.slice AL L.length cL) L.length (hds L)) ∧ (wr.cell? ⟨w.heap.size + 1, 0, none⟩ = some (.int .i64 0) ∧ wr.cell? ⟨w.heap.size + 1, 1, none⟩ = some (.slice none 0 0) ∧ (w.heap.size + 1 < wr.heap.size ∧ ∀ i, wr.frozen? ⟨w.heap.size + 1, i, none⟩ = false) ∧ wr.cell? ⟨T, 0, none⟩ = some (.int .i64 M) ∧ wr.cell? ⟨T, 1, none⟩ = some (.slice AL L.length cL) ∧ (T < wr.heap.size ∧ ∀ i, wr.frozen? ⟨T, i, none⟩ = false) ∧ Below w.heap.size w wr)) (fun _ iv _ => ls.length - (intOf iv).toNat)
    case atStart => exact ⟨0, 0, m, l, A3, c3, by omega, by omega, rfl, rfl, hide rfl, hTn, HROW, hS⟩
    case round =>
      (try clear hS)
      (try clear HROW)
      (try clear hB)
      (try clear hzw)
      (try clear hTn)
      obtain ⟨i, n, M, L, AL, cL, hi, hni, rfl, rfl, HN, hLT, HROW, hS⟩ := hrel
      have hB := hS.2.2.2.2.2.2
      have hzw : w.heap.size ≤ wr.heap.size := hB.size
      have hok := raN_ok (t := t) (ls := ls) HOK.out i
      rw [HN.out] at hok
      have HOM := hide hok.1
      have hL6 : L.length ≤ 6 := (okR_iff hok.1).2.1
      clear hok
      by_cases hlt : i < ls.length
      rotate_left
      · obtain rfl : i = ls.length := by omega
        have HF := hide (ra_yes HRK.out HN.out)
        go_wp2_with fail
        refine bodyPost_ret (by simp [results, Try.results47, go_sem, cell_set_some, *]; try rfl) rfl ?_
        rw [HF.out.1, HF.out.2.1, HF.out.2.2.1, HF.out.2.2.2]
        refine ⟨AL, cL, rfl, own_mono ?_ (show w.heap.size ≤ w.heap.size + 2 by omega), by go_grown⟩
        repeat (refine own_set ?_ (by first | (simp; done) | (simp; omega)) _)
        exact HROW.out
      obtain ⟨ad, hSA, hb9, hc⟩ := (h2.out.below hB).str hlt
      obtain ⟨y, hz⟩ : ∃ q, sx ls i = q := ⟨_, rfl⟩
      have hys : y.size ≤ 1000000000000 := by rw [← hz]; exact hss.out _ (sx_mem hlt)
      rw [hz] at hc
      have HZ := hide hz
      clear hz
      subst hSA
      go_upto_region 8 with fail
      go_cut [12, 13] (fun pv kv wx => ∃ (N : Nat) (B : Option Addr) (d : Nat), pv = .pointer (some ⟨N, 0, none⟩) ∧ kv = .bool (rvK M L y t) ∧ T < N ∧ (Value.slice B (rvV M L y t).length d).ownBlock ≠ some T ∧ Hid (wx.ownsRow (w.heap.size + 2) 42 10 (.slice AL L.length cL) L.length (hds L)) ∧ Hid (wx.ownsRow (w.heap.size + 2) 42 10 (.slice B (rvV M L y t).length d) (rvV M L y t).length (hds (rvV M L y t))) ∧ (wx.cell? ⟨w.heap.size + 1, 0, none⟩ = some (.int .i64 0) ∧ wx.cell? ⟨w.heap.size + 1, 1, none⟩ = some (.slice none 0 0) ∧ (w.heap.size + 1 < wx.heap.size ∧ ∀ i, wx.frozen? ⟨w.heap.size + 1, i, none⟩ = false) ∧ wx.cell? ⟨T, 0, none⟩ = some (.int .i64 M) ∧ wx.cell? ⟨T, 1, none⟩ = some (.slice AL L.length cL) ∧ (T < wx.heap.size ∧ ∀ i, wx.frozen? ⟨T, i, none⟩ = false) ∧ wx.cell? ⟨N, 0, none⟩ = some (.int .i64 (rvM M L y t)) ∧ wx.cell? ⟨N, 1, none⟩ = some (.slice B (rvV M L y t).length d) ∧ Below w.heap.size w wx))
      case first =>
        refine wp_region_all (by kernel_rfl) ?_
        obtain ⟨W0, hW0⟩ : ∃ W, World.drew wr = W := ⟨_, rfl⟩
        rw [hW0]
        have hcw : Below wr.heap.size wr W0 := by rw [← hW0]; go_grown
        have hB1 := below_via hB hcw
        have HS0 := hide (show W0.cell? ⟨w.heap.size + 1, 0, none⟩ = some (.int .i64 0) ∧ W0.cell? ⟨w.heap.size + 1, 1, none⟩ = some (.slice none 0 0) ∧ (w.heap.size + 1 < W0.heap.size ∧ ∀ i, W0.frozen? ⟨w.heap.size + 1, i, none⟩ = false) ∧ W0.cell? ⟨T, 0, none⟩ = some (.int .i64 M) ∧ W0.cell? ⟨T, 1, none⟩ = some (.slice AL L.length cL) ∧ (T < W0.heap.size ∧ ∀ i, W0.frozen? ⟨T, i, none⟩ = false) ∧ Below w.heap.size w W0 from ⟨keep_cell hcw (hS.1), keep_cell hcw (hS.2.1), keep_fre hcw (hS.2.2.1), keep_cell hcw (hS.2.2.2.1), keep_cell hcw (hS.2.2.2.2.1), keep_fre hcw (hS.2.2.2.2.2.1), hB1⟩)
        have HRA := hide (own_below HROW.out hcw)
        have hTW : T < W0.heap.size := (HS0.out.2.2.2.2.2.1).1
        have hwW : w.heap.size + 2 ≤ W0.heap.size := by omega
        have hS7 : W0.cell? ⟨T, 0, none⟩ = some (.int .i64 M) ∧ W0.cell? ⟨T, 1, none⟩ = some (.slice AL L.length cL) ∧ W0.cell? (ad.add i) = some (.string y) ∧ Below W0.heap.size W0 W0 := ⟨HS0.out.2.2.2.1, HS0.out.2.2.2.2.1, keep_cell hcw hc, Below.refl _ _⟩
        clear hS hB hcw hB1 hW0 hzw hc HROW
        have hS := hS7
        clear hS7
        have hB := hS.2.2.2
        have hda : (ad.add i).block < W0.heap.size := World.block_lt_of_cell? W0 _ hS.2.2.1
        refine all_split 10 6 (by decide) ?_ ?_
        · refine all_seq_core [0, 1, 2, 3, 4, 5, 10, 6, 7, 8, 9, 11, 12] (fun W => W.cell? ⟨T, 0, none⟩ = some (.int .i64 M) ∧ W.cell? ⟨T, 1, none⟩ = some (.slice AL L.length cL) ∧ W.cell? (ad.add i) = some (.string y) ∧ Below W0.heap.size W0 W) (addE_core 10 6 _) (by kernel_rfl) hS ?_
          simp only [byNum, List.getElem?_cons_zero, List.getElem?_cons_succ]
          repeat (first
            | ((refine seq_skip (by rfl) (by rfl) ?_); simp only [Act.put, pa, pb, pc])
            | ((refine seq_val (v := ?_) (by rfl) (by rfl) (fun w hS => ?_) ?_); rotate_left; (focus ((try dsimp only at hS); go_simp; (try (with_reducible rfl)); done)); simp only [Act.put, pa, pb, pc]))
          refine seq_deed (v := ?_) (w' := ?_) (by rfl) (by rfl) ?_ ?_
          rotate_left
          rotate_left
          focus (go_simp; (constructor <;> (with_reducible rfl)); done)
          obtain ⟨X1, hX1⟩ : ∃ X, World.alloc W0 (.cells #[.int .i64 0, .slice none 0 0] 26) = X := ⟨_, rfl⟩
          rw [hX1]
          have hbx : Below W0.heap.size W0 X1 := by rw [← hX1]; go_grown
          have hlT : W0.heap.size ≤ W0.heap.size := hB.size
          have hmT : W0.heap.size < X1.heap.size := by rw [← hX1]; simp
          have HT9 := hide (show TZ X1 W0.heap.size 26 from by rw [← hX1]; exact TZ.new _ _)
          have HRAb := hide (own_below HRA.out hbx)
          clear HRA
          have HRA := HRAb
          clear HRAb
          have hS2 : X1.cell? ⟨T, 0, none⟩ = some (.int .i64 M) ∧ X1.cell? ⟨T, 1, none⟩ = some (.slice AL L.length cL) ∧ X1.cell? (ad.add i) = some (.string y) ∧ Below W0.heap.size W0 X1 := ⟨keep_cell hbx (hS.1), keep_cell hbx (hS.2.1), keep_cell hbx (hS.2.2.1), below_via hB hbx⟩
          clear hS hB
          have hS := hS2
          clear hS2
          have hB := hS.2.2.2
          clear hbx
          clear hX1
          have HT := HT9
          clear HT9
          refine ⟨(fun W => W.cell? ⟨T, 0, none⟩ = some (.int .i64 M) ∧ W.cell? ⟨T, 1, none⟩ = some (.slice AL L.length cL) ∧ W.cell? (ad.add i) = some (.string y) ∧ Below W0.heap.size W0 W), hS, (fun W h => h), ?_⟩
          simp only [Act.put, pa, pb, pc]
          repeat (first
            | ((refine seq_skip (by rfl) (by rfl) ?_); simp only [Act.put, pa, pb, pc])
            | ((refine seq_val (v := ?_) (by rfl) (by rfl) (fun w hS => ?_) ?_); rotate_left; (focus ((try dsimp only at hS); go_simp; (try (with_reducible rfl)); done)); simp only [Act.put, pa, pb, pc]))
          refine seq_call (f := ?_) (args := ?_) (by rfl) (by rfl) ?_ ?_
          rotate_left
          rotate_left
          focus (go_simp; (constructor <;> (with_reducible rfl)); done)
          refine (sReceive2_c M AL cL L y t X1 (hide (own_reads HRA.out)) (by omega) HOM.out hys).mono ?_
          rintro e X2 ⟨B, d, rfl, hown, hbx⟩
          have hsz2 := hB.size
          have hBN : (Value.slice B (rvV M L y t).length d).ownBlock ≠ some W0.heap.size := fun e => by have h8 := (hown.lt _ e).1; omega
          have hBT : (Value.slice B (rvV M L y t).length d).ownBlock ≠ some T := fun e => by have h8 := (hown.lt _ e).1; omega
          have HRAb := hide (own_below HRA.out hbx)
          clear HRA
          have HRA := HRAb
          clear HRAb
          have HTb := hide (HT.out.below hbx)
          clear HT
          have HT := HTb
          clear HTb
          have hS2 : X2.cell? ⟨T, 0, none⟩ = some (.int .i64 M) ∧ X2.cell? ⟨T, 1, none⟩ = some (.slice AL L.length cL) ∧ X2.cell? (ad.add i) = some (.string y) ∧ Below W0.heap.size W0 X2 := ⟨keep_cell hbx (hS.1), keep_cell hbx (hS.2.1), keep_cell hbx (hS.2.2.1), below_via hB hbx⟩
          clear hS hB
          have hS := hS2
          clear hS2
          have hB := hS.2.2.2
          clear hbx
          have HO := hide (own_mono hown (show w.heap.size + 2 ≤ X1.heap.size by omega))
          clear hown
          refine ⟨_, rfl, (fun W => W.cell? ⟨T, 0, none⟩ = some (.int .i64 M) ∧ W.cell? ⟨T, 1, none⟩ = some (.slice AL L.length cL) ∧ W.cell? (ad.add i) = some (.string y) ∧ Below W0.heap.size W0 W), hS, (fun W h => h), ?_⟩
          simp only [Act.put, pa, pb, pc]
          repeat (first
            | ((refine seq_skip (by rfl) (by rfl) ?_); simp only [Act.put, pa, pb, pc])
            | ((refine seq_val (v := ?_) (by rfl) (by rfl) (fun w hS => ?_) ?_); rotate_left; (focus ((try dsimp only at hS); go_simp; (try (with_reducible rfl)); done)); simp only [Act.put, pa, pb, pc]))
          have hAN : (Value.slice AL L.length cL).ownBlock ≠ some W0.heap.size := ty_ne HRA.out HT.out.2.2.2 (by decide)
          have hBq := hB
          obtain ⟨X9, hX9⟩ : ∃ X, (X2.setCell ⟨W0.heap.size, 0, none⟩ (.int .i64 (rvM M L y t))).setCell ⟨W0.heap.size, 1, none⟩ (.slice B (rvV M L y t).length d) = X := ⟨_, rfl⟩
          obtain ⟨y0, y1, ⟨y2, y3⟩, _⟩ := HT.out
          refine seq_store (w' := X9) (by rfl) (by rfl) (by rw [← hX9]; go_simp; (try (with_reducible rfl)); done) ?_
          have hS2 : X9.cell? ⟨T, 0, none⟩ = some (.int .i64 M) ∧ X9.cell? ⟨T, 1, none⟩ = some (.slice AL L.length cL) ∧ X9.cell? (ad.add i) = some (.string y) ∧ Below W0.heap.size W0 X9 := ⟨(by rw [← hX9]; exact sc _ (by omega) (sc _ (by omega) (hS.1))), (by rw [← hX9]; exact sc _ (by omega) (sc _ (by omega) (hS.2.1))), (by rw [← hX9]; exact (by rw [World.cell?_setCell_other _ _ _ _ (by intro e; have h8 := hda; rw [← e] at h8; have h7 : W0.heap.size < W0.heap.size := h8; omega), World.cell?_setCell_other _ _ _ _ (by intro e; have h8 := hda; rw [← e] at h8; have h7 : W0.heap.size < W0.heap.size := h8; omega)]; exact hS.2.2.1)), (by rw [← hX9]; exact (hB.setCell (p := ⟨W0.heap.size, 0, none⟩) (by show _ ≤ W0.heap.size; omega) _).setCell (p := ⟨W0.heap.size, 1, none⟩) (by show _ ≤ W0.heap.size; omega) _)⟩
          clear hS hB
          have hS := hS2
          clear hS2
          have hB := hS.2.2.2
          refine ⟨(fun W => W.cell? ⟨T, 0, none⟩ = some (.int .i64 M) ∧ W.cell? ⟨T, 1, none⟩ = some (.slice AL L.length cL) ∧ W.cell? (ad.add i) = some (.string y) ∧ Below W0.heap.size W0 W), hS, (fun W h => h), ?_⟩
          simp only [Act.put, pa, pb, pc]
          repeat (first
            | ((refine seq_skip (by rfl) (by rfl) ?_); simp only [Act.put, pa, pb, pc])
            | ((refine seq_val (v := ?_) (by rfl) (by rfl) (fun w hS => ?_) ?_); rotate_left; (focus ((try dsimp only at hS); go_simp; (try (with_reducible rfl)); done)); simp only [Act.put, pa, pb, pc]))
          refine seq_nil ?_
          go_wp2_with fail
          go_meet
          case rel => exact ⟨W0.heap.size, B, d, rfl, rfl, by omega, hBT, hide (by rw [← hX9]; exact ownsRow_setCell_other (ownsRow_setCell_other HRA.out (a := ⟨W0.heap.size, 0, none⟩) hAN _) (a := ⟨W0.heap.size, 1, none⟩) hAN _), hide (by rw [← hX9]; exact ownsRow_setCell_other (ownsRow_setCell_other HO.out (a := ⟨W0.heap.size, 0, none⟩) hBN _) (a := ⟨W0.heap.size, 1, none⟩) hBN _), (by rw [← hX9]; exact ⟨sc _ (by omega) (sc _ (by omega) (keep_cell hBq (HS0.out.1))), sc _ (by omega) (sc _ (by omega) (keep_cell hBq (HS0.out.2.1))), sf _ (sf _ (keep_fre hBq (HS0.out.2.2.1))), sc _ (by omega) (sc _ (by omega) (keep_cell hBq (HS0.out.2.2.2.1))), sc _ (by omega) (sc _ (by omega) (keep_cell hBq (HS0.out.2.2.2.2.1))), sf _ (sf _ (keep_fre hBq (HS0.out.2.2.2.2.2.1))), sc_off (by omega) (sc_at y0), sc_at (sc_off (by omega) y1), ((below_via (HS0.out.2.2.2.2.2.2) hBq).setCell (p := ⟨W0.heap.size, 0, none⟩) (by show _ ≤ W0.heap.size; omega) _).setCell (p := ⟨W0.heap.size, 1, none⟩) (by show _ ≤ W0.heap.size; omega) _⟩)⟩
        · refine all_seq_core [0, 1, 2, 3, 4, 5, 6, 7, 8, 9, 10, 11, 12] (fun W => W.cell? ⟨T, 0, none⟩ = some (.int .i64 M) ∧ W.cell? ⟨T, 1, none⟩ = some (.slice AL L.length cL) ∧ W.cell? (ad.add i) = some (.string y) ∧ Below W0.heap.size W0 W) (addE_core 6 10 _) (by kernel_rfl) hS ?_
          simp only [byNum, List.getElem?_cons_zero, List.getElem?_cons_succ]
          repeat (first
            | ((refine seq_skip (by rfl) (by rfl) ?_); simp only [Act.put, pa, pb, pc])
            | ((refine seq_val (v := ?_) (by rfl) (by rfl) (fun w hS => ?_) ?_); rotate_left; (focus ((try dsimp only at hS); go_simp; (try (with_reducible rfl)); done)); simp only [Act.put, pa, pb, pc]))
          refine seq_call (f := ?_) (args := ?_) (by rfl) (by rfl) ?_ ?_
          rotate_left
          rotate_left
          focus (go_simp; (constructor <;> (with_reducible rfl)); done)
          refine (sReceive2_c M AL cL L y t W0 (hide (own_reads HRA.out)) (by omega) HOM.out hys).mono ?_
          rintro e X1 ⟨B, d, rfl, hown, hbx⟩
          have hsz1 := hB.size
          have hBT : (Value.slice B (rvV M L y t).length d).ownBlock ≠ some T := fun e => by have h8 := (hown.lt _ e).1; omega
          have HRAb := hide (own_below HRA.out hbx)
          clear HRA
          have HRA := HRAb
          clear HRAb
          have hS2 : X1.cell? ⟨T, 0, none⟩ = some (.int .i64 M) ∧ X1.cell? ⟨T, 1, none⟩ = some (.slice AL L.length cL) ∧ X1.cell? (ad.add i) = some (.string y) ∧ Below W0.heap.size W0 X1 := ⟨keep_cell hbx (hS.1), keep_cell hbx (hS.2.1), keep_cell hbx (hS.2.2.1), below_via hB hbx⟩
          clear hS hB
          have hS := hS2
          clear hS2
          have hB := hS.2.2.2
          clear hbx
          have HO := hide (own_mono hown (show w.heap.size + 2 ≤ W0.heap.size by omega))
          have hOL := hide hown
          clear hown
          refine ⟨_, rfl, (fun W => W.cell? ⟨T, 0, none⟩ = some (.int .i64 M) ∧ W.cell? ⟨T, 1, none⟩ = some (.slice AL L.length cL) ∧ W.cell? (ad.add i) = some (.string y) ∧ Below W0.heap.size W0 W), hS, (fun W h => h), ?_⟩
          simp only [Act.put, pa, pb, pc]
          repeat (first
            | ((refine seq_skip (by rfl) (by rfl) ?_); simp only [Act.put, pa, pb, pc])
            | ((refine seq_val (v := ?_) (by rfl) (by rfl) (fun w hS => ?_) ?_); rotate_left; (focus ((try dsimp only at hS); go_simp; (try (with_reducible rfl)); done)); simp only [Act.put, pa, pb, pc]))
          refine seq_deed (v := ?_) (w' := ?_) (by rfl) (by rfl) ?_ ?_
          rotate_left
          rotate_left
          focus (go_simp; (constructor <;> (with_reducible rfl)); done)
          obtain ⟨X2, hX2⟩ : ∃ X, World.alloc X1 (.cells #[.int .i64 0, .slice none 0 0] 26) = X := ⟨_, rfl⟩
          rw [hX2]
          have hbx : Below X1.heap.size X1 X2 := by rw [← hX2]; go_grown
          have hlT : W0.heap.size ≤ X1.heap.size := hB.size
          have hmT : X1.heap.size < X2.heap.size := by rw [← hX2]; simp
          have HT9 := hide (show TZ X2 X1.heap.size 26 from by rw [← hX2]; exact TZ.new _ _)
          have HRAb := hide (own_below HRA.out hbx)
          clear HRA
          have HRA := HRAb
          clear HRAb
          have HOb := hide (own_below HO.out hbx)
          clear HO
          have HO := HOb
          clear HOb
          have hS2 : X2.cell? ⟨T, 0, none⟩ = some (.int .i64 M) ∧ X2.cell? ⟨T, 1, none⟩ = some (.slice AL L.length cL) ∧ X2.cell? (ad.add i) = some (.string y) ∧ Below W0.heap.size W0 X2 := ⟨keep_cell hbx (hS.1), keep_cell hbx (hS.2.1), keep_cell hbx (hS.2.2.1), below_via hB hbx⟩
          clear hS hB
          have hS := hS2
          clear hS2
          have hB := hS.2.2.2
          clear hbx
          clear hX2
          have HT := HT9
          clear HT9
          refine ⟨(fun W => W.cell? ⟨T, 0, none⟩ = some (.int .i64 M) ∧ W.cell? ⟨T, 1, none⟩ = some (.slice AL L.length cL) ∧ W.cell? (ad.add i) = some (.string y) ∧ Below W0.heap.size W0 W), hS, (fun W h => h), ?_⟩
          simp only [Act.put, pa, pb, pc]
          repeat (first
            | ((refine seq_skip (by rfl) (by rfl) ?_); simp only [Act.put, pa, pb, pc])
            | ((refine seq_val (v := ?_) (by rfl) (by rfl) (fun w hS => ?_) ?_); rotate_left; (focus ((try dsimp only at hS); go_simp; (try (with_reducible rfl)); done)); simp only [Act.put, pa, pb, pc]))
          have hBN : (Value.slice B (rvV M L y t).length d).ownBlock ≠ some X1.heap.size := fun e => by have h8 := (hOL.out.lt _ e).2; omega
          have hAN : (Value.slice AL L.length cL).ownBlock ≠ some X1.heap.size := ty_ne HRA.out HT.out.2.2.2 (by decide)
          have hBq := hB
          obtain ⟨X9, hX9⟩ : ∃ X, (X2.setCell ⟨X1.heap.size, 0, none⟩ (.int .i64 (rvM M L y t))).setCell ⟨X1.heap.size, 1, none⟩ (.slice B (rvV M L y t).length d) = X := ⟨_, rfl⟩
          obtain ⟨y0, y1, ⟨y2, y3⟩, _⟩ := HT.out
          refine seq_store (w' := X9) (by rfl) (by rfl) (by rw [← hX9]; go_simp; (try (with_reducible rfl)); done) ?_
          have hS2 : X9.cell? ⟨T, 0, none⟩ = some (.int .i64 M) ∧ X9.cell? ⟨T, 1, none⟩ = some (.slice AL L.length cL) ∧ X9.cell? (ad.add i) = some (.string y) ∧ Below W0.heap.size W0 X9 := ⟨(by rw [← hX9]; exact sc _ (by omega) (sc _ (by omega) (hS.1))), (by rw [← hX9]; exact sc _ (by omega) (sc _ (by omega) (hS.2.1))), (by rw [← hX9]; exact (by rw [World.cell?_setCell_other _ _ _ _ (by intro e; have h8 := hda; rw [← e] at h8; have h7 : X1.heap.size < W0.heap.size := h8; omega), World.cell?_setCell_other _ _ _ _ (by intro e; have h8 := hda; rw [← e] at h8; have h7 : X1.heap.size < W0.heap.size := h8; omega)]; exact hS.2.2.1)), (by rw [← hX9]; exact (hB.setCell (p := ⟨X1.heap.size, 0, none⟩) (by show _ ≤ X1.heap.size; omega) _).setCell (p := ⟨X1.heap.size, 1, none⟩) (by show _ ≤ X1.heap.size; omega) _)⟩
          clear hS hB
          have hS := hS2
          clear hS2
          have hB := hS.2.2.2
          refine ⟨(fun W => W.cell? ⟨T, 0, none⟩ = some (.int .i64 M) ∧ W.cell? ⟨T, 1, none⟩ = some (.slice AL L.length cL) ∧ W.cell? (ad.add i) = some (.string y) ∧ Below W0.heap.size W0 W), hS, (fun W h => h), ?_⟩
          simp only [Act.put, pa, pb, pc]
          repeat (first
            | ((refine seq_skip (by rfl) (by rfl) ?_); simp only [Act.put, pa, pb, pc])
            | ((refine seq_val (v := ?_) (by rfl) (by rfl) (fun w hS => ?_) ?_); rotate_left; (focus ((try dsimp only at hS); go_simp; (try (with_reducible rfl)); done)); simp only [Act.put, pa, pb, pc]))
          refine seq_nil ?_
          go_wp2_with fail
          go_meet
          case rel => exact ⟨X1.heap.size, B, d, rfl, rfl, by omega, hBT, hide (by rw [← hX9]; exact ownsRow_setCell_other (ownsRow_setCell_other HRA.out (a := ⟨X1.heap.size, 0, none⟩) hAN _) (a := ⟨X1.heap.size, 1, none⟩) hAN _), hide (by rw [← hX9]; exact ownsRow_setCell_other (ownsRow_setCell_other HO.out (a := ⟨X1.heap.size, 0, none⟩) hBN _) (a := ⟨X1.heap.size, 1, none⟩) hBN _), (by rw [← hX9]; exact ⟨sc _ (by omega) (sc _ (by omega) (keep_cell hBq (HS0.out.1))), sc _ (by omega) (sc _ (by omega) (keep_cell hBq (HS0.out.2.1))), sf _ (sf _ (keep_fre hBq (HS0.out.2.2.1))), sc _ (by omega) (sc _ (by omega) (keep_cell hBq (HS0.out.2.2.2.1))), sc _ (by omega) (sc _ (by omega) (keep_cell hBq (HS0.out.2.2.2.2.1))), sf _ (sf _ (keep_fre hBq (HS0.out.2.2.2.2.2.1))), sc_off (by omega) (sc_at y0), sc_at (sc_off (by omega) y1), ((below_via (HS0.out.2.2.2.2.2.2) hBq).setCell (p := ⟨X1.heap.size, 0, none⟩) (by show _ ≤ X1.heap.size; omega) _).setCell (p := ⟨X1.heap.size, 1, none⟩) (by show _ ≤ X1.heap.size; omega) _⟩)⟩
      (try clear hS)
      (try clear hB)
      (try clear hzw)
      (try clear HROW)
      clear hc
      obtain ⟨N, B, d, rfl, rfl, hTN, hBT, HRA, HRB, hS⟩ := hcut
      obtain ⟨X, hX⟩ : ∃ X, wc = X := ⟨_, rfl⟩
      rw [hX] at HRA HRB hS ⊢
      clear hX
      have hB := hS.2.2.2.2.2.2.2.2
      have hzw : w.heap.size ≤ X.heap.size := hB.size
      rcases hk : rvK M L y t with _ | _
      · have HS := hide (raN_no HN.out (show rvK M L (sx ls i) t = false from by rw [HZ.out]; exact hk))
        clear hk
        go_wp2_with fail
        go_roundw
        case rel => exact ⟨i + 1, n, M, L, AL, cL, by omega, by omega, by go_num, rfl, HS, hLT, HRA, hS.1, hS.2.1, hS.2.2.1, hS.2.2.2.1, hS.2.2.2.2.1, hS.2.2.2.2.2.1, hB⟩
        case measure => simp [intOf]; omega
      have HS := hide (raN_yes HN.out (show rvK M L (sx ls i) t = true from by rw [HZ.out]; exact hk))
      rw [HZ.out] at HS
      clear hk
      have fz : ∀ q, X.frozen? ⟨T, q, none⟩ = false := (hS.2.2.2.2.2.1).2
      have hn20 : n ≤ 20 := by omega
      go_wp2_with fail
      go_roundw
      case rel => exact ⟨i + 1, n + 1, rvM M L y t, rvV M L y t, B, d, by omega, by omega, by go_num, by go_num, HS, hBT, hide (ownsRow_setCell_other (ownsRow_setCell_other HRB.out (a := ⟨T, 0, none⟩) hBT _) (a := ⟨T, 1, none⟩) hBT _), sc _ (by omega) (sc _ (by omega) (hS.1)), sc _ (by omega) (sc _ (by omega) (hS.2.1)), sf _ (sf _ (hS.2.2.1)), sc_off (by omega) (sc_at (hS.2.2.2.1)), sc_at (sc_off (by omega) (hS.2.2.2.2.1)), sf _ (sf _ (hS.2.2.2.2.2.1)), (hB.setCell (p := ⟨T, 0, none⟩) (by show _ ≤ T; omega) _).setCell (p := ⟨T, 1, none⟩) (by show _ ≤ T; omega) _⟩
      case measure => simp [intOf]; omega
  all_goals
    go_enter Try.func47, Try.ntmps47
    go_wp2_with (first | (go_at_call 58; refine (l9Good_c _ _ _ l _ (hide (by refine reads_below h1.out ?_; go_grown)) b1).mono ?_; rintro e w1 ⟨rfl, hb⟩; have hT : w1.cell? ⟨w.heap.size, 0, none⟩ = some (.int .i64 m) ∧ w1.cell? ⟨w.heap.size, 1, none⟩ = some (.slice A l.length c) ∧ w1.cell? ⟨w.heap.size + 1, 0, none⟩ = some (.int .i64 0) ∧ w1.cell? ⟨w.heap.size + 1, 1, none⟩ = some (.slice none 0 0) ∧ (w.heap.size + 1 < w1.heap.size ∧ ∀ i, w1.frozen? ⟨w.heap.size + 1, i, none⟩ = false) ∧ Below w.heap.size w w1 := (fun W h hb => ⟨keep_cell (hb) h.1, keep_cell (hb) h.2.1, keep_cell (hb) h.2.2.1, keep_cell (hb) h.2.2.2.1, keep_fre (hb) h.2.2.2.2.1, below_via h.2.2.2.2.2 (hb)⟩ : ∀ W : World, (W.cell? ⟨w.heap.size, 0, none⟩ = some (.int .i64 m) ∧ W.cell? ⟨w.heap.size, 1, none⟩ = some (.slice A l.length c) ∧ W.cell? ⟨w.heap.size + 1, 0, none⟩ = some (.int .i64 0) ∧ W.cell? ⟨w.heap.size + 1, 1, none⟩ = some (.slice none 0 0) ∧ (w.heap.size + 1 < W.heap.size ∧ ∀ i, W.frozen? ⟨w.heap.size + 1, i, none⟩ = false) ∧ Below w.heap.size w W) → Below W.heap.size W w1 → (w1.cell? ⟨w.heap.size, 0, none⟩ = some (.int .i64 m) ∧ w1.cell? ⟨w.heap.size, 1, none⟩ = some (.slice A l.length c) ∧ w1.cell? ⟨w.heap.size + 1, 0, none⟩ = some (.int .i64 0) ∧ w1.cell? ⟨w.heap.size + 1, 1, none⟩ = some (.slice none 0 0) ∧ (w.heap.size + 1 < w1.heap.size ∧ ∀ i, w1.frozen? ⟨w.heap.size + 1, i, none⟩ = false) ∧ Below w.heap.size w w1)) _ (by first | (with_reducible assumption) | (exact hS) | (exact ⟨hS.1, hS.2.1, hS.2.2.1, hS.2.2.2.1, hS.2.2.2.2.1, (by go_grown)⟩) | (exact ⟨(by first | (with_reducible assumption) | (simp [go_sem]; done) | ((simp only [go_sem]); (with_reducible assumption)) | ((refine keep_cell ?_ (by with_reducible assumption)); go_grown; done) | (simp [go_sem, *]; done)), (by first | (with_reducible assumption) | (simp [go_sem]; done) | ((simp only [go_sem]); (with_reducible assumption)) | ((refine keep_cell ?_ (by with_reducible assumption)); go_grown; done) | (simp [go_sem, *]; done)), (by first | (with_reducible assumption) | (simp [go_sem]; done) | ((simp only [go_sem]); (with_reducible assumption)) | ((refine keep_cell ?_ (by with_reducible assumption)); go_grown; done) | (simp [go_sem, *]; done)), (by first | (with_reducible assumption) | (simp [go_sem]; done) | ((simp only [go_sem]); (with_reducible assumption)) | ((refine keep_cell ?_ (by with_reducible assumption)); go_grown; done) | (simp [go_sem, *]; done)), (by first | (with_reducible assumption) | (simp [go_sem]; done) | (refine keep_fre ?_ ⟨by with_reducible assumption, by with_reducible assumption⟩; go_grown; done) | (simp [go_sem, *]; done)), (by go_grown)⟩)) hb; (try clear hS); have hS := hT; clear hT; have hB := hS.2.2.2.2.2; have hzw : w.heap.size ≤ w1.heap.size := hB.size; have hz1 : w.heap.size < w1.heap.size := World.block_lt_of_cell? w1 _ (hS.1); have hz2 : w.heap.size + 1 < w1.heap.size := World.block_lt_of_cell? w1 _ (hS.2.2.1); clear hb) | (go_at_call 59; refine (l9Minute_c _ _).mono ?_; rintro e w1 ⟨rfl, rfl⟩))
    refine bodyPost_ret (by simp [results, Try.results47, go_sem, cell_set_some, *]; try rfl) rfl ?_
    rw [HF.out.1, HF.out.2.1, HF.out.2.2.1, HF.out.2.2.2]
    exact ⟨none, 0, rfl, World.ownsRow_nil _ _ _ _, by go_grown⟩
end Go.Proofs.Ytbeojfhakmbacaa
namespace Go.Proofs.Ytbeojfhakmbacaa
open Go.RowKit

set_option maxHeartbeats 4000000 in
theorem fnReceiveAll (m : Int) (A : Option Addr) (c : Nat) (l : List Hd) (SA : Option Addr) (SC : Nat) (ls : List ByteArray) (t : Int) (w : World) (h1 : Hid (Reads w w.heap.size 10 A l.length (hds l))) (bm : l.length ≤ 9223372036854775807) (h2 : Hid (Reads w w.heap.size 1 SA ls.length (strs ls))) (bs : ls.length ≤ 9223372036854775807) (hsm : Hid (∀ s ∈ ls, s.size ≤ maxLen))  : Calls Try.prog 12 #[.agg #[.int .i64 m, .slice A l.length c], .slice SA ls.length SC, .int .i64 t] w (Gives w (.bool true)) := by
  by_cases hbig : 1048576 < l.length
  · go_enter Try.func12, Try.ntmps12
    go_wp2_with (first | (go_at_call 29; refine (szReceiver_c _ _ _ _ _ bm (by omega) (by omega) _).mono ?_; rintro e w1 ⟨rfl, hb⟩; rw [if_pos (by omega)]; have hT : Below w.heap.size w w1 := (fun W h hb => below_via h (hb) : ∀ W : World, (Below w.heap.size w W) → Below W.heap.size W w1 → (Below w.heap.size w w1)) _ (by first | (with_reducible assumption) | go_grown) hb; (try clear hS); have hS := hT; clear hT; have hB := hS; have hzw : w.heap.size ≤ w1.heap.size := hB.size; clear hb))
    go_returns
    exact ⟨ret_eq rfl, by go_grown⟩
  have b1 : l.length ≤ 1048576 := by omega
  have HVL := hide (raV_len m l ls t)
  go_enter Try.func12, Try.ntmps12
  go_wp2_with fail
  refine (szReceiver_c _ _ _ _ _ bm (by omega) (by omega) _).mono ?_
  rintro e w1 ⟨rfl, hb⟩
  rw [if_neg (by omega)]
  have hT : w1.cell? ⟨w.heap.size, 0, none⟩ = some (.int .i64 m) ∧ w1.cell? ⟨w.heap.size, 1, none⟩ = some (.slice A l.length c) ∧ Below w.heap.size w w1 := (fun W h hb => ⟨keep_cell (hb) h.1, keep_cell (hb) h.2.1, below_via h.2.2 (hb)⟩ : ∀ W : World, (W.cell? ⟨w.heap.size, 0, none⟩ = some (.int .i64 m) ∧ W.cell? ⟨w.heap.size, 1, none⟩ = some (.slice A l.length c) ∧ Below w.heap.size w W) → Below W.heap.size W w1 → (w1.cell? ⟨w.heap.size, 0, none⟩ = some (.int .i64 m) ∧ w1.cell? ⟨w.heap.size, 1, none⟩ = some (.slice A l.length c) ∧ Below w.heap.size w w1)) _ (by first | (with_reducible assumption) | (exact hS) | (exact ⟨hS.1, hS.2.1, (by go_grown)⟩) | (exact ⟨(by first | (with_reducible assumption) | (simp [go_sem]; done) | ((simp only [go_sem]); (with_reducible assumption)) | ((refine keep_cell ?_ (by with_reducible assumption)); go_grown; done) | (simp [go_sem, *]; done)), (by first | (with_reducible assumption) | (simp [go_sem]; done) | ((simp only [go_sem]); (with_reducible assumption)) | ((refine keep_cell ?_ (by with_reducible assumption)); go_grown; done) | (simp [go_sem, *]; done)), (by go_grown)⟩)) hb
  (try clear hS)
  have hS := hT
  clear hT
  have hB := hS.2.2
  have hzw : w.heap.size ≤ w1.heap.size := hB.size
  have hz1 : w.heap.size < w1.heap.size := World.block_lt_of_cell? w1 _ (hS.1)
  clear hb
  go_wp2_with fail
  refine (szStringS_c SA SC ls _ _ (hide (reads_below h2.out (by go_grown))) bs hsm (by omega) (by omega)).mono ?_
  rintro e wz ⟨v, rfl, hv, rfl⟩
  rcases hv with hv | ⟨hv, bls, HSS⟩
  · go_wp2
    go_returns
    exact ⟨ret_eq rfl, by go_grown⟩
  have hv2 : decide (v < 0) = false := decide_eq_false (by omega)
  have HSS2 : Hid (∀ s ∈ ls, s.size ≤ 1000000000000) := hide (fun s hs => by have := HSS.out s hs; omega)
  go_wp2_with fail
  refine (toReceiver_c m A c l _ (hide (reads_below h1.out (by go_grown))) (by omega)).mono ?_
  rintro e w2 ⟨A1, c1, rfl, ho1, hb⟩
  obtain ⟨b1, ho1, hbk1⟩ := own_based ho1 (m := w1.heap.size) (by first | omega | (simp; done) | (simp; omega))
  have hT : w2.ownsRow (b1) 42 10 (.slice A1 l.length c1) (l.length) (hds l) ∧ w2.cell? ⟨w.heap.size, 0, none⟩ = some (.int .i64 m) ∧ w2.cell? ⟨w.heap.size, 1, none⟩ = some (.slice A l.length c) ∧ Below w.heap.size w w2 := ⟨ho1, ⟨keep_cell (hb) hS.1, keep_cell (hb) hS.2.1, below_via hS.2.2 (hb)⟩⟩
  (try clear hS)
  have hS := hT
  clear hT
  have hB := hS.2.2.2
  have hzw : w.heap.size ≤ w2.heap.size := hB.size
  have hz1 : w.heap.size < w2.heap.size := World.block_lt_of_cell? w2 _ (hS.2.1)
  clear hb
  have hP := hS
  go_wp2_with fail
  refine (toStringS_c SA SC ls _ (hide (reads_below h2.out (by go_grown))) (by omega)).mono ?_
  rintro e w3 ⟨A2, c2, rfl, ho2, hb⟩
  obtain ⟨b2, ho2, hbk2⟩ := own_based ho2 (m := w2.heap.size) (by first | omega | (simp; done) | (simp; omega))
  have ne1_2 := own_ne (hP.1) ho2 hbk2
  clear hP
  have hT : w3.ownsRow (b2) 9 1 (.slice A2 ls.length c2) (ls.length) (strs ls) ∧ w3.ownsRow (b1) 42 10 (.slice A1 l.length c1) (l.length) (hds l) ∧ w3.cell? ⟨w.heap.size, 0, none⟩ = some (.int .i64 m) ∧ w3.cell? ⟨w.heap.size, 1, none⟩ = some (.slice A l.length c) ∧ Below w.heap.size w w3 := ⟨ho2, ⟨own_below hS.1 (hb), keep_cell (hb) hS.2.1, keep_cell (hb) hS.2.2.1, below_via hS.2.2.2 (hb)⟩⟩
  (try clear hS)
  have hS := hT
  clear hT
  have hB := hS.2.2.2.2
  have hzw : w.heap.size ≤ w3.heap.size := hB.size
  have hz1 : w.heap.size < w3.heap.size := World.block_lt_of_cell? w3 _ (hS.2.2.1)
  clear hb
  have hP := hS
  go_wp2_with fail
  refine (sReceiveAll_c _ _ _ l _ _ ls t _ (hide (own_reads (hS.2.1))) (by omega) (hide (own_reads (hS.1))) (by omega) HSS2).mono ?_
  rintro e w4 ⟨A3, c3, rfl, ho3, hb⟩
  obtain ⟨b3, ho3, hbk3⟩ := own_based ho3 (m := w3.heap.size) (by first | omega | (simp; done) | (simp; omega))
  have ne1_3 := own_ne (hP.2.1) ho3 hbk3
  have ne2_3 := own_ne (hP.1) ho3 hbk3
  clear hP
  have hT : w4.ownsRow (b3) 42 10 (.slice A3 (raV m l ls t).length c3) ((raV m l ls t).length) (hds (raV m l ls t)) ∧ w4.ownsRow (b2) 9 1 (.slice A2 ls.length c2) (ls.length) (strs ls) ∧ w4.ownsRow (b1) 42 10 (.slice A1 l.length c1) (l.length) (hds l) ∧ w4.cell? ⟨w.heap.size, 0, none⟩ = some (.int .i64 m) ∧ w4.cell? ⟨w.heap.size, 1, none⟩ = some (.slice A l.length c) ∧ Below w.heap.size w w4 := ⟨ho3, ⟨own_below hS.1 (hb), own_below hS.2.1 (hb), keep_cell (hb) hS.2.2.1, keep_cell (hb) hS.2.2.2.1, below_via hS.2.2.2.2 (hb)⟩⟩
  (try clear hS)
  have hS := hT
  clear hT
  have hB := hS.2.2.2.2.2
  have hzw : w.heap.size ≤ w4.heap.size := hB.size
  have hz1 : w.heap.size < w4.heap.size := World.block_lt_of_cell? w4 _ (hS.2.2.2.1)
  clear hb
  have up1_1 : ∀ g, Value.ownBlock (.slice A1 (l.length) c1) = some g → g < w4.heap.size := fun g e => (World.ownsRow.lt (hS.2.2.1) g e).2
  have up2_1 : ∀ g, Value.ownBlock (.slice A2 (ls.length) c2) = some g → g < w4.heap.size := fun g e => (World.ownsRow.lt (hS.2.1) g e).2
  have up3_1 : ∀ g, Value.ownBlock (.slice A3 ((raV m l ls t).length) c3) = some g → g < w4.heap.size := fun g e => (World.ownsRow.lt (hS.1) g e).2
  go_wp2_with fail
  obtain ⟨w5, hww5⟩ : ∃ W, W = w4.alloc (.cells #[.int .i64 (raM m l ls t), .slice A3 (raV m l ls t).length c3] 26) := ⟨_, rfl⟩
  have hT : w5.cell? ⟨w4.heap.size, 0, none⟩ = some (.int .i64 (raM m l ls t)) ∧ w5.cell? ⟨w4.heap.size, 1, none⟩ = some (.slice A3 (raV m l ls t).length c3) ∧ w5.ownsRow (b3) 42 10 (.slice A3 (raV m l ls t).length c3) ((raV m l ls t).length) (hds (raV m l ls t)) ∧ w5.ownsRow (b2) 9 1 (.slice A2 ls.length c2) (ls.length) (strs ls) ∧ w5.ownsRow (b1) 42 10 (.slice A1 l.length c1) (l.length) (hds l) ∧ w5.cell? ⟨w.heap.size, 0, none⟩ = some (.int .i64 m) ∧ w5.cell? ⟨w.heap.size, 1, none⟩ = some (.slice A l.length c) ∧ Below w.heap.size w w5 := by
    rw [hww5]
    exact ⟨by simp [go_sem], by simp [go_sem], own_below hS.1 (by go_grown), own_below hS.2.1 (by go_grown), own_below hS.2.2.1 (by go_grown), keep_cell (by go_grown) hS.2.2.2.1, keep_cell (by go_grown) hS.2.2.2.2.1, below_via hS.2.2.2.2.2 (by go_grown)⟩
  rw [← hww5]
  clear hS hww5
  have hS := hT
  clear hT
  (try clear hB hzw)
  have hB := hS.2.2.2.2.2.2.2
  have hzw : w.heap.size ≤ w5.heap.size := hB.size
  have hz1 : w4.heap.size < w5.heap.size := World.block_lt_of_cell? w5 _ (hS.1)
  have hz2 : w.heap.size < w5.heap.size := World.block_lt_of_cell? w5 _ (hS.2.2.2.2.2.1)
  have hP := hS
  go_wp2_with fail
  refine (toReceiver_c m A c l _ (hide (reads_below h1.out (by go_grown))) (by omega)).mono ?_
  rintro e w6 ⟨A4, c4, rfl, ho4, hb⟩
  obtain ⟨b4, ho4, hbk4⟩ := own_based ho4 (m := w5.heap.size) (by first | omega | (simp; done) | (simp; omega))
  have ne1_4 := own_ne (hP.2.2.2.2.1) ho4 hbk4
  have ne2_4 := own_ne (hP.2.2.2.1) ho4 hbk4
  have ne3_4 := own_ne (hP.2.2.1) ho4 hbk4
  clear hP
  have hT : w6.ownsRow (b4) 42 10 (.slice A4 l.length c4) (l.length) (hds l) ∧ w6.cell? ⟨w4.heap.size, 0, none⟩ = some (.int .i64 (raM m l ls t)) ∧ w6.cell? ⟨w4.heap.size, 1, none⟩ = some (.slice A3 (raV m l ls t).length c3) ∧ w6.ownsRow (b3) 42 10 (.slice A3 (raV m l ls t).length c3) ((raV m l ls t).length) (hds (raV m l ls t)) ∧ w6.ownsRow (b2) 9 1 (.slice A2 ls.length c2) (ls.length) (strs ls) ∧ w6.ownsRow (b1) 42 10 (.slice A1 l.length c1) (l.length) (hds l) ∧ w6.cell? ⟨w.heap.size, 0, none⟩ = some (.int .i64 m) ∧ w6.cell? ⟨w.heap.size, 1, none⟩ = some (.slice A l.length c) ∧ Below w.heap.size w w6 := ⟨ho4, ⟨keep_cell (hb) hS.1, keep_cell (hb) hS.2.1, own_below hS.2.2.1 (hb), own_below hS.2.2.2.1 (hb), own_below hS.2.2.2.2.1 (hb), keep_cell (hb) hS.2.2.2.2.2.1, keep_cell (hb) hS.2.2.2.2.2.2.1, below_via hS.2.2.2.2.2.2.2 (hb)⟩⟩
  (try clear hS)
  have hS := hT
  clear hT
  have hB := hS.2.2.2.2.2.2.2.2
  have hzw : w.heap.size ≤ w6.heap.size := hB.size
  have hz1 : w4.heap.size < w6.heap.size := World.block_lt_of_cell? w6 _ (hS.2.1)
  have hz2 : w.heap.size < w6.heap.size := World.block_lt_of_cell? w6 _ (hS.2.2.2.2.2.2.1)
  clear hb
  have up1_2 : ∀ g, Value.ownBlock (.slice A1 (l.length) c1) = some g → g < w6.heap.size := fun g e => (World.ownsRow.lt (hS.2.2.2.2.2.1) g e).2
  have up2_2 : ∀ g, Value.ownBlock (.slice A2 (ls.length) c2) = some g → g < w6.heap.size := fun g e => (World.ownsRow.lt (hS.2.2.2.2.1) g e).2
  have up3_2 : ∀ g, Value.ownBlock (.slice A3 ((raV m l ls t).length) c3) = some g → g < w6.heap.size := fun g e => (World.ownsRow.lt (hS.2.2.2.1) g e).2
  have up4_2 : ∀ g, Value.ownBlock (.slice A4 (l.length) c4) = some g → g < w6.heap.size := fun g e => (World.ownsRow.lt (hS.1) g e).2
  go_wp2_with fail
  obtain ⟨w7, hww7⟩ : ∃ W, W = w6.alloc (.cells #[.int .i64 m, .slice A4 l.length c4] 26) := ⟨_, rfl⟩
  have hT : w7.cell? ⟨w6.heap.size, 0, none⟩ = some (.int .i64 m) ∧ w7.cell? ⟨w6.heap.size, 1, none⟩ = some (.slice A4 l.length c4) ∧ w7.ownsRow (b4) 42 10 (.slice A4 l.length c4) (l.length) (hds l) ∧ w7.cell? ⟨w4.heap.size, 0, none⟩ = some (.int .i64 (raM m l ls t)) ∧ w7.cell? ⟨w4.heap.size, 1, none⟩ = some (.slice A3 (raV m l ls t).length c3) ∧ w7.ownsRow (b3) 42 10 (.slice A3 (raV m l ls t).length c3) ((raV m l ls t).length) (hds (raV m l ls t)) ∧ w7.ownsRow (b2) 9 1 (.slice A2 ls.length c2) (ls.length) (strs ls) ∧ w7.ownsRow (b1) 42 10 (.slice A1 l.length c1) (l.length) (hds l) ∧ w7.cell? ⟨w.heap.size, 0, none⟩ = some (.int .i64 m) ∧ w7.cell? ⟨w.heap.size, 1, none⟩ = some (.slice A l.length c) ∧ Below w.heap.size w w7 := by
    rw [hww7]
    exact ⟨by simp [go_sem], by simp [go_sem], own_below hS.1 (by go_grown), keep_cell (by go_grown) hS.2.1, keep_cell (by go_grown) hS.2.2.1, own_below hS.2.2.2.1 (by go_grown), own_below hS.2.2.2.2.1 (by go_grown), own_below hS.2.2.2.2.2.1 (by go_grown), keep_cell (by go_grown) hS.2.2.2.2.2.2.1, keep_cell (by go_grown) hS.2.2.2.2.2.2.2.1, below_via hS.2.2.2.2.2.2.2.2 (by go_grown)⟩
  rw [← hww7]
  clear hS hww7
  have hS := hT
  clear hT
  (try clear hB hzw)
  have hB := hS.2.2.2.2.2.2.2.2.2.2
  have hzw : w.heap.size ≤ w7.heap.size := hB.size
  have hz1 : w6.heap.size < w7.heap.size := World.block_lt_of_cell? w7 _ (hS.1)
  have hz2 : w4.heap.size < w7.heap.size := World.block_lt_of_cell? w7 _ (hS.2.2.2.1)
  have hz3 : w.heap.size < w7.heap.size := World.block_lt_of_cell? w7 _ (hS.2.2.2.2.2.2.2.2.1)
  have hP := hS
  go_wp2_with fail
  refine (toStringS_c SA SC ls _ (hide (reads_below h2.out (by go_grown))) (by omega)).mono ?_
  rintro e w8 ⟨A5, c5, rfl, ho5, hb⟩
  obtain ⟨b5, ho5, hbk5⟩ := own_based ho5 (m := w7.heap.size) (by first | omega | (simp; done) | (simp; omega))
  have ne1_5 := own_ne (hP.2.2.2.2.2.2.2.1) ho5 hbk5
  have ne2_5 := own_ne (hP.2.2.2.2.2.2.1) ho5 hbk5
  have ne3_5 := own_ne (hP.2.2.2.2.2.1) ho5 hbk5
  have ne4_5 := own_ne (hP.2.2.1) ho5 hbk5
  clear hP
  have hT : w8.ownsRow (b5) 9 1 (.slice A5 ls.length c5) (ls.length) (strs ls) ∧ w8.cell? ⟨w6.heap.size, 0, none⟩ = some (.int .i64 m) ∧ w8.cell? ⟨w6.heap.size, 1, none⟩ = some (.slice A4 l.length c4) ∧ w8.ownsRow (b4) 42 10 (.slice A4 l.length c4) (l.length) (hds l) ∧ w8.cell? ⟨w4.heap.size, 0, none⟩ = some (.int .i64 (raM m l ls t)) ∧ w8.cell? ⟨w4.heap.size, 1, none⟩ = some (.slice A3 (raV m l ls t).length c3) ∧ w8.ownsRow (b3) 42 10 (.slice A3 (raV m l ls t).length c3) ((raV m l ls t).length) (hds (raV m l ls t)) ∧ w8.ownsRow (b2) 9 1 (.slice A2 ls.length c2) (ls.length) (strs ls) ∧ w8.ownsRow (b1) 42 10 (.slice A1 l.length c1) (l.length) (hds l) ∧ w8.cell? ⟨w.heap.size, 0, none⟩ = some (.int .i64 m) ∧ w8.cell? ⟨w.heap.size, 1, none⟩ = some (.slice A l.length c) ∧ Below w.heap.size w w8 := ⟨ho5, ⟨keep_cell (hb) hS.1, keep_cell (hb) hS.2.1, own_below hS.2.2.1 (hb), keep_cell (hb) hS.2.2.2.1, keep_cell (hb) hS.2.2.2.2.1, own_below hS.2.2.2.2.2.1 (hb), own_below hS.2.2.2.2.2.2.1 (hb), own_below hS.2.2.2.2.2.2.2.1 (hb), keep_cell (hb) hS.2.2.2.2.2.2.2.2.1, keep_cell (hb) hS.2.2.2.2.2.2.2.2.2.1, below_via hS.2.2.2.2.2.2.2.2.2.2 (hb)⟩⟩
  (try clear hS)
  have hS := hT
  clear hT
  have hB := hS.2.2.2.2.2.2.2.2.2.2.2
  have hzw : w.heap.size ≤ w8.heap.size := hB.size
  have hz1 : w6.heap.size < w8.heap.size := World.block_lt_of_cell? w8 _ (hS.2.1)
  have hz2 : w4.heap.size < w8.heap.size := World.block_lt_of_cell? w8 _ (hS.2.2.2.2.1)
  have hz3 : w.heap.size < w8.heap.size := World.block_lt_of_cell? w8 _ (hS.2.2.2.2.2.2.2.2.2.1)
  clear hb
  have hP := hS
  go_wp2_with fail
  refine (ReceiveAll_c _ _ _ l _ _ ls t _ (hide (own_reads (hS.2.2.2.1))) (by omega) (hide (own_reads (hS.1))) (by omega) HSS2).mono ?_
  rintro e w9 ⟨A6, c6, rfl, ho6, hb⟩
  obtain ⟨b6, ho6, hbk6⟩ := own_based ho6 (m := w8.heap.size) (by first | omega | (simp; done) | (simp; omega))
  have ne1_6 := own_ne (hP.2.2.2.2.2.2.2.2.1) ho6 hbk6
  have ne2_6 := own_ne (hP.2.2.2.2.2.2.2.1) ho6 hbk6
  have ne3_6 := own_ne (hP.2.2.2.2.2.2.1) ho6 hbk6
  have ne4_6 := own_ne (hP.2.2.2.1) ho6 hbk6
  have ne5_6 := own_ne (hP.1) ho6 hbk6
  clear hP
  have hT : w9.ownsRow (b6) 42 10 (.slice A6 (raV m l ls t).length c6) ((raV m l ls t).length) (hds (raV m l ls t)) ∧ w9.ownsRow (b5) 9 1 (.slice A5 ls.length c5) (ls.length) (strs ls) ∧ w9.cell? ⟨w6.heap.size, 0, none⟩ = some (.int .i64 m) ∧ w9.cell? ⟨w6.heap.size, 1, none⟩ = some (.slice A4 l.length c4) ∧ w9.ownsRow (b4) 42 10 (.slice A4 l.length c4) (l.length) (hds l) ∧ w9.cell? ⟨w4.heap.size, 0, none⟩ = some (.int .i64 (raM m l ls t)) ∧ w9.cell? ⟨w4.heap.size, 1, none⟩ = some (.slice A3 (raV m l ls t).length c3) ∧ w9.ownsRow (b3) 42 10 (.slice A3 (raV m l ls t).length c3) ((raV m l ls t).length) (hds (raV m l ls t)) ∧ w9.ownsRow (b2) 9 1 (.slice A2 ls.length c2) (ls.length) (strs ls) ∧ w9.ownsRow (b1) 42 10 (.slice A1 l.length c1) (l.length) (hds l) ∧ w9.cell? ⟨w.heap.size, 0, none⟩ = some (.int .i64 m) ∧ w9.cell? ⟨w.heap.size, 1, none⟩ = some (.slice A l.length c) ∧ Below w.heap.size w w9 := ⟨ho6, ⟨own_below hS.1 (hb), keep_cell (hb) hS.2.1, keep_cell (hb) hS.2.2.1, own_below hS.2.2.2.1 (hb), keep_cell (hb) hS.2.2.2.2.1, keep_cell (hb) hS.2.2.2.2.2.1, own_below hS.2.2.2.2.2.2.1 (hb), own_below hS.2.2.2.2.2.2.2.1 (hb), own_below hS.2.2.2.2.2.2.2.2.1 (hb), keep_cell (hb) hS.2.2.2.2.2.2.2.2.2.1, keep_cell (hb) hS.2.2.2.2.2.2.2.2.2.2.1, below_via hS.2.2.2.2.2.2.2.2.2.2.2 (hb)⟩⟩
  (try clear hS)
  have hS := hT
  clear hT
  have hB := hS.2.2.2.2.2.2.2.2.2.2.2.2
  have hzw : w.heap.size ≤ w9.heap.size := hB.size
  have hz1 : w6.heap.size < w9.heap.size := World.block_lt_of_cell? w9 _ (hS.2.2.1)
  have hz2 : w4.heap.size < w9.heap.size := World.block_lt_of_cell? w9 _ (hS.2.2.2.2.2.1)
  have hz3 : w.heap.size < w9.heap.size := World.block_lt_of_cell? w9 _ (hS.2.2.2.2.2.2.2.2.2.2.1)
  clear hb
  have up1_3 : ∀ g, Value.ownBlock (.slice A1 (l.length) c1) = some g → g < w9.heap.size := fun g e => (World.ownsRow.lt (hS.2.2.2.2.2.2.2.2.2.1) g e).2
  have up2_3 : ∀ g, Value.ownBlock (.slice A2 (ls.length) c2) = some g → g < w9.heap.size := fun g e => (World.ownsRow.lt (hS.2.2.2.2.2.2.2.2.1) g e).2
  have up3_3 : ∀ g, Value.ownBlock (.slice A3 ((raV m l ls t).length) c3) = some g → g < w9.heap.size := fun g e => (World.ownsRow.lt (hS.2.2.2.2.2.2.2.1) g e).2
  have up4_3 : ∀ g, Value.ownBlock (.slice A4 (l.length) c4) = some g → g < w9.heap.size := fun g e => (World.ownsRow.lt (hS.2.2.2.2.1) g e).2
  have up5_3 : ∀ g, Value.ownBlock (.slice A5 (ls.length) c5) = some g → g < w9.heap.size := fun g e => (World.ownsRow.lt (hS.2.1) g e).2
  have up6_3 : ∀ g, Value.ownBlock (.slice A6 ((raV m l ls t).length) c6) = some g → g < w9.heap.size := fun g e => (World.ownsRow.lt (hS.1) g e).2
  go_wp2_with fail
  obtain ⟨w10, hww10⟩ : ∃ W, W = w9.alloc (.cells #[.int .i64 (raM m l ls t), .slice A6 (raV m l ls t).length c6] 26) := ⟨_, rfl⟩
  have hT : w10.cell? ⟨w9.heap.size, 0, none⟩ = some (.int .i64 (raM m l ls t)) ∧ w10.cell? ⟨w9.heap.size, 1, none⟩ = some (.slice A6 (raV m l ls t).length c6) ∧ w10.ownsRow (b6) 42 10 (.slice A6 (raV m l ls t).length c6) ((raV m l ls t).length) (hds (raV m l ls t)) ∧ w10.ownsRow (b5) 9 1 (.slice A5 ls.length c5) (ls.length) (strs ls) ∧ w10.cell? ⟨w6.heap.size, 0, none⟩ = some (.int .i64 m) ∧ w10.cell? ⟨w6.heap.size, 1, none⟩ = some (.slice A4 l.length c4) ∧ w10.ownsRow (b4) 42 10 (.slice A4 l.length c4) (l.length) (hds l) ∧ w10.cell? ⟨w4.heap.size, 0, none⟩ = some (.int .i64 (raM m l ls t)) ∧ w10.cell? ⟨w4.heap.size, 1, none⟩ = some (.slice A3 (raV m l ls t).length c3) ∧ w10.ownsRow (b3) 42 10 (.slice A3 (raV m l ls t).length c3) ((raV m l ls t).length) (hds (raV m l ls t)) ∧ w10.ownsRow (b2) 9 1 (.slice A2 ls.length c2) (ls.length) (strs ls) ∧ w10.ownsRow (b1) 42 10 (.slice A1 l.length c1) (l.length) (hds l) ∧ w10.cell? ⟨w.heap.size, 0, none⟩ = some (.int .i64 m) ∧ w10.cell? ⟨w.heap.size, 1, none⟩ = some (.slice A l.length c) ∧ Below w.heap.size w w10 := by
    rw [hww10]
    exact ⟨by simp [go_sem], by simp [go_sem], own_below hS.1 (by go_grown), own_below hS.2.1 (by go_grown), keep_cell (by go_grown) hS.2.2.1, keep_cell (by go_grown) hS.2.2.2.1, own_below hS.2.2.2.2.1 (by go_grown), keep_cell (by go_grown) hS.2.2.2.2.2.1, keep_cell (by go_grown) hS.2.2.2.2.2.2.1, own_below hS.2.2.2.2.2.2.2.1 (by go_grown), own_below hS.2.2.2.2.2.2.2.2.1 (by go_grown), own_below hS.2.2.2.2.2.2.2.2.2.1 (by go_grown), keep_cell (by go_grown) hS.2.2.2.2.2.2.2.2.2.2.1, keep_cell (by go_grown) hS.2.2.2.2.2.2.2.2.2.2.2.1, below_via hS.2.2.2.2.2.2.2.2.2.2.2.2 (by go_grown)⟩
  rw [← hww10]
  clear hS hww10
  have hS := hT
  clear hT
  (try clear hB hzw)
  have hB := hS.2.2.2.2.2.2.2.2.2.2.2.2.2.2
  have hzw : w.heap.size ≤ w10.heap.size := hB.size
  have hz1 : w9.heap.size < w10.heap.size := World.block_lt_of_cell? w10 _ (hS.1)
  have hz2 : w6.heap.size < w10.heap.size := World.block_lt_of_cell? w10 _ (hS.2.2.2.2.1)
  have hz3 : w4.heap.size < w10.heap.size := World.block_lt_of_cell? w10 _ (hS.2.2.2.2.2.2.2.1)
  have hz4 : w.heap.size < w10.heap.size := World.block_lt_of_cell? w10 _ (hS.2.2.2.2.2.2.2.2.2.2.2.2.1)
  go_wp2_with fail
  refine (eqReceiver_c _ _ _ _ _ (raV m l ls t) _ (hide (own_reads (hS.2.2.1))) (hide (own_reads (hS.2.2.2.2.2.2.2.2.2.1))) (by have := HVL.out; omega)).mono ?_
  rintro e w11 ⟨rfl, hb⟩
  have hT : w11.cell? ⟨w9.heap.size, 0, none⟩ = some (.int .i64 (raM m l ls t)) ∧ w11.cell? ⟨w9.heap.size, 1, none⟩ = some (.slice A6 (raV m l ls t).length c6) ∧ w11.ownsRow (b6) 42 10 (.slice A6 (raV m l ls t).length c6) ((raV m l ls t).length) (hds (raV m l ls t)) ∧ w11.ownsRow (b5) 9 1 (.slice A5 ls.length c5) (ls.length) (strs ls) ∧ w11.cell? ⟨w6.heap.size, 0, none⟩ = some (.int .i64 m) ∧ w11.cell? ⟨w6.heap.size, 1, none⟩ = some (.slice A4 l.length c4) ∧ w11.ownsRow (b4) 42 10 (.slice A4 l.length c4) (l.length) (hds l) ∧ w11.cell? ⟨w4.heap.size, 0, none⟩ = some (.int .i64 (raM m l ls t)) ∧ w11.cell? ⟨w4.heap.size, 1, none⟩ = some (.slice A3 (raV m l ls t).length c3) ∧ w11.ownsRow (b3) 42 10 (.slice A3 (raV m l ls t).length c3) ((raV m l ls t).length) (hds (raV m l ls t)) ∧ w11.ownsRow (b2) 9 1 (.slice A2 ls.length c2) (ls.length) (strs ls) ∧ w11.ownsRow (b1) 42 10 (.slice A1 l.length c1) (l.length) (hds l) ∧ w11.cell? ⟨w.heap.size, 0, none⟩ = some (.int .i64 m) ∧ w11.cell? ⟨w.heap.size, 1, none⟩ = some (.slice A l.length c) ∧ Below w.heap.size w w11 := ⟨keep_cell (hb) hS.1, keep_cell (hb) hS.2.1, own_below hS.2.2.1 (hb), own_below hS.2.2.2.1 (hb), keep_cell (hb) hS.2.2.2.2.1, keep_cell (hb) hS.2.2.2.2.2.1, own_below hS.2.2.2.2.2.2.1 (hb), keep_cell (hb) hS.2.2.2.2.2.2.2.1, keep_cell (hb) hS.2.2.2.2.2.2.2.2.1, own_below hS.2.2.2.2.2.2.2.2.2.1 (hb), own_below hS.2.2.2.2.2.2.2.2.2.2.1 (hb), own_below hS.2.2.2.2.2.2.2.2.2.2.2.1 (hb), keep_cell (hb) hS.2.2.2.2.2.2.2.2.2.2.2.2.1, keep_cell (hb) hS.2.2.2.2.2.2.2.2.2.2.2.2.2.1, below_via hS.2.2.2.2.2.2.2.2.2.2.2.2.2.2 (hb)⟩
  (try clear hS)
  have hS := hT
  clear hT
  have hB := hS.2.2.2.2.2.2.2.2.2.2.2.2.2.2
  have hzw : w.heap.size ≤ w11.heap.size := hB.size
  have hz1 : w9.heap.size < w11.heap.size := World.block_lt_of_cell? w11 _ (hS.1)
  have hz2 : w6.heap.size < w11.heap.size := World.block_lt_of_cell? w11 _ (hS.2.2.2.2.1)
  have hz3 : w4.heap.size < w11.heap.size := World.block_lt_of_cell? w11 _ (hS.2.2.2.2.2.2.2.1)
  have hz4 : w.heap.size < w11.heap.size := World.block_lt_of_cell? w11 _ (hS.2.2.2.2.2.2.2.2.2.2.2.2.1)
  clear hb
  go_wp2
  refine wp_region_seq deed [0, 1, 2, 3, 4] (fun W => W.cell? ⟨w9.heap.size, 0, none⟩ = some (.int .i64 (raM m l ls t)) ∧ W.cell? ⟨w9.heap.size, 1, none⟩ = some (.slice A6 (raV m l ls t).length c6) ∧ W.ownsRow (b6) 42 10 (.slice A6 (raV m l ls t).length c6) ((raV m l ls t).length) (hds (raV m l ls t)) ∧ W.ownsRow (b5) 9 1 (.slice A5 ls.length c5) (ls.length) (strs ls) ∧ W.cell? ⟨w6.heap.size, 0, none⟩ = some (.int .i64 m) ∧ W.cell? ⟨w6.heap.size, 1, none⟩ = some (.slice A4 l.length c4) ∧ W.ownsRow (b4) 42 10 (.slice A4 l.length c4) (l.length) (hds l) ∧ W.cell? ⟨w4.heap.size, 0, none⟩ = some (.int .i64 (raM m l ls t)) ∧ W.cell? ⟨w4.heap.size, 1, none⟩ = some (.slice A3 (raV m l ls t).length c3) ∧ W.ownsRow (b3) 42 10 (.slice A3 (raV m l ls t).length c3) ((raV m l ls t).length) (hds (raV m l ls t)) ∧ W.ownsRow (b2) 9 1 (.slice A2 ls.length c2) (ls.length) (strs ls) ∧ W.ownsRow (b1) 42 10 (.slice A1 l.length c1) (l.length) (hds l) ∧ W.cell? ⟨w.heap.size, 0, none⟩ = some (.int .i64 m) ∧ W.cell? ⟨w.heap.size, 1, none⟩ = some (.slice A l.length c) ∧ Below w.heap.size w W) (by kernel_rfl) (by kernel_rfl) (by first | (with_reducible assumption) | (exact hS) | (exact ⟨hS.1, hS.2.1, hS.2.2.1, hS.2.2.2.1, hS.2.2.2.2.1, hS.2.2.2.2.2.1, hS.2.2.2.2.2.2.1, hS.2.2.2.2.2.2.2.1, hS.2.2.2.2.2.2.2.2.1, hS.2.2.2.2.2.2.2.2.2.1, hS.2.2.2.2.2.2.2.2.2.2.1, hS.2.2.2.2.2.2.2.2.2.2.2.1, hS.2.2.2.2.2.2.2.2.2.2.2.2.1, hS.2.2.2.2.2.2.2.2.2.2.2.2.2.1, (by go_grown)⟩) | (exact ⟨(by first | (with_reducible assumption) | (simp [go_sem]; done) | ((simp only [go_sem]); (with_reducible assumption)) | ((refine keep_cell ?_ (by with_reducible assumption)); go_grown; done) | (simp [go_sem, *]; done)), (by first | (with_reducible assumption) | (simp [go_sem]; done) | ((simp only [go_sem]); (with_reducible assumption)) | ((refine keep_cell ?_ (by with_reducible assumption)); go_grown; done) | (simp [go_sem, *]; done)), (by first | (with_reducible assumption) | (exact World.ownsRow.alloc (by with_reducible assumption) _) | ((refine own_below (by with_reducible assumption) ?_); go_grown)), (by first | (with_reducible assumption) | (exact World.ownsRow.alloc (by with_reducible assumption) _) | ((refine own_below (by with_reducible assumption) ?_); go_grown)), (by first | (with_reducible assumption) | (simp [go_sem]; done) | ((simp only [go_sem]); (with_reducible assumption)) | ((refine keep_cell ?_ (by with_reducible assumption)); go_grown; done) | (simp [go_sem, *]; done)), (by first | (with_reducible assumption) | (simp [go_sem]; done) | ((simp only [go_sem]); (with_reducible assumption)) | ((refine keep_cell ?_ (by with_reducible assumption)); go_grown; done) | (simp [go_sem, *]; done)), (by first | (with_reducible assumption) | (exact World.ownsRow.alloc (by with_reducible assumption) _) | ((refine own_below (by with_reducible assumption) ?_); go_grown)), (by first | (with_reducible assumption) | (simp [go_sem]; done) | ((simp only [go_sem]); (with_reducible assumption)) | ((refine keep_cell ?_ (by with_reducible assumption)); go_grown; done) | (simp [go_sem, *]; done)), (by first | (with_reducible assumption) | (simp [go_sem]; done) | ((simp only [go_sem]); (with_reducible assumption)) | ((refine keep_cell ?_ (by with_reducible assumption)); go_grown; done) | (simp [go_sem, *]; done)), (by first | (with_reducible assumption) | (exact World.ownsRow.alloc (by with_reducible assumption) _) | ((refine own_below (by with_reducible assumption) ?_); go_grown)), (by first | (with_reducible assumption) | (exact World.ownsRow.alloc (by with_reducible assumption) _) | ((refine own_below (by with_reducible assumption) ?_); go_grown)), (by first | (with_reducible assumption) | (exact World.ownsRow.alloc (by with_reducible assumption) _) | ((refine own_below (by with_reducible assumption) ?_); go_grown)), (by first | (with_reducible assumption) | (simp [go_sem]; done) | ((simp only [go_sem]); (with_reducible assumption)) | ((refine keep_cell ?_ (by with_reducible assumption)); go_grown; done) | (simp [go_sem, *]; done)), (by first | (with_reducible assumption) | (simp [go_sem]; done) | ((simp only [go_sem]); (with_reducible assumption)) | ((refine keep_cell ?_ (by with_reducible assumption)); go_grown; done) | (simp [go_sem, *]; done)), (by go_grown)⟩)) ?_
  simp only [byNum, List.getElem?_cons_zero, List.getElem?_cons_succ]
  repeat (first
    | ((refine seq_skip (by rfl) (by rfl) ?_); simp only [Act.put, List.setIfInBounds_toArray, List.set_cons_zero, List.set_cons_succ])
    | ((refine seq_val (v := ?_) (by rfl) (by rfl) (fun w hS => ?_) ?_); rotate_left; (focus ((try dsimp only at hS); go_simp; (try (with_reducible rfl)); done)); simp only [Act.put, List.setIfInBounds_toArray, List.set_cons_zero, List.set_cons_succ]))
  have hP := hS
  refine seq_call (f := ?_) (args := ?_) (by rfl) (by rfl) ?_ ?_
  rotate_left
  rotate_left
  focus (go_simp; (constructor <;> (with_reducible rfl)); done)
  refine (toReceiver_c m A c l _ (hide (reads_below h1.out (by go_grown))) (by omega)).mono ?_
  rintro e w12 ⟨A7, c7, rfl, ho7, hb⟩
  obtain ⟨b7, ho7, hbk7⟩ := own_based ho7 (m := w11.heap.size) (by first | omega | (simp; done) | (simp; omega))
  have ne1_7 := own_ne (hP.2.2.2.2.2.2.2.2.2.2.2.1) ho7 hbk7
  have ne2_7 := own_ne (hP.2.2.2.2.2.2.2.2.2.2.1) ho7 hbk7
  have ne3_7 := own_ne (hP.2.2.2.2.2.2.2.2.2.1) ho7 hbk7
  have ne4_7 := own_ne (hP.2.2.2.2.2.2.1) ho7 hbk7
  have ne5_7 := own_ne (hP.2.2.2.1) ho7 hbk7
  have ne6_7 := own_ne (hP.2.2.1) ho7 hbk7
  clear hP
  have hT : w12.ownsRow (b7) 42 10 (.slice A7 l.length c7) (l.length) (hds l) ∧ w12.cell? ⟨w9.heap.size, 0, none⟩ = some (.int .i64 (raM m l ls t)) ∧ w12.cell? ⟨w9.heap.size, 1, none⟩ = some (.slice A6 (raV m l ls t).length c6) ∧ w12.ownsRow (b6) 42 10 (.slice A6 (raV m l ls t).length c6) ((raV m l ls t).length) (hds (raV m l ls t)) ∧ w12.ownsRow (b5) 9 1 (.slice A5 ls.length c5) (ls.length) (strs ls) ∧ w12.cell? ⟨w6.heap.size, 0, none⟩ = some (.int .i64 m) ∧ w12.cell? ⟨w6.heap.size, 1, none⟩ = some (.slice A4 l.length c4) ∧ w12.ownsRow (b4) 42 10 (.slice A4 l.length c4) (l.length) (hds l) ∧ w12.cell? ⟨w4.heap.size, 0, none⟩ = some (.int .i64 (raM m l ls t)) ∧ w12.cell? ⟨w4.heap.size, 1, none⟩ = some (.slice A3 (raV m l ls t).length c3) ∧ w12.ownsRow (b3) 42 10 (.slice A3 (raV m l ls t).length c3) ((raV m l ls t).length) (hds (raV m l ls t)) ∧ w12.ownsRow (b2) 9 1 (.slice A2 ls.length c2) (ls.length) (strs ls) ∧ w12.ownsRow (b1) 42 10 (.slice A1 l.length c1) (l.length) (hds l) ∧ w12.cell? ⟨w.heap.size, 0, none⟩ = some (.int .i64 m) ∧ w12.cell? ⟨w.heap.size, 1, none⟩ = some (.slice A l.length c) ∧ Below w.heap.size w w12 := ⟨ho7, (fun W h hb => ⟨keep_cell (hb) h.1, keep_cell (hb) h.2.1, own_below h.2.2.1 (hb), own_below h.2.2.2.1 (hb), keep_cell (hb) h.2.2.2.2.1, keep_cell (hb) h.2.2.2.2.2.1, own_below h.2.2.2.2.2.2.1 (hb), keep_cell (hb) h.2.2.2.2.2.2.2.1, keep_cell (hb) h.2.2.2.2.2.2.2.2.1, own_below h.2.2.2.2.2.2.2.2.2.1 (hb), own_below h.2.2.2.2.2.2.2.2.2.2.1 (hb), own_below h.2.2.2.2.2.2.2.2.2.2.2.1 (hb), keep_cell (hb) h.2.2.2.2.2.2.2.2.2.2.2.2.1, keep_cell (hb) h.2.2.2.2.2.2.2.2.2.2.2.2.2.1, below_via h.2.2.2.2.2.2.2.2.2.2.2.2.2.2 (hb)⟩ : ∀ W : World, (W.cell? ⟨w9.heap.size, 0, none⟩ = some (.int .i64 (raM m l ls t)) ∧ W.cell? ⟨w9.heap.size, 1, none⟩ = some (.slice A6 (raV m l ls t).length c6) ∧ W.ownsRow (b6) 42 10 (.slice A6 (raV m l ls t).length c6) ((raV m l ls t).length) (hds (raV m l ls t)) ∧ W.ownsRow (b5) 9 1 (.slice A5 ls.length c5) (ls.length) (strs ls) ∧ W.cell? ⟨w6.heap.size, 0, none⟩ = some (.int .i64 m) ∧ W.cell? ⟨w6.heap.size, 1, none⟩ = some (.slice A4 l.length c4) ∧ W.ownsRow (b4) 42 10 (.slice A4 l.length c4) (l.length) (hds l) ∧ W.cell? ⟨w4.heap.size, 0, none⟩ = some (.int .i64 (raM m l ls t)) ∧ W.cell? ⟨w4.heap.size, 1, none⟩ = some (.slice A3 (raV m l ls t).length c3) ∧ W.ownsRow (b3) 42 10 (.slice A3 (raV m l ls t).length c3) ((raV m l ls t).length) (hds (raV m l ls t)) ∧ W.ownsRow (b2) 9 1 (.slice A2 ls.length c2) (ls.length) (strs ls) ∧ W.ownsRow (b1) 42 10 (.slice A1 l.length c1) (l.length) (hds l) ∧ W.cell? ⟨w.heap.size, 0, none⟩ = some (.int .i64 m) ∧ W.cell? ⟨w.heap.size, 1, none⟩ = some (.slice A l.length c) ∧ Below w.heap.size w W) → Below W.heap.size W w12 → (w12.cell? ⟨w9.heap.size, 0, none⟩ = some (.int .i64 (raM m l ls t)) ∧ w12.cell? ⟨w9.heap.size, 1, none⟩ = some (.slice A6 (raV m l ls t).length c6) ∧ w12.ownsRow (b6) 42 10 (.slice A6 (raV m l ls t).length c6) ((raV m l ls t).length) (hds (raV m l ls t)) ∧ w12.ownsRow (b5) 9 1 (.slice A5 ls.length c5) (ls.length) (strs ls) ∧ w12.cell? ⟨w6.heap.size, 0, none⟩ = some (.int .i64 m) ∧ w12.cell? ⟨w6.heap.size, 1, none⟩ = some (.slice A4 l.length c4) ∧ w12.ownsRow (b4) 42 10 (.slice A4 l.length c4) (l.length) (hds l) ∧ w12.cell? ⟨w4.heap.size, 0, none⟩ = some (.int .i64 (raM m l ls t)) ∧ w12.cell? ⟨w4.heap.size, 1, none⟩ = some (.slice A3 (raV m l ls t).length c3) ∧ w12.ownsRow (b3) 42 10 (.slice A3 (raV m l ls t).length c3) ((raV m l ls t).length) (hds (raV m l ls t)) ∧ w12.ownsRow (b2) 9 1 (.slice A2 ls.length c2) (ls.length) (strs ls) ∧ w12.ownsRow (b1) 42 10 (.slice A1 l.length c1) (l.length) (hds l) ∧ w12.cell? ⟨w.heap.size, 0, none⟩ = some (.int .i64 m) ∧ w12.cell? ⟨w.heap.size, 1, none⟩ = some (.slice A l.length c) ∧ Below w.heap.size w w12)) _ (by first | (with_reducible assumption) | (exact hS) | (exact ⟨hS.1, hS.2.1, hS.2.2.1, hS.2.2.2.1, hS.2.2.2.2.1, hS.2.2.2.2.2.1, hS.2.2.2.2.2.2.1, hS.2.2.2.2.2.2.2.1, hS.2.2.2.2.2.2.2.2.1, hS.2.2.2.2.2.2.2.2.2.1, hS.2.2.2.2.2.2.2.2.2.2.1, hS.2.2.2.2.2.2.2.2.2.2.2.1, hS.2.2.2.2.2.2.2.2.2.2.2.2.1, hS.2.2.2.2.2.2.2.2.2.2.2.2.2.1, (by go_grown)⟩) | (exact ⟨(by first | (with_reducible assumption) | (simp [go_sem]; done) | ((simp only [go_sem]); (with_reducible assumption)) | ((refine keep_cell ?_ (by with_reducible assumption)); go_grown; done) | (simp [go_sem, *]; done)), (by first | (with_reducible assumption) | (simp [go_sem]; done) | ((simp only [go_sem]); (with_reducible assumption)) | ((refine keep_cell ?_ (by with_reducible assumption)); go_grown; done) | (simp [go_sem, *]; done)), (by first | (with_reducible assumption) | (exact World.ownsRow.alloc (by with_reducible assumption) _) | ((refine own_below (by with_reducible assumption) ?_); go_grown)), (by first | (with_reducible assumption) | (exact World.ownsRow.alloc (by with_reducible assumption) _) | ((refine own_below (by with_reducible assumption) ?_); go_grown)), (by first | (with_reducible assumption) | (simp [go_sem]; done) | ((simp only [go_sem]); (with_reducible assumption)) | ((refine keep_cell ?_ (by with_reducible assumption)); go_grown; done) | (simp [go_sem, *]; done)), (by first | (with_reducible assumption) | (simp [go_sem]; done) | ((simp only [go_sem]); (with_reducible assumption)) | ((refine keep_cell ?_ (by with_reducible assumption)); go_grown; done) | (simp [go_sem, *]; done)), (by first | (with_reducible assumption) | (exact World.ownsRow.alloc (by with_reducible assumption) _) | ((refine own_below (by with_reducible assumption) ?_); go_grown)), (by first | (with_reducible assumption) | (simp [go_sem]; done) | ((simp only [go_sem]); (with_reducible assumption)) | ((refine keep_cell ?_ (by with_reducible assumption)); go_grown; done) | (simp [go_sem, *]; done)), (by first | (with_reducible assumption) | (simp [go_sem]; done) | ((simp only [go_sem]); (with_reducible assumption)) | ((refine keep_cell ?_ (by with_reducible assumption)); go_grown; done) | (simp [go_sem, *]; done)), (by first | (with_reducible assumption) | (exact World.ownsRow.alloc (by with_reducible assumption) _) | ((refine own_below (by with_reducible assumption) ?_); go_grown)), (by first | (with_reducible assumption) | (exact World.ownsRow.alloc (by with_reducible assumption) _) | ((refine own_below (by with_reducible assumption) ?_); go_grown)), (by first | (with_reducible assumption) | (exact World.ownsRow.alloc (by with_reducible assumption) _) | ((refine own_below (by with_reducible assumption) ?_); go_grown)), (by first | (with_reducible assumption) | (simp [go_sem]; done) | ((simp only [go_sem]); (with_reducible assumption)) | ((refine keep_cell ?_ (by with_reducible assumption)); go_grown; done) | (simp [go_sem, *]; done)), (by first | (with_reducible assumption) | (simp [go_sem]; done) | ((simp only [go_sem]); (with_reducible assumption)) | ((refine keep_cell ?_ (by with_reducible assumption)); go_grown; done) | (simp [go_sem, *]; done)), (by go_grown)⟩)) hb⟩
  (try clear hS)
  have hS := hT
  clear hT
  have hB := hS.2.2.2.2.2.2.2.2.2.2.2.2.2.2.2
  have hzw : w.heap.size ≤ w12.heap.size := hB.size
  have hz1 : w9.heap.size < w12.heap.size := World.block_lt_of_cell? w12 _ (hS.2.1)
  have hz2 : w6.heap.size < w12.heap.size := World.block_lt_of_cell? w12 _ (hS.2.2.2.2.2.1)
  have hz3 : w4.heap.size < w12.heap.size := World.block_lt_of_cell? w12 _ (hS.2.2.2.2.2.2.2.2.1)
  have hz4 : w.heap.size < w12.heap.size := World.block_lt_of_cell? w12 _ (hS.2.2.2.2.2.2.2.2.2.2.2.2.2.1)
  clear hb
  refine ⟨_, rfl, (fun W => W.ownsRow (b7) 42 10 (.slice A7 l.length c7) (l.length) (hds l) ∧ W.cell? ⟨w9.heap.size, 0, none⟩ = some (.int .i64 (raM m l ls t)) ∧ W.cell? ⟨w9.heap.size, 1, none⟩ = some (.slice A6 (raV m l ls t).length c6) ∧ W.ownsRow (b6) 42 10 (.slice A6 (raV m l ls t).length c6) ((raV m l ls t).length) (hds (raV m l ls t)) ∧ W.ownsRow (b5) 9 1 (.slice A5 ls.length c5) (ls.length) (strs ls) ∧ W.cell? ⟨w6.heap.size, 0, none⟩ = some (.int .i64 m) ∧ W.cell? ⟨w6.heap.size, 1, none⟩ = some (.slice A4 l.length c4) ∧ W.ownsRow (b4) 42 10 (.slice A4 l.length c4) (l.length) (hds l) ∧ W.cell? ⟨w4.heap.size, 0, none⟩ = some (.int .i64 (raM m l ls t)) ∧ W.cell? ⟨w4.heap.size, 1, none⟩ = some (.slice A3 (raV m l ls t).length c3) ∧ W.ownsRow (b3) 42 10 (.slice A3 (raV m l ls t).length c3) ((raV m l ls t).length) (hds (raV m l ls t)) ∧ W.ownsRow (b2) 9 1 (.slice A2 ls.length c2) (ls.length) (strs ls) ∧ W.ownsRow (b1) 42 10 (.slice A1 l.length c1) (l.length) (hds l) ∧ W.cell? ⟨w.heap.size, 0, none⟩ = some (.int .i64 m) ∧ W.cell? ⟨w.heap.size, 1, none⟩ = some (.slice A l.length c) ∧ Below w.heap.size w W), hS, (fun W h => h.2), ?_⟩
  simp only [Act.put, List.setIfInBounds_toArray, List.set_cons_zero, List.set_cons_succ]
  repeat (first
    | ((refine seq_skip (by rfl) (by rfl) ?_); simp only [Act.put, List.setIfInBounds_toArray, List.set_cons_zero, List.set_cons_succ])
    | ((refine seq_val (v := ?_) (by rfl) (by rfl) (fun w hS => ?_) ?_); rotate_left; (focus ((try dsimp only at hS); go_simp; (try (with_reducible rfl)); done)); simp only [Act.put, List.setIfInBounds_toArray, List.set_cons_zero, List.set_cons_succ]))
  have hP := hS
  refine seq_call (f := ?_) (args := ?_) (by rfl) (by rfl) ?_ ?_
  rotate_left
  rotate_left
  focus (go_simp; (constructor <;> (with_reducible rfl)); done)
  refine (eqReceiver_c _ _ _ _ _ (l) _ (hide (own_reads (hS.2.2.2.2.2.2.2.1))) (hide (own_reads (hS.1))) (by omega)).mono ?_
  rintro e w13 ⟨rfl, hb⟩
  clear hP
  have hT : w13.ownsRow (b7) 42 10 (.slice A7 l.length c7) (l.length) (hds l) ∧ w13.cell? ⟨w9.heap.size, 0, none⟩ = some (.int .i64 (raM m l ls t)) ∧ w13.cell? ⟨w9.heap.size, 1, none⟩ = some (.slice A6 (raV m l ls t).length c6) ∧ w13.ownsRow (b6) 42 10 (.slice A6 (raV m l ls t).length c6) ((raV m l ls t).length) (hds (raV m l ls t)) ∧ w13.ownsRow (b5) 9 1 (.slice A5 ls.length c5) (ls.length) (strs ls) ∧ w13.cell? ⟨w6.heap.size, 0, none⟩ = some (.int .i64 m) ∧ w13.cell? ⟨w6.heap.size, 1, none⟩ = some (.slice A4 l.length c4) ∧ w13.ownsRow (b4) 42 10 (.slice A4 l.length c4) (l.length) (hds l) ∧ w13.cell? ⟨w4.heap.size, 0, none⟩ = some (.int .i64 (raM m l ls t)) ∧ w13.cell? ⟨w4.heap.size, 1, none⟩ = some (.slice A3 (raV m l ls t).length c3) ∧ w13.ownsRow (b3) 42 10 (.slice A3 (raV m l ls t).length c3) ((raV m l ls t).length) (hds (raV m l ls t)) ∧ w13.ownsRow (b2) 9 1 (.slice A2 ls.length c2) (ls.length) (strs ls) ∧ w13.ownsRow (b1) 42 10 (.slice A1 l.length c1) (l.length) (hds l) ∧ w13.cell? ⟨w.heap.size, 0, none⟩ = some (.int .i64 m) ∧ w13.cell? ⟨w.heap.size, 1, none⟩ = some (.slice A l.length c) ∧ Below w.heap.size w w13 := (fun W h hb => ⟨own_below h.1 (hb), keep_cell (hb) h.2.1, keep_cell (hb) h.2.2.1, own_below h.2.2.2.1 (hb), own_below h.2.2.2.2.1 (hb), keep_cell (hb) h.2.2.2.2.2.1, keep_cell (hb) h.2.2.2.2.2.2.1, own_below h.2.2.2.2.2.2.2.1 (hb), keep_cell (hb) h.2.2.2.2.2.2.2.2.1, keep_cell (hb) h.2.2.2.2.2.2.2.2.2.1, own_below h.2.2.2.2.2.2.2.2.2.2.1 (hb), own_below h.2.2.2.2.2.2.2.2.2.2.2.1 (hb), own_below h.2.2.2.2.2.2.2.2.2.2.2.2.1 (hb), keep_cell (hb) h.2.2.2.2.2.2.2.2.2.2.2.2.2.1, keep_cell (hb) h.2.2.2.2.2.2.2.2.2.2.2.2.2.2.1, below_via h.2.2.2.2.2.2.2.2.2.2.2.2.2.2.2 (hb)⟩ : ∀ W : World, (W.ownsRow (b7) 42 10 (.slice A7 l.length c7) (l.length) (hds l) ∧ W.cell? ⟨w9.heap.size, 0, none⟩ = some (.int .i64 (raM m l ls t)) ∧ W.cell? ⟨w9.heap.size, 1, none⟩ = some (.slice A6 (raV m l ls t).length c6) ∧ W.ownsRow (b6) 42 10 (.slice A6 (raV m l ls t).length c6) ((raV m l ls t).length) (hds (raV m l ls t)) ∧ W.ownsRow (b5) 9 1 (.slice A5 ls.length c5) (ls.length) (strs ls) ∧ W.cell? ⟨w6.heap.size, 0, none⟩ = some (.int .i64 m) ∧ W.cell? ⟨w6.heap.size, 1, none⟩ = some (.slice A4 l.length c4) ∧ W.ownsRow (b4) 42 10 (.slice A4 l.length c4) (l.length) (hds l) ∧ W.cell? ⟨w4.heap.size, 0, none⟩ = some (.int .i64 (raM m l ls t)) ∧ W.cell? ⟨w4.heap.size, 1, none⟩ = some (.slice A3 (raV m l ls t).length c3) ∧ W.ownsRow (b3) 42 10 (.slice A3 (raV m l ls t).length c3) ((raV m l ls t).length) (hds (raV m l ls t)) ∧ W.ownsRow (b2) 9 1 (.slice A2 ls.length c2) (ls.length) (strs ls) ∧ W.ownsRow (b1) 42 10 (.slice A1 l.length c1) (l.length) (hds l) ∧ W.cell? ⟨w.heap.size, 0, none⟩ = some (.int .i64 m) ∧ W.cell? ⟨w.heap.size, 1, none⟩ = some (.slice A l.length c) ∧ Below w.heap.size w W) → Below W.heap.size W w13 → (w13.ownsRow (b7) 42 10 (.slice A7 l.length c7) (l.length) (hds l) ∧ w13.cell? ⟨w9.heap.size, 0, none⟩ = some (.int .i64 (raM m l ls t)) ∧ w13.cell? ⟨w9.heap.size, 1, none⟩ = some (.slice A6 (raV m l ls t).length c6) ∧ w13.ownsRow (b6) 42 10 (.slice A6 (raV m l ls t).length c6) ((raV m l ls t).length) (hds (raV m l ls t)) ∧ w13.ownsRow (b5) 9 1 (.slice A5 ls.length c5) (ls.length) (strs ls) ∧ w13.cell? ⟨w6.heap.size, 0, none⟩ = some (.int .i64 m) ∧ w13.cell? ⟨w6.heap.size, 1, none⟩ = some (.slice A4 l.length c4) ∧ w13.ownsRow (b4) 42 10 (.slice A4 l.length c4) (l.length) (hds l) ∧ w13.cell? ⟨w4.heap.size, 0, none⟩ = some (.int .i64 (raM m l ls t)) ∧ w13.cell? ⟨w4.heap.size, 1, none⟩ = some (.slice A3 (raV m l ls t).length c3) ∧ w13.ownsRow (b3) 42 10 (.slice A3 (raV m l ls t).length c3) ((raV m l ls t).length) (hds (raV m l ls t)) ∧ w13.ownsRow (b2) 9 1 (.slice A2 ls.length c2) (ls.length) (strs ls) ∧ w13.ownsRow (b1) 42 10 (.slice A1 l.length c1) (l.length) (hds l) ∧ w13.cell? ⟨w.heap.size, 0, none⟩ = some (.int .i64 m) ∧ w13.cell? ⟨w.heap.size, 1, none⟩ = some (.slice A l.length c) ∧ Below w.heap.size w w13)) _ (by first | (with_reducible assumption) | (exact hS) | (exact ⟨hS.1, hS.2.1, hS.2.2.1, hS.2.2.2.1, hS.2.2.2.2.1, hS.2.2.2.2.2.1, hS.2.2.2.2.2.2.1, hS.2.2.2.2.2.2.2.1, hS.2.2.2.2.2.2.2.2.1, hS.2.2.2.2.2.2.2.2.2.1, hS.2.2.2.2.2.2.2.2.2.2.1, hS.2.2.2.2.2.2.2.2.2.2.2.1, hS.2.2.2.2.2.2.2.2.2.2.2.2.1, hS.2.2.2.2.2.2.2.2.2.2.2.2.2.1, hS.2.2.2.2.2.2.2.2.2.2.2.2.2.2.1, (by go_grown)⟩) | (exact ⟨(by first | (with_reducible assumption) | (exact World.ownsRow.alloc (by with_reducible assumption) _) | ((refine own_below (by with_reducible assumption) ?_); go_grown)), (by first | (with_reducible assumption) | (simp [go_sem]; done) | ((simp only [go_sem]); (with_reducible assumption)) | ((refine keep_cell ?_ (by with_reducible assumption)); go_grown; done) | (simp [go_sem, *]; done)), (by first | (with_reducible assumption) | (simp [go_sem]; done) | ((simp only [go_sem]); (with_reducible assumption)) | ((refine keep_cell ?_ (by with_reducible assumption)); go_grown; done) | (simp [go_sem, *]; done)), (by first | (with_reducible assumption) | (exact World.ownsRow.alloc (by with_reducible assumption) _) | ((refine own_below (by with_reducible assumption) ?_); go_grown)), (by first | (with_reducible assumption) | (exact World.ownsRow.alloc (by with_reducible assumption) _) | ((refine own_below (by with_reducible assumption) ?_); go_grown)), (by first | (with_reducible assumption) | (simp [go_sem]; done) | ((simp only [go_sem]); (with_reducible assumption)) | ((refine keep_cell ?_ (by with_reducible assumption)); go_grown; done) | (simp [go_sem, *]; done)), (by first | (with_reducible assumption) | (simp [go_sem]; done) | ((simp only [go_sem]); (with_reducible assumption)) | ((refine keep_cell ?_ (by with_reducible assumption)); go_grown; done) | (simp [go_sem, *]; done)), (by first | (with_reducible assumption) | (exact World.ownsRow.alloc (by with_reducible assumption) _) | ((refine own_below (by with_reducible assumption) ?_); go_grown)), (by first | (with_reducible assumption) | (simp [go_sem]; done) | ((simp only [go_sem]); (with_reducible assumption)) | ((refine keep_cell ?_ (by with_reducible assumption)); go_grown; done) | (simp [go_sem, *]; done)), (by first | (with_reducible assumption) | (simp [go_sem]; done) | ((simp only [go_sem]); (with_reducible assumption)) | ((refine keep_cell ?_ (by with_reducible assumption)); go_grown; done) | (simp [go_sem, *]; done)), (by first | (with_reducible assumption) | (exact World.ownsRow.alloc (by with_reducible assumption) _) | ((refine own_below (by with_reducible assumption) ?_); go_grown)), (by first | (with_reducible assumption) | (exact World.ownsRow.alloc (by with_reducible assumption) _) | ((refine own_below (by with_reducible assumption) ?_); go_grown)), (by first | (with_reducible assumption) | (exact World.ownsRow.alloc (by with_reducible assumption) _) | ((refine own_below (by with_reducible assumption) ?_); go_grown)), (by first | (with_reducible assumption) | (simp [go_sem]; done) | ((simp only [go_sem]); (with_reducible assumption)) | ((refine keep_cell ?_ (by with_reducible assumption)); go_grown; done) | (simp [go_sem, *]; done)), (by first | (with_reducible assumption) | (simp [go_sem]; done) | ((simp only [go_sem]); (with_reducible assumption)) | ((refine keep_cell ?_ (by with_reducible assumption)); go_grown; done) | (simp [go_sem, *]; done)), (by go_grown)⟩)) hb
  (try clear hS)
  have hS := hT
  clear hT
  have hB := hS.2.2.2.2.2.2.2.2.2.2.2.2.2.2.2
  have hzw : w.heap.size ≤ w13.heap.size := hB.size
  have hz1 : w9.heap.size < w13.heap.size := World.block_lt_of_cell? w13 _ (hS.2.1)
  have hz2 : w6.heap.size < w13.heap.size := World.block_lt_of_cell? w13 _ (hS.2.2.2.2.2.1)
  have hz3 : w4.heap.size < w13.heap.size := World.block_lt_of_cell? w13 _ (hS.2.2.2.2.2.2.2.2.1)
  have hz4 : w.heap.size < w13.heap.size := World.block_lt_of_cell? w13 _ (hS.2.2.2.2.2.2.2.2.2.2.2.2.2.1)
  clear hb
  refine ⟨_, rfl, (fun W => W.ownsRow (b7) 42 10 (.slice A7 l.length c7) (l.length) (hds l) ∧ W.cell? ⟨w9.heap.size, 0, none⟩ = some (.int .i64 (raM m l ls t)) ∧ W.cell? ⟨w9.heap.size, 1, none⟩ = some (.slice A6 (raV m l ls t).length c6) ∧ W.ownsRow (b6) 42 10 (.slice A6 (raV m l ls t).length c6) ((raV m l ls t).length) (hds (raV m l ls t)) ∧ W.ownsRow (b5) 9 1 (.slice A5 ls.length c5) (ls.length) (strs ls) ∧ W.cell? ⟨w6.heap.size, 0, none⟩ = some (.int .i64 m) ∧ W.cell? ⟨w6.heap.size, 1, none⟩ = some (.slice A4 l.length c4) ∧ W.ownsRow (b4) 42 10 (.slice A4 l.length c4) (l.length) (hds l) ∧ W.cell? ⟨w4.heap.size, 0, none⟩ = some (.int .i64 (raM m l ls t)) ∧ W.cell? ⟨w4.heap.size, 1, none⟩ = some (.slice A3 (raV m l ls t).length c3) ∧ W.ownsRow (b3) 42 10 (.slice A3 (raV m l ls t).length c3) ((raV m l ls t).length) (hds (raV m l ls t)) ∧ W.ownsRow (b2) 9 1 (.slice A2 ls.length c2) (ls.length) (strs ls) ∧ W.ownsRow (b1) 42 10 (.slice A1 l.length c1) (l.length) (hds l) ∧ W.cell? ⟨w.heap.size, 0, none⟩ = some (.int .i64 m) ∧ W.cell? ⟨w.heap.size, 1, none⟩ = some (.slice A l.length c) ∧ Below w.heap.size w W), hS, (fun W h => h), ?_⟩
  simp only [Act.put, List.setIfInBounds_toArray, List.set_cons_zero, List.set_cons_succ]
  repeat (first
    | ((refine seq_skip (by rfl) (by rfl) ?_); simp only [Act.put, List.setIfInBounds_toArray, List.set_cons_zero, List.set_cons_succ])
    | ((refine seq_val (v := ?_) (by rfl) (by rfl) (fun w hS => ?_) ?_); rotate_left; (focus ((try dsimp only at hS); go_simp; (try (with_reducible rfl)); done)); simp only [Act.put, List.setIfInBounds_toArray, List.set_cons_zero, List.set_cons_succ]))
  refine seq_nil ?_
  have hP := hS
  go_wp2_with fail
  refine (toStringS_c SA SC ls _ (hide (reads_below h2.out (by go_grown))) (by omega)).mono ?_
  rintro e w14 ⟨A8, c8, rfl, ho8, hb⟩
  obtain ⟨b8, ho8, hbk8⟩ := own_based ho8 (m := w13.heap.size) (by first | omega | (simp; done) | (simp; omega))
  have ne1_8 := own_ne (hP.2.2.2.2.2.2.2.2.2.2.2.2.1) ho8 hbk8
  have ne2_8 := own_ne (hP.2.2.2.2.2.2.2.2.2.2.2.1) ho8 hbk8
  have ne3_8 := own_ne (hP.2.2.2.2.2.2.2.2.2.2.1) ho8 hbk8
  have ne4_8 := own_ne (hP.2.2.2.2.2.2.2.1) ho8 hbk8
  have ne5_8 := own_ne (hP.2.2.2.2.1) ho8 hbk8
  have ne6_8 := own_ne (hP.2.2.2.1) ho8 hbk8
  have ne7_8 := own_ne (hP.1) ho8 hbk8
  clear hP
  have hT : w14.ownsRow (b8) 9 1 (.slice A8 ls.length c8) (ls.length) (strs ls) ∧ w14.ownsRow (b7) 42 10 (.slice A7 l.length c7) (l.length) (hds l) ∧ w14.cell? ⟨w9.heap.size, 0, none⟩ = some (.int .i64 (raM m l ls t)) ∧ w14.cell? ⟨w9.heap.size, 1, none⟩ = some (.slice A6 (raV m l ls t).length c6) ∧ w14.ownsRow (b6) 42 10 (.slice A6 (raV m l ls t).length c6) ((raV m l ls t).length) (hds (raV m l ls t)) ∧ w14.ownsRow (b5) 9 1 (.slice A5 ls.length c5) (ls.length) (strs ls) ∧ w14.cell? ⟨w6.heap.size, 0, none⟩ = some (.int .i64 m) ∧ w14.cell? ⟨w6.heap.size, 1, none⟩ = some (.slice A4 l.length c4) ∧ w14.ownsRow (b4) 42 10 (.slice A4 l.length c4) (l.length) (hds l) ∧ w14.cell? ⟨w4.heap.size, 0, none⟩ = some (.int .i64 (raM m l ls t)) ∧ w14.cell? ⟨w4.heap.size, 1, none⟩ = some (.slice A3 (raV m l ls t).length c3) ∧ w14.ownsRow (b3) 42 10 (.slice A3 (raV m l ls t).length c3) ((raV m l ls t).length) (hds (raV m l ls t)) ∧ w14.ownsRow (b2) 9 1 (.slice A2 ls.length c2) (ls.length) (strs ls) ∧ w14.ownsRow (b1) 42 10 (.slice A1 l.length c1) (l.length) (hds l) ∧ w14.cell? ⟨w.heap.size, 0, none⟩ = some (.int .i64 m) ∧ w14.cell? ⟨w.heap.size, 1, none⟩ = some (.slice A l.length c) ∧ Below w.heap.size w w14 := ⟨ho8, ⟨own_below hS.1 (hb), keep_cell (hb) hS.2.1, keep_cell (hb) hS.2.2.1, own_below hS.2.2.2.1 (hb), own_below hS.2.2.2.2.1 (hb), keep_cell (hb) hS.2.2.2.2.2.1, keep_cell (hb) hS.2.2.2.2.2.2.1, own_below hS.2.2.2.2.2.2.2.1 (hb), keep_cell (hb) hS.2.2.2.2.2.2.2.2.1, keep_cell (hb) hS.2.2.2.2.2.2.2.2.2.1, own_below hS.2.2.2.2.2.2.2.2.2.2.1 (hb), own_below hS.2.2.2.2.2.2.2.2.2.2.2.1 (hb), own_below hS.2.2.2.2.2.2.2.2.2.2.2.2.1 (hb), keep_cell (hb) hS.2.2.2.2.2.2.2.2.2.2.2.2.2.1, keep_cell (hb) hS.2.2.2.2.2.2.2.2.2.2.2.2.2.2.1, below_via hS.2.2.2.2.2.2.2.2.2.2.2.2.2.2.2 (hb)⟩⟩
  (try clear hS)
  have hS := hT
  clear hT
  have hB := hS.2.2.2.2.2.2.2.2.2.2.2.2.2.2.2.2
  have hzw : w.heap.size ≤ w14.heap.size := hB.size
  have hz1 : w9.heap.size < w14.heap.size := World.block_lt_of_cell? w14 _ (hS.2.2.1)
  have hz2 : w6.heap.size < w14.heap.size := World.block_lt_of_cell? w14 _ (hS.2.2.2.2.2.2.1)
  have hz3 : w4.heap.size < w14.heap.size := World.block_lt_of_cell? w14 _ (hS.2.2.2.2.2.2.2.2.2.1)
  have hz4 : w.heap.size < w14.heap.size := World.block_lt_of_cell? w14 _ (hS.2.2.2.2.2.2.2.2.2.2.2.2.2.2.1)
  clear hb
  go_wp2_with fail
  refine (eqStringS_c _ _ _ _ ls _ (hide (own_reads (hS.2.2.2.2.2.1))) (hide (own_reads (hS.1))) (by omega)).mono ?_
  rintro e w15 ⟨rfl, hb⟩
  have hT : w15.ownsRow (b8) 9 1 (.slice A8 ls.length c8) (ls.length) (strs ls) ∧ w15.ownsRow (b7) 42 10 (.slice A7 l.length c7) (l.length) (hds l) ∧ w15.cell? ⟨w9.heap.size, 0, none⟩ = some (.int .i64 (raM m l ls t)) ∧ w15.cell? ⟨w9.heap.size, 1, none⟩ = some (.slice A6 (raV m l ls t).length c6) ∧ w15.ownsRow (b6) 42 10 (.slice A6 (raV m l ls t).length c6) ((raV m l ls t).length) (hds (raV m l ls t)) ∧ w15.ownsRow (b5) 9 1 (.slice A5 ls.length c5) (ls.length) (strs ls) ∧ w15.cell? ⟨w6.heap.size, 0, none⟩ = some (.int .i64 m) ∧ w15.cell? ⟨w6.heap.size, 1, none⟩ = some (.slice A4 l.length c4) ∧ w15.ownsRow (b4) 42 10 (.slice A4 l.length c4) (l.length) (hds l) ∧ w15.cell? ⟨w4.heap.size, 0, none⟩ = some (.int .i64 (raM m l ls t)) ∧ w15.cell? ⟨w4.heap.size, 1, none⟩ = some (.slice A3 (raV m l ls t).length c3) ∧ w15.ownsRow (b3) 42 10 (.slice A3 (raV m l ls t).length c3) ((raV m l ls t).length) (hds (raV m l ls t)) ∧ w15.ownsRow (b2) 9 1 (.slice A2 ls.length c2) (ls.length) (strs ls) ∧ w15.ownsRow (b1) 42 10 (.slice A1 l.length c1) (l.length) (hds l) ∧ w15.cell? ⟨w.heap.size, 0, none⟩ = some (.int .i64 m) ∧ w15.cell? ⟨w.heap.size, 1, none⟩ = some (.slice A l.length c) ∧ Below w.heap.size w w15 := ⟨own_below hS.1 (hb), own_below hS.2.1 (hb), keep_cell (hb) hS.2.2.1, keep_cell (hb) hS.2.2.2.1, own_below hS.2.2.2.2.1 (hb), own_below hS.2.2.2.2.2.1 (hb), keep_cell (hb) hS.2.2.2.2.2.2.1, keep_cell (hb) hS.2.2.2.2.2.2.2.1, own_below hS.2.2.2.2.2.2.2.2.1 (hb), keep_cell (hb) hS.2.2.2.2.2.2.2.2.2.1, keep_cell (hb) hS.2.2.2.2.2.2.2.2.2.2.1, own_below hS.2.2.2.2.2.2.2.2.2.2.2.1 (hb), own_below hS.2.2.2.2.2.2.2.2.2.2.2.2.1 (hb), own_below hS.2.2.2.2.2.2.2.2.2.2.2.2.2.1 (hb), keep_cell (hb) hS.2.2.2.2.2.2.2.2.2.2.2.2.2.2.1, keep_cell (hb) hS.2.2.2.2.2.2.2.2.2.2.2.2.2.2.2.1, below_via hS.2.2.2.2.2.2.2.2.2.2.2.2.2.2.2.2 (hb)⟩
  (try clear hS)
  have hS := hT
  clear hT
  have hB := hS.2.2.2.2.2.2.2.2.2.2.2.2.2.2.2.2
  have hzw : w.heap.size ≤ w15.heap.size := hB.size
  have hz1 : w9.heap.size < w15.heap.size := World.block_lt_of_cell? w15 _ (hS.2.2.1)
  have hz2 : w6.heap.size < w15.heap.size := World.block_lt_of_cell? w15 _ (hS.2.2.2.2.2.2.1)
  have hz3 : w4.heap.size < w15.heap.size := World.block_lt_of_cell? w15 _ (hS.2.2.2.2.2.2.2.2.2.1)
  have hz4 : w.heap.size < w15.heap.size := World.block_lt_of_cell? w15 _ (hS.2.2.2.2.2.2.2.2.2.2.2.2.2.2.1)
  clear hb
  go_wp2_with fail
  refine (markReceiver_c _ _ _ _ (l) 1 _ (hide (hS.2.2.2.2.2.2.2.2.1)) (by omega) (by omega) (by omega)).mono ?_
  rintro e w16 ⟨rfl, hn, hg⟩
  have hT : w16.ownsRow (b8) 9 1 (.slice A8 ls.length c8) (ls.length) (strs ls) ∧ w16.ownsRow (b7) 42 10 (.slice A7 l.length c7) (l.length) (hds l) ∧ w16.cell? ⟨w9.heap.size, 0, none⟩ = some (.int .i64 (raM m l ls t)) ∧ w16.cell? ⟨w9.heap.size, 1, none⟩ = some (.slice A6 (raV m l ls t).length c6) ∧ w16.ownsRow (b6) 42 10 (.slice A6 (raV m l ls t).length c6) ((raV m l ls t).length) (hds (raV m l ls t)) ∧ w16.ownsRow (b5) 9 1 (.slice A5 ls.length c5) (ls.length) (strs ls) ∧ w16.cell? ⟨w6.heap.size, 0, none⟩ = some (.int .i64 m) ∧ w16.cell? ⟨w6.heap.size, 1, none⟩ = some (.slice A4 l.length c4) ∧ w16.ownsRow (b4) 42 10 (.slice A4 l.length c4) (l.length) (hds (mkL (l).length 1)) ∧ w16.cell? ⟨w4.heap.size, 0, none⟩ = some (.int .i64 (raM m l ls t)) ∧ w16.cell? ⟨w4.heap.size, 1, none⟩ = some (.slice A3 (raV m l ls t).length c3) ∧ w16.ownsRow (b3) 42 10 (.slice A3 (raV m l ls t).length c3) ((raV m l ls t).length) (hds (raV m l ls t)) ∧ w16.ownsRow (b2) 9 1 (.slice A2 ls.length c2) (ls.length) (strs ls) ∧ w16.ownsRow (b1) 42 10 (.slice A1 l.length c1) (l.length) (hds l) ∧ w16.cell? ⟨w.heap.size, 0, none⟩ = some (.int .i64 m) ∧ w16.cell? ⟨w.heap.size, 1, none⟩ = some (.slice A l.length c) ∧ Below w.heap.size w w16 := ⟨World.ownsRow.kept (hS.1) hg ne4_8.2, World.ownsRow.kept (hS.2.1) hg ne4_7.2, (by first | exact own_cell (hS.2.2.2.2.2.2.2.2.1) hg (hS.2.2.1) (by first | omega | (simp; done) | (simp; omega)) | exact own_cell_up hg (hS.2.2.1) (fun g e => by have h9 := up4_2 g e; first | omega | (simp; omega)) | exact own_cell_up hg (hS.2.2.1) (fun g e => by have h9 := up4_3 g e; first | omega | (simp; omega))), (by first | exact own_cell (hS.2.2.2.2.2.2.2.2.1) hg (hS.2.2.2.1) (by first | omega | (simp; done) | (simp; omega)) | exact own_cell_up hg (hS.2.2.2.1) (fun g e => by have h9 := up4_2 g e; first | omega | (simp; omega)) | exact own_cell_up hg (hS.2.2.2.1) (fun g e => by have h9 := up4_3 g e; first | omega | (simp; omega))), World.ownsRow.kept (hS.2.2.2.2.1) hg ne4_6.2, World.ownsRow.kept (hS.2.2.2.2.2.1) hg ne4_5.2, (by first | exact own_cell (hS.2.2.2.2.2.2.2.2.1) hg (hS.2.2.2.2.2.2.1) (by first | omega | (simp; done) | (simp; omega)) | exact own_cell_up hg (hS.2.2.2.2.2.2.1) (fun g e => by have h9 := up4_2 g e; first | omega | (simp; omega)) | exact own_cell_up hg (hS.2.2.2.2.2.2.1) (fun g e => by have h9 := up4_3 g e; first | omega | (simp; omega))), (by first | exact own_cell (hS.2.2.2.2.2.2.2.2.1) hg (hS.2.2.2.2.2.2.2.1) (by first | omega | (simp; done) | (simp; omega)) | exact own_cell_up hg (hS.2.2.2.2.2.2.2.1) (fun g e => by have h9 := up4_2 g e; first | omega | (simp; omega)) | exact own_cell_up hg (hS.2.2.2.2.2.2.2.1) (fun g e => by have h9 := up4_3 g e; first | omega | (simp; omega))), hn, (by first | exact own_cell (hS.2.2.2.2.2.2.2.2.1) hg (hS.2.2.2.2.2.2.2.2.2.1) (by first | omega | (simp; done) | (simp; omega)) | exact own_cell_up hg (hS.2.2.2.2.2.2.2.2.2.1) (fun g e => by have h9 := up4_2 g e; first | omega | (simp; omega)) | exact own_cell_up hg (hS.2.2.2.2.2.2.2.2.2.1) (fun g e => by have h9 := up4_3 g e; first | omega | (simp; omega))), (by first | exact own_cell (hS.2.2.2.2.2.2.2.2.1) hg (hS.2.2.2.2.2.2.2.2.2.2.1) (by first | omega | (simp; done) | (simp; omega)) | exact own_cell_up hg (hS.2.2.2.2.2.2.2.2.2.2.1) (fun g e => by have h9 := up4_2 g e; first | omega | (simp; omega)) | exact own_cell_up hg (hS.2.2.2.2.2.2.2.2.2.2.1) (fun g e => by have h9 := up4_3 g e; first | omega | (simp; omega))), World.ownsRow.kept (hS.2.2.2.2.2.2.2.2.2.2.2.1) hg ne3_4.1, World.ownsRow.kept (hS.2.2.2.2.2.2.2.2.2.2.2.2.1) hg ne2_4.1, World.ownsRow.kept (hS.2.2.2.2.2.2.2.2.2.2.2.2.2.1) hg ne1_4.1, (by first | exact own_cell (hS.2.2.2.2.2.2.2.2.1) hg (hS.2.2.2.2.2.2.2.2.2.2.2.2.2.2.1) (by first | omega | (simp; done) | (simp; omega)) | exact own_cell_up hg (hS.2.2.2.2.2.2.2.2.2.2.2.2.2.2.1) (fun g e => by have h9 := up4_2 g e; first | omega | (simp; omega)) | exact own_cell_up hg (hS.2.2.2.2.2.2.2.2.2.2.2.2.2.2.1) (fun g e => by have h9 := up4_3 g e; first | omega | (simp; omega))), (by first | exact own_cell (hS.2.2.2.2.2.2.2.2.1) hg (hS.2.2.2.2.2.2.2.2.2.2.2.2.2.2.2.1) (by first | omega | (simp; done) | (simp; omega)) | exact own_cell_up hg (hS.2.2.2.2.2.2.2.2.2.2.2.2.2.2.2.1) (fun g e => by have h9 := up4_2 g e; first | omega | (simp; omega)) | exact own_cell_up hg (hS.2.2.2.2.2.2.2.2.2.2.2.2.2.2.2.1) (fun g e => by have h9 := up4_3 g e; first | omega | (simp; omega))), own_grown (hS.2.2.2.2.2.2.2.2.1) hg (hS.2.2.2.2.2.2.2.2.2.2.2.2.2.2.2.2) hzw (by omega)⟩
  clear hS
  have hS := hT
  clear hT
  have hB := hS.2.2.2.2.2.2.2.2.2.2.2.2.2.2.2.2
  have hzw : w.heap.size ≤ w16.heap.size := hB.size
  have hz1 : w9.heap.size < w16.heap.size := World.block_lt_of_cell? w16 _ (hS.2.2.1)
  have hz2 : w6.heap.size < w16.heap.size := World.block_lt_of_cell? w16 _ (hS.2.2.2.2.2.2.1)
  have hz3 : w4.heap.size < w16.heap.size := World.block_lt_of_cell? w16 _ (hS.2.2.2.2.2.2.2.2.2.1)
  have hz4 : w.heap.size < w16.heap.size := World.block_lt_of_cell? w16 _ (hS.2.2.2.2.2.2.2.2.2.2.2.2.2.2.1)
  clear hn hg
  go_wp2_with fail
  refine (markStringS_c _ _ (ls.length) _ _ ((1 + (((l).length * 10 : Nat) : Int))) _ (hide (hS.2.2.2.2.2.1)) (by omega) (by omega) (by omega)).mono ?_
  rintro e w17 ⟨rfl, ⟨ys, hn⟩, hg⟩
  have hT : w17.ownsRow (b8) 9 1 (.slice A8 ls.length c8) (ls.length) (strs ls) ∧ w17.ownsRow (b7) 42 10 (.slice A7 l.length c7) (l.length) (hds l) ∧ w17.cell? ⟨w9.heap.size, 0, none⟩ = some (.int .i64 (raM m l ls t)) ∧ w17.cell? ⟨w9.heap.size, 1, none⟩ = some (.slice A6 (raV m l ls t).length c6) ∧ w17.ownsRow (b6) 42 10 (.slice A6 (raV m l ls t).length c6) ((raV m l ls t).length) (hds (raV m l ls t)) ∧ w17.ownsRow (b5) 9 1 (.slice A5 ls.length c5) (ls.length) (ys) ∧ w17.cell? ⟨w6.heap.size, 0, none⟩ = some (.int .i64 m) ∧ w17.cell? ⟨w6.heap.size, 1, none⟩ = some (.slice A4 l.length c4) ∧ w17.ownsRow (b4) 42 10 (.slice A4 l.length c4) (l.length) (hds (mkL (l).length 1)) ∧ w17.cell? ⟨w4.heap.size, 0, none⟩ = some (.int .i64 (raM m l ls t)) ∧ w17.cell? ⟨w4.heap.size, 1, none⟩ = some (.slice A3 (raV m l ls t).length c3) ∧ w17.ownsRow (b3) 42 10 (.slice A3 (raV m l ls t).length c3) ((raV m l ls t).length) (hds (raV m l ls t)) ∧ w17.ownsRow (b2) 9 1 (.slice A2 ls.length c2) (ls.length) (strs ls) ∧ w17.ownsRow (b1) 42 10 (.slice A1 l.length c1) (l.length) (hds l) ∧ w17.cell? ⟨w.heap.size, 0, none⟩ = some (.int .i64 m) ∧ w17.cell? ⟨w.heap.size, 1, none⟩ = some (.slice A l.length c) ∧ Below w.heap.size w w17 := ⟨World.ownsRow.kept (hS.1) hg ne5_8.2, World.ownsRow.kept (hS.2.1) hg ne5_7.2, (by first | exact own_cell (hS.2.2.2.2.2.1) hg (hS.2.2.1) (by first | omega | (simp; done) | (simp; omega)) | exact own_cell_up hg (hS.2.2.1) (fun g e => by have h9 := up5_3 g e; first | omega | (simp; omega))), (by first | exact own_cell (hS.2.2.2.2.2.1) hg (hS.2.2.2.1) (by first | omega | (simp; done) | (simp; omega)) | exact own_cell_up hg (hS.2.2.2.1) (fun g e => by have h9 := up5_3 g e; first | omega | (simp; omega))), World.ownsRow.kept (hS.2.2.2.2.1) hg ne5_6.2, hn, (by first | exact own_cell (hS.2.2.2.2.2.1) hg (hS.2.2.2.2.2.2.1) (by first | omega | (simp; done) | (simp; omega)) | exact own_cell_up hg (hS.2.2.2.2.2.2.1) (fun g e => by have h9 := up5_3 g e; first | omega | (simp; omega))), (by first | exact own_cell (hS.2.2.2.2.2.1) hg (hS.2.2.2.2.2.2.2.1) (by first | omega | (simp; done) | (simp; omega)) | exact own_cell_up hg (hS.2.2.2.2.2.2.2.1) (fun g e => by have h9 := up5_3 g e; first | omega | (simp; omega))), World.ownsRow.kept (hS.2.2.2.2.2.2.2.2.1) hg ne4_5.1, (by first | exact own_cell (hS.2.2.2.2.2.1) hg (hS.2.2.2.2.2.2.2.2.2.1) (by first | omega | (simp; done) | (simp; omega)) | exact own_cell_up hg (hS.2.2.2.2.2.2.2.2.2.1) (fun g e => by have h9 := up5_3 g e; first | omega | (simp; omega))), (by first | exact own_cell (hS.2.2.2.2.2.1) hg (hS.2.2.2.2.2.2.2.2.2.2.1) (by first | omega | (simp; done) | (simp; omega)) | exact own_cell_up hg (hS.2.2.2.2.2.2.2.2.2.2.1) (fun g e => by have h9 := up5_3 g e; first | omega | (simp; omega))), World.ownsRow.kept (hS.2.2.2.2.2.2.2.2.2.2.2.1) hg ne3_5.1, World.ownsRow.kept (hS.2.2.2.2.2.2.2.2.2.2.2.2.1) hg ne2_5.1, World.ownsRow.kept (hS.2.2.2.2.2.2.2.2.2.2.2.2.2.1) hg ne1_5.1, (by first | exact own_cell (hS.2.2.2.2.2.1) hg (hS.2.2.2.2.2.2.2.2.2.2.2.2.2.2.1) (by first | omega | (simp; done) | (simp; omega)) | exact own_cell_up hg (hS.2.2.2.2.2.2.2.2.2.2.2.2.2.2.1) (fun g e => by have h9 := up5_3 g e; first | omega | (simp; omega))), (by first | exact own_cell (hS.2.2.2.2.2.1) hg (hS.2.2.2.2.2.2.2.2.2.2.2.2.2.2.2.1) (by first | omega | (simp; done) | (simp; omega)) | exact own_cell_up hg (hS.2.2.2.2.2.2.2.2.2.2.2.2.2.2.2.1) (fun g e => by have h9 := up5_3 g e; first | omega | (simp; omega))), own_grown (hS.2.2.2.2.2.1) hg (hS.2.2.2.2.2.2.2.2.2.2.2.2.2.2.2.2) hzw (by omega)⟩
  clear hS
  have hS := hT
  clear hT
  have hB := hS.2.2.2.2.2.2.2.2.2.2.2.2.2.2.2.2
  have hzw : w.heap.size ≤ w17.heap.size := hB.size
  have hz1 : w9.heap.size < w17.heap.size := World.block_lt_of_cell? w17 _ (hS.2.2.1)
  have hz2 : w6.heap.size < w17.heap.size := World.block_lt_of_cell? w17 _ (hS.2.2.2.2.2.2.1)
  have hz3 : w4.heap.size < w17.heap.size := World.block_lt_of_cell? w17 _ (hS.2.2.2.2.2.2.2.2.2.1)
  have hz4 : w.heap.size < w17.heap.size := World.block_lt_of_cell? w17 _ (hS.2.2.2.2.2.2.2.2.2.2.2.2.2.2.1)
  clear hn hg
  go_wp2_with fail
  refine (eqReceiver_c _ _ _ _ _ (raV m l ls t) _ (hide (own_reads (hS.2.2.2.2.1))) (hide (own_reads (hS.2.2.2.2.2.2.2.2.2.2.2.1))) (by have := HVL.out; omega)).mono ?_
  rintro e w18 ⟨rfl, hb⟩
  have hT : w18.ownsRow (b8) 9 1 (.slice A8 ls.length c8) (ls.length) (strs ls) ∧ w18.ownsRow (b7) 42 10 (.slice A7 l.length c7) (l.length) (hds l) ∧ w18.cell? ⟨w9.heap.size, 0, none⟩ = some (.int .i64 (raM m l ls t)) ∧ w18.cell? ⟨w9.heap.size, 1, none⟩ = some (.slice A6 (raV m l ls t).length c6) ∧ w18.ownsRow (b6) 42 10 (.slice A6 (raV m l ls t).length c6) ((raV m l ls t).length) (hds (raV m l ls t)) ∧ w18.ownsRow (b5) 9 1 (.slice A5 ls.length c5) (ls.length) (ys) ∧ w18.cell? ⟨w6.heap.size, 0, none⟩ = some (.int .i64 m) ∧ w18.cell? ⟨w6.heap.size, 1, none⟩ = some (.slice A4 l.length c4) ∧ w18.ownsRow (b4) 42 10 (.slice A4 l.length c4) (l.length) (hds (mkL (l).length 1)) ∧ w18.cell? ⟨w4.heap.size, 0, none⟩ = some (.int .i64 (raM m l ls t)) ∧ w18.cell? ⟨w4.heap.size, 1, none⟩ = some (.slice A3 (raV m l ls t).length c3) ∧ w18.ownsRow (b3) 42 10 (.slice A3 (raV m l ls t).length c3) ((raV m l ls t).length) (hds (raV m l ls t)) ∧ w18.ownsRow (b2) 9 1 (.slice A2 ls.length c2) (ls.length) (strs ls) ∧ w18.ownsRow (b1) 42 10 (.slice A1 l.length c1) (l.length) (hds l) ∧ w18.cell? ⟨w.heap.size, 0, none⟩ = some (.int .i64 m) ∧ w18.cell? ⟨w.heap.size, 1, none⟩ = some (.slice A l.length c) ∧ Below w.heap.size w w18 := ⟨own_below hS.1 (hb), own_below hS.2.1 (hb), keep_cell (hb) hS.2.2.1, keep_cell (hb) hS.2.2.2.1, own_below hS.2.2.2.2.1 (hb), own_below hS.2.2.2.2.2.1 (hb), keep_cell (hb) hS.2.2.2.2.2.2.1, keep_cell (hb) hS.2.2.2.2.2.2.2.1, own_below hS.2.2.2.2.2.2.2.2.1 (hb), keep_cell (hb) hS.2.2.2.2.2.2.2.2.2.1, keep_cell (hb) hS.2.2.2.2.2.2.2.2.2.2.1, own_below hS.2.2.2.2.2.2.2.2.2.2.2.1 (hb), own_below hS.2.2.2.2.2.2.2.2.2.2.2.2.1 (hb), own_below hS.2.2.2.2.2.2.2.2.2.2.2.2.2.1 (hb), keep_cell (hb) hS.2.2.2.2.2.2.2.2.2.2.2.2.2.2.1, keep_cell (hb) hS.2.2.2.2.2.2.2.2.2.2.2.2.2.2.2.1, below_via hS.2.2.2.2.2.2.2.2.2.2.2.2.2.2.2.2 (hb)⟩
  (try clear hS)
  have hS := hT
  clear hT
  have hB := hS.2.2.2.2.2.2.2.2.2.2.2.2.2.2.2.2
  have hzw : w.heap.size ≤ w18.heap.size := hB.size
  have hz1 : w9.heap.size < w18.heap.size := World.block_lt_of_cell? w18 _ (hS.2.2.1)
  have hz2 : w6.heap.size < w18.heap.size := World.block_lt_of_cell? w18 _ (hS.2.2.2.2.2.2.1)
  have hz3 : w4.heap.size < w18.heap.size := World.block_lt_of_cell? w18 _ (hS.2.2.2.2.2.2.2.2.2.1)
  have hz4 : w.heap.size < w18.heap.size := World.block_lt_of_cell? w18 _ (hS.2.2.2.2.2.2.2.2.2.2.2.2.2.2.1)
  clear hb
  go_wp2_with fail
  refine (markReceiver_c _ _ _ _ (raV m l ls t) 1 _ (hide (hS.2.2.2.2.1)) (by have := HVL.out; omega) (by omega) (by omega)).mono ?_
  rintro e w19 ⟨rfl, hn, hg⟩
  have hT : w19.ownsRow (b8) 9 1 (.slice A8 ls.length c8) (ls.length) (strs ls) ∧ w19.ownsRow (b7) 42 10 (.slice A7 l.length c7) (l.length) (hds l) ∧ w19.cell? ⟨w9.heap.size, 0, none⟩ = some (.int .i64 (raM m l ls t)) ∧ w19.cell? ⟨w9.heap.size, 1, none⟩ = some (.slice A6 (raV m l ls t).length c6) ∧ w19.ownsRow (b6) 42 10 (.slice A6 (raV m l ls t).length c6) ((raV m l ls t).length) (hds (mkL (raV m l ls t).length 1)) ∧ w19.ownsRow (b5) 9 1 (.slice A5 ls.length c5) (ls.length) (ys) ∧ w19.cell? ⟨w6.heap.size, 0, none⟩ = some (.int .i64 m) ∧ w19.cell? ⟨w6.heap.size, 1, none⟩ = some (.slice A4 l.length c4) ∧ w19.ownsRow (b4) 42 10 (.slice A4 l.length c4) (l.length) (hds (mkL (l).length 1)) ∧ w19.cell? ⟨w4.heap.size, 0, none⟩ = some (.int .i64 (raM m l ls t)) ∧ w19.cell? ⟨w4.heap.size, 1, none⟩ = some (.slice A3 (raV m l ls t).length c3) ∧ w19.ownsRow (b3) 42 10 (.slice A3 (raV m l ls t).length c3) ((raV m l ls t).length) (hds (raV m l ls t)) ∧ w19.ownsRow (b2) 9 1 (.slice A2 ls.length c2) (ls.length) (strs ls) ∧ w19.ownsRow (b1) 42 10 (.slice A1 l.length c1) (l.length) (hds l) ∧ w19.cell? ⟨w.heap.size, 0, none⟩ = some (.int .i64 m) ∧ w19.cell? ⟨w.heap.size, 1, none⟩ = some (.slice A l.length c) ∧ Below w.heap.size w w19 := ⟨World.ownsRow.kept (hS.1) hg ne6_8.2, World.ownsRow.kept (hS.2.1) hg ne6_7.2, (by first | exact own_cell (hS.2.2.2.2.1) hg (hS.2.2.1) (by first | omega | (simp; done) | (simp; omega)) | exact own_cell_up hg (hS.2.2.1) (fun g e => by have h9 := up6_3 g e; first | omega | (simp; omega))), (by first | exact own_cell (hS.2.2.2.2.1) hg (hS.2.2.2.1) (by first | omega | (simp; done) | (simp; omega)) | exact own_cell_up hg (hS.2.2.2.1) (fun g e => by have h9 := up6_3 g e; first | omega | (simp; omega))), hn, World.ownsRow.kept (hS.2.2.2.2.2.1) hg ne5_6.1, (by first | exact own_cell (hS.2.2.2.2.1) hg (hS.2.2.2.2.2.2.1) (by first | omega | (simp; done) | (simp; omega)) | exact own_cell_up hg (hS.2.2.2.2.2.2.1) (fun g e => by have h9 := up6_3 g e; first | omega | (simp; omega))), (by first | exact own_cell (hS.2.2.2.2.1) hg (hS.2.2.2.2.2.2.2.1) (by first | omega | (simp; done) | (simp; omega)) | exact own_cell_up hg (hS.2.2.2.2.2.2.2.1) (fun g e => by have h9 := up6_3 g e; first | omega | (simp; omega))), World.ownsRow.kept (hS.2.2.2.2.2.2.2.2.1) hg ne4_6.1, (by first | exact own_cell (hS.2.2.2.2.1) hg (hS.2.2.2.2.2.2.2.2.2.1) (by first | omega | (simp; done) | (simp; omega)) | exact own_cell_up hg (hS.2.2.2.2.2.2.2.2.2.1) (fun g e => by have h9 := up6_3 g e; first | omega | (simp; omega))), (by first | exact own_cell (hS.2.2.2.2.1) hg (hS.2.2.2.2.2.2.2.2.2.2.1) (by first | omega | (simp; done) | (simp; omega)) | exact own_cell_up hg (hS.2.2.2.2.2.2.2.2.2.2.1) (fun g e => by have h9 := up6_3 g e; first | omega | (simp; omega))), World.ownsRow.kept (hS.2.2.2.2.2.2.2.2.2.2.2.1) hg ne3_6.1, World.ownsRow.kept (hS.2.2.2.2.2.2.2.2.2.2.2.2.1) hg ne2_6.1, World.ownsRow.kept (hS.2.2.2.2.2.2.2.2.2.2.2.2.2.1) hg ne1_6.1, (by first | exact own_cell (hS.2.2.2.2.1) hg (hS.2.2.2.2.2.2.2.2.2.2.2.2.2.2.1) (by first | omega | (simp; done) | (simp; omega)) | exact own_cell_up hg (hS.2.2.2.2.2.2.2.2.2.2.2.2.2.2.1) (fun g e => by have h9 := up6_3 g e; first | omega | (simp; omega))), (by first | exact own_cell (hS.2.2.2.2.1) hg (hS.2.2.2.2.2.2.2.2.2.2.2.2.2.2.2.1) (by first | omega | (simp; done) | (simp; omega)) | exact own_cell_up hg (hS.2.2.2.2.2.2.2.2.2.2.2.2.2.2.2.1) (fun g e => by have h9 := up6_3 g e; first | omega | (simp; omega))), own_grown (hS.2.2.2.2.1) hg (hS.2.2.2.2.2.2.2.2.2.2.2.2.2.2.2.2) hzw (by omega)⟩
  clear hS
  have hS := hT
  clear hT
  have hB := hS.2.2.2.2.2.2.2.2.2.2.2.2.2.2.2.2
  have hzw : w.heap.size ≤ w19.heap.size := hB.size
  have hz1 : w9.heap.size < w19.heap.size := World.block_lt_of_cell? w19 _ (hS.2.2.1)
  have hz2 : w6.heap.size < w19.heap.size := World.block_lt_of_cell? w19 _ (hS.2.2.2.2.2.2.1)
  have hz3 : w4.heap.size < w19.heap.size := World.block_lt_of_cell? w19 _ (hS.2.2.2.2.2.2.2.2.2.1)
  have hz4 : w.heap.size < w19.heap.size := World.block_lt_of_cell? w19 _ (hS.2.2.2.2.2.2.2.2.2.2.2.2.2.2.1)
  clear hn hg
  go_wp2_with fail
  refine (heldReceiver_c _ _ _ ((raV m l ls t).length) 1 _ (hide (own_reads (hS.2.2.2.2.1))) (by have := HVL.out; omega) (by omega) (by omega)).mono ?_
  rintro e w20 ⟨rfl, hb⟩
  have hT : w20.ownsRow (b8) 9 1 (.slice A8 ls.length c8) (ls.length) (strs ls) ∧ w20.ownsRow (b7) 42 10 (.slice A7 l.length c7) (l.length) (hds l) ∧ w20.cell? ⟨w9.heap.size, 0, none⟩ = some (.int .i64 (raM m l ls t)) ∧ w20.cell? ⟨w9.heap.size, 1, none⟩ = some (.slice A6 (raV m l ls t).length c6) ∧ w20.ownsRow (b6) 42 10 (.slice A6 (raV m l ls t).length c6) ((raV m l ls t).length) (hds (mkL (raV m l ls t).length 1)) ∧ w20.ownsRow (b5) 9 1 (.slice A5 ls.length c5) (ls.length) (ys) ∧ w20.cell? ⟨w6.heap.size, 0, none⟩ = some (.int .i64 m) ∧ w20.cell? ⟨w6.heap.size, 1, none⟩ = some (.slice A4 l.length c4) ∧ w20.ownsRow (b4) 42 10 (.slice A4 l.length c4) (l.length) (hds (mkL (l).length 1)) ∧ w20.cell? ⟨w4.heap.size, 0, none⟩ = some (.int .i64 (raM m l ls t)) ∧ w20.cell? ⟨w4.heap.size, 1, none⟩ = some (.slice A3 (raV m l ls t).length c3) ∧ w20.ownsRow (b3) 42 10 (.slice A3 (raV m l ls t).length c3) ((raV m l ls t).length) (hds (raV m l ls t)) ∧ w20.ownsRow (b2) 9 1 (.slice A2 ls.length c2) (ls.length) (strs ls) ∧ w20.ownsRow (b1) 42 10 (.slice A1 l.length c1) (l.length) (hds l) ∧ w20.cell? ⟨w.heap.size, 0, none⟩ = some (.int .i64 m) ∧ w20.cell? ⟨w.heap.size, 1, none⟩ = some (.slice A l.length c) ∧ Below w.heap.size w w20 := ⟨own_below hS.1 (hb), own_below hS.2.1 (hb), keep_cell (hb) hS.2.2.1, keep_cell (hb) hS.2.2.2.1, own_below hS.2.2.2.2.1 (hb), own_below hS.2.2.2.2.2.1 (hb), keep_cell (hb) hS.2.2.2.2.2.2.1, keep_cell (hb) hS.2.2.2.2.2.2.2.1, own_below hS.2.2.2.2.2.2.2.2.1 (hb), keep_cell (hb) hS.2.2.2.2.2.2.2.2.2.1, keep_cell (hb) hS.2.2.2.2.2.2.2.2.2.2.1, own_below hS.2.2.2.2.2.2.2.2.2.2.2.1 (hb), own_below hS.2.2.2.2.2.2.2.2.2.2.2.2.1 (hb), own_below hS.2.2.2.2.2.2.2.2.2.2.2.2.2.1 (hb), keep_cell (hb) hS.2.2.2.2.2.2.2.2.2.2.2.2.2.2.1, keep_cell (hb) hS.2.2.2.2.2.2.2.2.2.2.2.2.2.2.2.1, below_via hS.2.2.2.2.2.2.2.2.2.2.2.2.2.2.2.2 (hb)⟩
  (try clear hS)
  have hS := hT
  clear hT
  have hB := hS.2.2.2.2.2.2.2.2.2.2.2.2.2.2.2.2
  have hzw : w.heap.size ≤ w20.heap.size := hB.size
  have hz1 : w9.heap.size < w20.heap.size := World.block_lt_of_cell? w20 _ (hS.2.2.1)
  have hz2 : w6.heap.size < w20.heap.size := World.block_lt_of_cell? w20 _ (hS.2.2.2.2.2.2.1)
  have hz3 : w4.heap.size < w20.heap.size := World.block_lt_of_cell? w20 _ (hS.2.2.2.2.2.2.2.2.2.1)
  have hz4 : w.heap.size < w20.heap.size := World.block_lt_of_cell? w20 _ (hS.2.2.2.2.2.2.2.2.2.2.2.2.2.2.1)
  clear hb
  have hP := hS
  go_wp2_with fail
  refine (toReceiver_c m A c l _ (hide (reads_below h1.out (by go_grown))) (by omega)).mono ?_
  rintro e w21 ⟨A9, c9, rfl, ho9, hb⟩
  obtain ⟨b9, ho9, hbk9⟩ := own_based ho9 (m := w20.heap.size) (by first | omega | (simp; done) | (simp; omega))
  have ne1_9 := own_ne (hP.2.2.2.2.2.2.2.2.2.2.2.2.2.1) ho9 hbk9
  have ne2_9 := own_ne (hP.2.2.2.2.2.2.2.2.2.2.2.2.1) ho9 hbk9
  have ne3_9 := own_ne (hP.2.2.2.2.2.2.2.2.2.2.2.1) ho9 hbk9
  have ne4_9 := own_ne (hP.2.2.2.2.2.2.2.2.1) ho9 hbk9
  have ne5_9 := own_ne (hP.2.2.2.2.2.1) ho9 hbk9
  have ne6_9 := own_ne (hP.2.2.2.2.1) ho9 hbk9
  have ne7_9 := own_ne (hP.2.1) ho9 hbk9
  have ne8_9 := own_ne (hP.1) ho9 hbk9
  clear hP
  have hT : w21.ownsRow (b9) 42 10 (.slice A9 l.length c9) (l.length) (hds l) ∧ w21.ownsRow (b8) 9 1 (.slice A8 ls.length c8) (ls.length) (strs ls) ∧ w21.ownsRow (b7) 42 10 (.slice A7 l.length c7) (l.length) (hds l) ∧ w21.cell? ⟨w9.heap.size, 0, none⟩ = some (.int .i64 (raM m l ls t)) ∧ w21.cell? ⟨w9.heap.size, 1, none⟩ = some (.slice A6 (raV m l ls t).length c6) ∧ w21.ownsRow (b6) 42 10 (.slice A6 (raV m l ls t).length c6) ((raV m l ls t).length) (hds (mkL (raV m l ls t).length 1)) ∧ w21.ownsRow (b5) 9 1 (.slice A5 ls.length c5) (ls.length) (ys) ∧ w21.cell? ⟨w6.heap.size, 0, none⟩ = some (.int .i64 m) ∧ w21.cell? ⟨w6.heap.size, 1, none⟩ = some (.slice A4 l.length c4) ∧ w21.ownsRow (b4) 42 10 (.slice A4 l.length c4) (l.length) (hds (mkL (l).length 1)) ∧ w21.cell? ⟨w4.heap.size, 0, none⟩ = some (.int .i64 (raM m l ls t)) ∧ w21.cell? ⟨w4.heap.size, 1, none⟩ = some (.slice A3 (raV m l ls t).length c3) ∧ w21.ownsRow (b3) 42 10 (.slice A3 (raV m l ls t).length c3) ((raV m l ls t).length) (hds (raV m l ls t)) ∧ w21.ownsRow (b2) 9 1 (.slice A2 ls.length c2) (ls.length) (strs ls) ∧ w21.ownsRow (b1) 42 10 (.slice A1 l.length c1) (l.length) (hds l) ∧ w21.cell? ⟨w.heap.size, 0, none⟩ = some (.int .i64 m) ∧ w21.cell? ⟨w.heap.size, 1, none⟩ = some (.slice A l.length c) ∧ Below w.heap.size w w21 := ⟨ho9, ⟨own_below hS.1 (hb), own_below hS.2.1 (hb), keep_cell (hb) hS.2.2.1, keep_cell (hb) hS.2.2.2.1, own_below hS.2.2.2.2.1 (hb), own_below hS.2.2.2.2.2.1 (hb), keep_cell (hb) hS.2.2.2.2.2.2.1, keep_cell (hb) hS.2.2.2.2.2.2.2.1, own_below hS.2.2.2.2.2.2.2.2.1 (hb), keep_cell (hb) hS.2.2.2.2.2.2.2.2.2.1, keep_cell (hb) hS.2.2.2.2.2.2.2.2.2.2.1, own_below hS.2.2.2.2.2.2.2.2.2.2.2.1 (hb), own_below hS.2.2.2.2.2.2.2.2.2.2.2.2.1 (hb), own_below hS.2.2.2.2.2.2.2.2.2.2.2.2.2.1 (hb), keep_cell (hb) hS.2.2.2.2.2.2.2.2.2.2.2.2.2.2.1, keep_cell (hb) hS.2.2.2.2.2.2.2.2.2.2.2.2.2.2.2.1, below_via hS.2.2.2.2.2.2.2.2.2.2.2.2.2.2.2.2 (hb)⟩⟩
  (try clear hS)
  have hS := hT
  clear hT
  have hB := hS.2.2.2.2.2.2.2.2.2.2.2.2.2.2.2.2.2
  have hzw : w.heap.size ≤ w21.heap.size := hB.size
  have hz1 : w9.heap.size < w21.heap.size := World.block_lt_of_cell? w21 _ (hS.2.2.2.1)
  have hz2 : w6.heap.size < w21.heap.size := World.block_lt_of_cell? w21 _ (hS.2.2.2.2.2.2.2.1)
  have hz3 : w4.heap.size < w21.heap.size := World.block_lt_of_cell? w21 _ (hS.2.2.2.2.2.2.2.2.2.2.1)
  have hz4 : w.heap.size < w21.heap.size := World.block_lt_of_cell? w21 _ (hS.2.2.2.2.2.2.2.2.2.2.2.2.2.2.2.1)
  clear hb
  have hP := hS
  go_wp2_with fail
  refine (toStringS_c SA SC ls _ (hide (reads_below h2.out (by go_grown))) (by omega)).mono ?_
  rintro e w22 ⟨A10, c10, rfl, ho10, hb⟩
  obtain ⟨b10, ho10, hbk10⟩ := own_based ho10 (m := w21.heap.size) (by first | omega | (simp; done) | (simp; omega))
  have ne1_10 := own_ne (hP.2.2.2.2.2.2.2.2.2.2.2.2.2.2.1) ho10 hbk10
  have ne2_10 := own_ne (hP.2.2.2.2.2.2.2.2.2.2.2.2.2.1) ho10 hbk10
  have ne3_10 := own_ne (hP.2.2.2.2.2.2.2.2.2.2.2.2.1) ho10 hbk10
  have ne4_10 := own_ne (hP.2.2.2.2.2.2.2.2.2.1) ho10 hbk10
  have ne5_10 := own_ne (hP.2.2.2.2.2.2.1) ho10 hbk10
  have ne6_10 := own_ne (hP.2.2.2.2.2.1) ho10 hbk10
  have ne7_10 := own_ne (hP.2.2.1) ho10 hbk10
  have ne8_10 := own_ne (hP.2.1) ho10 hbk10
  have ne9_10 := own_ne (hP.1) ho10 hbk10
  clear hP
  have hT : w22.ownsRow (b10) 9 1 (.slice A10 ls.length c10) (ls.length) (strs ls) ∧ w22.ownsRow (b9) 42 10 (.slice A9 l.length c9) (l.length) (hds l) ∧ w22.ownsRow (b8) 9 1 (.slice A8 ls.length c8) (ls.length) (strs ls) ∧ w22.ownsRow (b7) 42 10 (.slice A7 l.length c7) (l.length) (hds l) ∧ w22.cell? ⟨w9.heap.size, 0, none⟩ = some (.int .i64 (raM m l ls t)) ∧ w22.cell? ⟨w9.heap.size, 1, none⟩ = some (.slice A6 (raV m l ls t).length c6) ∧ w22.ownsRow (b6) 42 10 (.slice A6 (raV m l ls t).length c6) ((raV m l ls t).length) (hds (mkL (raV m l ls t).length 1)) ∧ w22.ownsRow (b5) 9 1 (.slice A5 ls.length c5) (ls.length) (ys) ∧ w22.cell? ⟨w6.heap.size, 0, none⟩ = some (.int .i64 m) ∧ w22.cell? ⟨w6.heap.size, 1, none⟩ = some (.slice A4 l.length c4) ∧ w22.ownsRow (b4) 42 10 (.slice A4 l.length c4) (l.length) (hds (mkL (l).length 1)) ∧ w22.cell? ⟨w4.heap.size, 0, none⟩ = some (.int .i64 (raM m l ls t)) ∧ w22.cell? ⟨w4.heap.size, 1, none⟩ = some (.slice A3 (raV m l ls t).length c3) ∧ w22.ownsRow (b3) 42 10 (.slice A3 (raV m l ls t).length c3) ((raV m l ls t).length) (hds (raV m l ls t)) ∧ w22.ownsRow (b2) 9 1 (.slice A2 ls.length c2) (ls.length) (strs ls) ∧ w22.ownsRow (b1) 42 10 (.slice A1 l.length c1) (l.length) (hds l) ∧ w22.cell? ⟨w.heap.size, 0, none⟩ = some (.int .i64 m) ∧ w22.cell? ⟨w.heap.size, 1, none⟩ = some (.slice A l.length c) ∧ Below w.heap.size w w22 := ⟨ho10, ⟨own_below hS.1 (hb), own_below hS.2.1 (hb), own_below hS.2.2.1 (hb), keep_cell (hb) hS.2.2.2.1, keep_cell (hb) hS.2.2.2.2.1, own_below hS.2.2.2.2.2.1 (hb), own_below hS.2.2.2.2.2.2.1 (hb), keep_cell (hb) hS.2.2.2.2.2.2.2.1, keep_cell (hb) hS.2.2.2.2.2.2.2.2.1, own_below hS.2.2.2.2.2.2.2.2.2.1 (hb), keep_cell (hb) hS.2.2.2.2.2.2.2.2.2.2.1, keep_cell (hb) hS.2.2.2.2.2.2.2.2.2.2.2.1, own_below hS.2.2.2.2.2.2.2.2.2.2.2.2.1 (hb), own_below hS.2.2.2.2.2.2.2.2.2.2.2.2.2.1 (hb), own_below hS.2.2.2.2.2.2.2.2.2.2.2.2.2.2.1 (hb), keep_cell (hb) hS.2.2.2.2.2.2.2.2.2.2.2.2.2.2.2.1, keep_cell (hb) hS.2.2.2.2.2.2.2.2.2.2.2.2.2.2.2.2.1, below_via hS.2.2.2.2.2.2.2.2.2.2.2.2.2.2.2.2.2 (hb)⟩⟩
  (try clear hS)
  have hS := hT
  clear hT
  have hB := hS.2.2.2.2.2.2.2.2.2.2.2.2.2.2.2.2.2.2
  have hzw : w.heap.size ≤ w22.heap.size := hB.size
  have hz1 : w9.heap.size < w22.heap.size := World.block_lt_of_cell? w22 _ (hS.2.2.2.2.1)
  have hz2 : w6.heap.size < w22.heap.size := World.block_lt_of_cell? w22 _ (hS.2.2.2.2.2.2.2.2.1)
  have hz3 : w4.heap.size < w22.heap.size := World.block_lt_of_cell? w22 _ (hS.2.2.2.2.2.2.2.2.2.2.2.1)
  have hz4 : w.heap.size < w22.heap.size := World.block_lt_of_cell? w22 _ (hS.2.2.2.2.2.2.2.2.2.2.2.2.2.2.2.2.1)
  clear hb
  have hP := hS
  go_wp2_with fail
  refine (ReceiveAll_c _ _ _ l _ _ ls t _ (hide (own_reads (hS.2.1))) (by omega) (hide (own_reads (hS.1))) (by omega) HSS2).mono ?_
  rintro e w23 ⟨A11, c11, rfl, ho11, hb⟩
  obtain ⟨b11, ho11, hbk11⟩ := own_based ho11 (m := w22.heap.size) (by first | omega | (simp; done) | (simp; omega))
  have ne1_11 := own_ne (hP.2.2.2.2.2.2.2.2.2.2.2.2.2.2.2.1) ho11 hbk11
  have ne2_11 := own_ne (hP.2.2.2.2.2.2.2.2.2.2.2.2.2.2.1) ho11 hbk11
  have ne3_11 := own_ne (hP.2.2.2.2.2.2.2.2.2.2.2.2.2.1) ho11 hbk11
  have ne4_11 := own_ne (hP.2.2.2.2.2.2.2.2.2.2.1) ho11 hbk11
  have ne5_11 := own_ne (hP.2.2.2.2.2.2.2.1) ho11 hbk11
  have ne6_11 := own_ne (hP.2.2.2.2.2.2.1) ho11 hbk11
  have ne7_11 := own_ne (hP.2.2.2.1) ho11 hbk11
  have ne8_11 := own_ne (hP.2.2.1) ho11 hbk11
  have ne9_11 := own_ne (hP.2.1) ho11 hbk11
  have ne10_11 := own_ne (hP.1) ho11 hbk11
  clear hP
  have hT : w23.ownsRow (b11) 42 10 (.slice A11 (raV m l ls t).length c11) ((raV m l ls t).length) (hds (raV m l ls t)) ∧ w23.ownsRow (b10) 9 1 (.slice A10 ls.length c10) (ls.length) (strs ls) ∧ w23.ownsRow (b9) 42 10 (.slice A9 l.length c9) (l.length) (hds l) ∧ w23.ownsRow (b8) 9 1 (.slice A8 ls.length c8) (ls.length) (strs ls) ∧ w23.ownsRow (b7) 42 10 (.slice A7 l.length c7) (l.length) (hds l) ∧ w23.cell? ⟨w9.heap.size, 0, none⟩ = some (.int .i64 (raM m l ls t)) ∧ w23.cell? ⟨w9.heap.size, 1, none⟩ = some (.slice A6 (raV m l ls t).length c6) ∧ w23.ownsRow (b6) 42 10 (.slice A6 (raV m l ls t).length c6) ((raV m l ls t).length) (hds (mkL (raV m l ls t).length 1)) ∧ w23.ownsRow (b5) 9 1 (.slice A5 ls.length c5) (ls.length) (ys) ∧ w23.cell? ⟨w6.heap.size, 0, none⟩ = some (.int .i64 m) ∧ w23.cell? ⟨w6.heap.size, 1, none⟩ = some (.slice A4 l.length c4) ∧ w23.ownsRow (b4) 42 10 (.slice A4 l.length c4) (l.length) (hds (mkL (l).length 1)) ∧ w23.cell? ⟨w4.heap.size, 0, none⟩ = some (.int .i64 (raM m l ls t)) ∧ w23.cell? ⟨w4.heap.size, 1, none⟩ = some (.slice A3 (raV m l ls t).length c3) ∧ w23.ownsRow (b3) 42 10 (.slice A3 (raV m l ls t).length c3) ((raV m l ls t).length) (hds (raV m l ls t)) ∧ w23.ownsRow (b2) 9 1 (.slice A2 ls.length c2) (ls.length) (strs ls) ∧ w23.ownsRow (b1) 42 10 (.slice A1 l.length c1) (l.length) (hds l) ∧ w23.cell? ⟨w.heap.size, 0, none⟩ = some (.int .i64 m) ∧ w23.cell? ⟨w.heap.size, 1, none⟩ = some (.slice A l.length c) ∧ Below w.heap.size w w23 := ⟨ho11, ⟨own_below hS.1 (hb), own_below hS.2.1 (hb), own_below hS.2.2.1 (hb), own_below hS.2.2.2.1 (hb), keep_cell (hb) hS.2.2.2.2.1, keep_cell (hb) hS.2.2.2.2.2.1, own_below hS.2.2.2.2.2.2.1 (hb), own_below hS.2.2.2.2.2.2.2.1 (hb), keep_cell (hb) hS.2.2.2.2.2.2.2.2.1, keep_cell (hb) hS.2.2.2.2.2.2.2.2.2.1, own_below hS.2.2.2.2.2.2.2.2.2.2.1 (hb), keep_cell (hb) hS.2.2.2.2.2.2.2.2.2.2.2.1, keep_cell (hb) hS.2.2.2.2.2.2.2.2.2.2.2.2.1, own_below hS.2.2.2.2.2.2.2.2.2.2.2.2.2.1 (hb), own_below hS.2.2.2.2.2.2.2.2.2.2.2.2.2.2.1 (hb), own_below hS.2.2.2.2.2.2.2.2.2.2.2.2.2.2.2.1 (hb), keep_cell (hb) hS.2.2.2.2.2.2.2.2.2.2.2.2.2.2.2.2.1, keep_cell (hb) hS.2.2.2.2.2.2.2.2.2.2.2.2.2.2.2.2.2.1, below_via hS.2.2.2.2.2.2.2.2.2.2.2.2.2.2.2.2.2.2 (hb)⟩⟩
  (try clear hS)
  have hS := hT
  clear hT
  have hB := hS.2.2.2.2.2.2.2.2.2.2.2.2.2.2.2.2.2.2.2
  have hzw : w.heap.size ≤ w23.heap.size := hB.size
  have hz1 : w9.heap.size < w23.heap.size := World.block_lt_of_cell? w23 _ (hS.2.2.2.2.2.1)
  have hz2 : w6.heap.size < w23.heap.size := World.block_lt_of_cell? w23 _ (hS.2.2.2.2.2.2.2.2.2.1)
  have hz3 : w4.heap.size < w23.heap.size := World.block_lt_of_cell? w23 _ (hS.2.2.2.2.2.2.2.2.2.2.2.2.1)
  have hz4 : w.heap.size < w23.heap.size := World.block_lt_of_cell? w23 _ (hS.2.2.2.2.2.2.2.2.2.2.2.2.2.2.2.2.2.1)
  clear hb
  have up1_4 : ∀ g, Value.ownBlock (.slice A1 (l.length) c1) = some g → g < w23.heap.size := fun g e => (World.ownsRow.lt (hS.2.2.2.2.2.2.2.2.2.2.2.2.2.2.2.2.1) g e).2
  have up2_4 : ∀ g, Value.ownBlock (.slice A2 (ls.length) c2) = some g → g < w23.heap.size := fun g e => (World.ownsRow.lt (hS.2.2.2.2.2.2.2.2.2.2.2.2.2.2.2.1) g e).2
  have up3_4 : ∀ g, Value.ownBlock (.slice A3 ((raV m l ls t).length) c3) = some g → g < w23.heap.size := fun g e => (World.ownsRow.lt (hS.2.2.2.2.2.2.2.2.2.2.2.2.2.2.1) g e).2
  have up4_4 : ∀ g, Value.ownBlock (.slice A4 (l.length) c4) = some g → g < w23.heap.size := fun g e => (World.ownsRow.lt (hS.2.2.2.2.2.2.2.2.2.2.2.1) g e).2
  have up5_4 : ∀ g, Value.ownBlock (.slice A5 (ls.length) c5) = some g → g < w23.heap.size := fun g e => (World.ownsRow.lt (hS.2.2.2.2.2.2.2.2.1) g e).2
  have up6_4 : ∀ g, Value.ownBlock (.slice A6 ((raV m l ls t).length) c6) = some g → g < w23.heap.size := fun g e => (World.ownsRow.lt (hS.2.2.2.2.2.2.2.1) g e).2
  have up7_4 : ∀ g, Value.ownBlock (.slice A7 (l.length) c7) = some g → g < w23.heap.size := fun g e => (World.ownsRow.lt (hS.2.2.2.2.1) g e).2
  have up8_4 : ∀ g, Value.ownBlock (.slice A8 (ls.length) c8) = some g → g < w23.heap.size := fun g e => (World.ownsRow.lt (hS.2.2.2.1) g e).2
  have up9_4 : ∀ g, Value.ownBlock (.slice A9 (l.length) c9) = some g → g < w23.heap.size := fun g e => (World.ownsRow.lt (hS.2.2.1) g e).2
  have up10_4 : ∀ g, Value.ownBlock (.slice A10 (ls.length) c10) = some g → g < w23.heap.size := fun g e => (World.ownsRow.lt (hS.2.1) g e).2
  have up11_4 : ∀ g, Value.ownBlock (.slice A11 ((raV m l ls t).length) c11) = some g → g < w23.heap.size := fun g e => (World.ownsRow.lt (hS.1) g e).2
  go_wp2_with fail
  obtain ⟨w24, hww24⟩ : ∃ W, W = w23.alloc (.cells #[.int .i64 (raM m l ls t), .slice A11 (raV m l ls t).length c11] 26) := ⟨_, rfl⟩
  have hT : w24.cell? ⟨w23.heap.size, 0, none⟩ = some (.int .i64 (raM m l ls t)) ∧ w24.cell? ⟨w23.heap.size, 1, none⟩ = some (.slice A11 (raV m l ls t).length c11) ∧ w24.ownsRow (b11) 42 10 (.slice A11 (raV m l ls t).length c11) ((raV m l ls t).length) (hds (raV m l ls t)) ∧ w24.ownsRow (b10) 9 1 (.slice A10 ls.length c10) (ls.length) (strs ls) ∧ w24.ownsRow (b9) 42 10 (.slice A9 l.length c9) (l.length) (hds l) ∧ w24.ownsRow (b8) 9 1 (.slice A8 ls.length c8) (ls.length) (strs ls) ∧ w24.ownsRow (b7) 42 10 (.slice A7 l.length c7) (l.length) (hds l) ∧ w24.cell? ⟨w9.heap.size, 0, none⟩ = some (.int .i64 (raM m l ls t)) ∧ w24.cell? ⟨w9.heap.size, 1, none⟩ = some (.slice A6 (raV m l ls t).length c6) ∧ w24.ownsRow (b6) 42 10 (.slice A6 (raV m l ls t).length c6) ((raV m l ls t).length) (hds (mkL (raV m l ls t).length 1)) ∧ w24.ownsRow (b5) 9 1 (.slice A5 ls.length c5) (ls.length) (ys) ∧ w24.cell? ⟨w6.heap.size, 0, none⟩ = some (.int .i64 m) ∧ w24.cell? ⟨w6.heap.size, 1, none⟩ = some (.slice A4 l.length c4) ∧ w24.ownsRow (b4) 42 10 (.slice A4 l.length c4) (l.length) (hds (mkL (l).length 1)) ∧ w24.cell? ⟨w4.heap.size, 0, none⟩ = some (.int .i64 (raM m l ls t)) ∧ w24.cell? ⟨w4.heap.size, 1, none⟩ = some (.slice A3 (raV m l ls t).length c3) ∧ w24.ownsRow (b3) 42 10 (.slice A3 (raV m l ls t).length c3) ((raV m l ls t).length) (hds (raV m l ls t)) ∧ w24.ownsRow (b2) 9 1 (.slice A2 ls.length c2) (ls.length) (strs ls) ∧ w24.ownsRow (b1) 42 10 (.slice A1 l.length c1) (l.length) (hds l) ∧ w24.cell? ⟨w.heap.size, 0, none⟩ = some (.int .i64 m) ∧ w24.cell? ⟨w.heap.size, 1, none⟩ = some (.slice A l.length c) ∧ Below w.heap.size w w24 := by
    rw [hww24]
    exact ⟨by simp [go_sem], by simp [go_sem], own_below hS.1 (by go_grown), own_below hS.2.1 (by go_grown), own_below hS.2.2.1 (by go_grown), own_below hS.2.2.2.1 (by go_grown), own_below hS.2.2.2.2.1 (by go_grown), keep_cell (by go_grown) hS.2.2.2.2.2.1, keep_cell (by go_grown) hS.2.2.2.2.2.2.1, own_below hS.2.2.2.2.2.2.2.1 (by go_grown), own_below hS.2.2.2.2.2.2.2.2.1 (by go_grown), keep_cell (by go_grown) hS.2.2.2.2.2.2.2.2.2.1, keep_cell (by go_grown) hS.2.2.2.2.2.2.2.2.2.2.1, own_below hS.2.2.2.2.2.2.2.2.2.2.2.1 (by go_grown), keep_cell (by go_grown) hS.2.2.2.2.2.2.2.2.2.2.2.2.1, keep_cell (by go_grown) hS.2.2.2.2.2.2.2.2.2.2.2.2.2.1, own_below hS.2.2.2.2.2.2.2.2.2.2.2.2.2.2.1 (by go_grown), own_below hS.2.2.2.2.2.2.2.2.2.2.2.2.2.2.2.1 (by go_grown), own_below hS.2.2.2.2.2.2.2.2.2.2.2.2.2.2.2.2.1 (by go_grown), keep_cell (by go_grown) hS.2.2.2.2.2.2.2.2.2.2.2.2.2.2.2.2.2.1, keep_cell (by go_grown) hS.2.2.2.2.2.2.2.2.2.2.2.2.2.2.2.2.2.2.1, below_via hS.2.2.2.2.2.2.2.2.2.2.2.2.2.2.2.2.2.2.2 (by go_grown)⟩
  rw [← hww24]
  clear hS hww24
  have hS := hT
  clear hT
  (try clear hB hzw)
  have hB := hS.2.2.2.2.2.2.2.2.2.2.2.2.2.2.2.2.2.2.2.2.2
  have hzw : w.heap.size ≤ w24.heap.size := hB.size
  have hz1 : w23.heap.size < w24.heap.size := World.block_lt_of_cell? w24 _ (hS.1)
  have hz2 : w9.heap.size < w24.heap.size := World.block_lt_of_cell? w24 _ (hS.2.2.2.2.2.2.2.1)
  have hz3 : w6.heap.size < w24.heap.size := World.block_lt_of_cell? w24 _ (hS.2.2.2.2.2.2.2.2.2.2.2.1)
  have hz4 : w4.heap.size < w24.heap.size := World.block_lt_of_cell? w24 _ (hS.2.2.2.2.2.2.2.2.2.2.2.2.2.2.1)
  have hz5 : w.heap.size < w24.heap.size := World.block_lt_of_cell? w24 _ (hS.2.2.2.2.2.2.2.2.2.2.2.2.2.2.2.2.2.2.2.1)
  go_wp2_with fail
  refine (eqReceiver_c _ _ _ _ _ (raV m l ls t) _ (hide (own_reads (hS.2.2.1))) (hide (own_reads (hS.2.2.2.2.2.2.2.2.2.2.2.2.2.2.2.2.1))) (by have := HVL.out; omega)).mono ?_
  rintro e w25 ⟨rfl, hb⟩
  have hT : w25.cell? ⟨w23.heap.size, 0, none⟩ = some (.int .i64 (raM m l ls t)) ∧ w25.cell? ⟨w23.heap.size, 1, none⟩ = some (.slice A11 (raV m l ls t).length c11) ∧ w25.ownsRow (b11) 42 10 (.slice A11 (raV m l ls t).length c11) ((raV m l ls t).length) (hds (raV m l ls t)) ∧ w25.ownsRow (b10) 9 1 (.slice A10 ls.length c10) (ls.length) (strs ls) ∧ w25.ownsRow (b9) 42 10 (.slice A9 l.length c9) (l.length) (hds l) ∧ w25.ownsRow (b8) 9 1 (.slice A8 ls.length c8) (ls.length) (strs ls) ∧ w25.ownsRow (b7) 42 10 (.slice A7 l.length c7) (l.length) (hds l) ∧ w25.cell? ⟨w9.heap.size, 0, none⟩ = some (.int .i64 (raM m l ls t)) ∧ w25.cell? ⟨w9.heap.size, 1, none⟩ = some (.slice A6 (raV m l ls t).length c6) ∧ w25.ownsRow (b6) 42 10 (.slice A6 (raV m l ls t).length c6) ((raV m l ls t).length) (hds (mkL (raV m l ls t).length 1)) ∧ w25.ownsRow (b5) 9 1 (.slice A5 ls.length c5) (ls.length) (ys) ∧ w25.cell? ⟨w6.heap.size, 0, none⟩ = some (.int .i64 m) ∧ w25.cell? ⟨w6.heap.size, 1, none⟩ = some (.slice A4 l.length c4) ∧ w25.ownsRow (b4) 42 10 (.slice A4 l.length c4) (l.length) (hds (mkL (l).length 1)) ∧ w25.cell? ⟨w4.heap.size, 0, none⟩ = some (.int .i64 (raM m l ls t)) ∧ w25.cell? ⟨w4.heap.size, 1, none⟩ = some (.slice A3 (raV m l ls t).length c3) ∧ w25.ownsRow (b3) 42 10 (.slice A3 (raV m l ls t).length c3) ((raV m l ls t).length) (hds (raV m l ls t)) ∧ w25.ownsRow (b2) 9 1 (.slice A2 ls.length c2) (ls.length) (strs ls) ∧ w25.ownsRow (b1) 42 10 (.slice A1 l.length c1) (l.length) (hds l) ∧ w25.cell? ⟨w.heap.size, 0, none⟩ = some (.int .i64 m) ∧ w25.cell? ⟨w.heap.size, 1, none⟩ = some (.slice A l.length c) ∧ Below w.heap.size w w25 := ⟨keep_cell (hb) hS.1, keep_cell (hb) hS.2.1, own_below hS.2.2.1 (hb), own_below hS.2.2.2.1 (hb), own_below hS.2.2.2.2.1 (hb), own_below hS.2.2.2.2.2.1 (hb), own_below hS.2.2.2.2.2.2.1 (hb), keep_cell (hb) hS.2.2.2.2.2.2.2.1, keep_cell (hb) hS.2.2.2.2.2.2.2.2.1, own_below hS.2.2.2.2.2.2.2.2.2.1 (hb), own_below hS.2.2.2.2.2.2.2.2.2.2.1 (hb), keep_cell (hb) hS.2.2.2.2.2.2.2.2.2.2.2.1, keep_cell (hb) hS.2.2.2.2.2.2.2.2.2.2.2.2.1, own_below hS.2.2.2.2.2.2.2.2.2.2.2.2.2.1 (hb), keep_cell (hb) hS.2.2.2.2.2.2.2.2.2.2.2.2.2.2.1, keep_cell (hb) hS.2.2.2.2.2.2.2.2.2.2.2.2.2.2.2.1, own_below hS.2.2.2.2.2.2.2.2.2.2.2.2.2.2.2.2.1 (hb), own_below hS.2.2.2.2.2.2.2.2.2.2.2.2.2.2.2.2.2.1 (hb), own_below hS.2.2.2.2.2.2.2.2.2.2.2.2.2.2.2.2.2.2.1 (hb), keep_cell (hb) hS.2.2.2.2.2.2.2.2.2.2.2.2.2.2.2.2.2.2.2.1, keep_cell (hb) hS.2.2.2.2.2.2.2.2.2.2.2.2.2.2.2.2.2.2.2.2.1, below_via hS.2.2.2.2.2.2.2.2.2.2.2.2.2.2.2.2.2.2.2.2.2 (hb)⟩
  (try clear hS)
  have hS := hT
  clear hT
  have hB := hS.2.2.2.2.2.2.2.2.2.2.2.2.2.2.2.2.2.2.2.2.2
  have hzw : w.heap.size ≤ w25.heap.size := hB.size
  have hz1 : w23.heap.size < w25.heap.size := World.block_lt_of_cell? w25 _ (hS.1)
  have hz2 : w9.heap.size < w25.heap.size := World.block_lt_of_cell? w25 _ (hS.2.2.2.2.2.2.2.1)
  have hz3 : w6.heap.size < w25.heap.size := World.block_lt_of_cell? w25 _ (hS.2.2.2.2.2.2.2.2.2.2.2.1)
  have hz4 : w4.heap.size < w25.heap.size := World.block_lt_of_cell? w25 _ (hS.2.2.2.2.2.2.2.2.2.2.2.2.2.2.1)
  have hz5 : w.heap.size < w25.heap.size := World.block_lt_of_cell? w25 _ (hS.2.2.2.2.2.2.2.2.2.2.2.2.2.2.2.2.2.2.2.1)
  clear hb
  go_wp2_with fail
  refine (heldReceiver_c _ _ _ ((raV m l ls t).length) 1 _ (hide (own_reads (hS.2.2.2.2.2.2.2.2.2.1))) (by have := HVL.out; omega) (by omega) (by omega)).mono ?_
  rintro e w26 ⟨rfl, hb⟩
  have hT : w26.cell? ⟨w23.heap.size, 0, none⟩ = some (.int .i64 (raM m l ls t)) ∧ w26.cell? ⟨w23.heap.size, 1, none⟩ = some (.slice A11 (raV m l ls t).length c11) ∧ w26.ownsRow (b11) 42 10 (.slice A11 (raV m l ls t).length c11) ((raV m l ls t).length) (hds (raV m l ls t)) ∧ w26.ownsRow (b10) 9 1 (.slice A10 ls.length c10) (ls.length) (strs ls) ∧ w26.ownsRow (b9) 42 10 (.slice A9 l.length c9) (l.length) (hds l) ∧ w26.ownsRow (b8) 9 1 (.slice A8 ls.length c8) (ls.length) (strs ls) ∧ w26.ownsRow (b7) 42 10 (.slice A7 l.length c7) (l.length) (hds l) ∧ w26.cell? ⟨w9.heap.size, 0, none⟩ = some (.int .i64 (raM m l ls t)) ∧ w26.cell? ⟨w9.heap.size, 1, none⟩ = some (.slice A6 (raV m l ls t).length c6) ∧ w26.ownsRow (b6) 42 10 (.slice A6 (raV m l ls t).length c6) ((raV m l ls t).length) (hds (mkL (raV m l ls t).length 1)) ∧ w26.ownsRow (b5) 9 1 (.slice A5 ls.length c5) (ls.length) (ys) ∧ w26.cell? ⟨w6.heap.size, 0, none⟩ = some (.int .i64 m) ∧ w26.cell? ⟨w6.heap.size, 1, none⟩ = some (.slice A4 l.length c4) ∧ w26.ownsRow (b4) 42 10 (.slice A4 l.length c4) (l.length) (hds (mkL (l).length 1)) ∧ w26.cell? ⟨w4.heap.size, 0, none⟩ = some (.int .i64 (raM m l ls t)) ∧ w26.cell? ⟨w4.heap.size, 1, none⟩ = some (.slice A3 (raV m l ls t).length c3) ∧ w26.ownsRow (b3) 42 10 (.slice A3 (raV m l ls t).length c3) ((raV m l ls t).length) (hds (raV m l ls t)) ∧ w26.ownsRow (b2) 9 1 (.slice A2 ls.length c2) (ls.length) (strs ls) ∧ w26.ownsRow (b1) 42 10 (.slice A1 l.length c1) (l.length) (hds l) ∧ w26.cell? ⟨w.heap.size, 0, none⟩ = some (.int .i64 m) ∧ w26.cell? ⟨w.heap.size, 1, none⟩ = some (.slice A l.length c) ∧ Below w.heap.size w w26 := ⟨keep_cell (hb) hS.1, keep_cell (hb) hS.2.1, own_below hS.2.2.1 (hb), own_below hS.2.2.2.1 (hb), own_below hS.2.2.2.2.1 (hb), own_below hS.2.2.2.2.2.1 (hb), own_below hS.2.2.2.2.2.2.1 (hb), keep_cell (hb) hS.2.2.2.2.2.2.2.1, keep_cell (hb) hS.2.2.2.2.2.2.2.2.1, own_below hS.2.2.2.2.2.2.2.2.2.1 (hb), own_below hS.2.2.2.2.2.2.2.2.2.2.1 (hb), keep_cell (hb) hS.2.2.2.2.2.2.2.2.2.2.2.1, keep_cell (hb) hS.2.2.2.2.2.2.2.2.2.2.2.2.1, own_below hS.2.2.2.2.2.2.2.2.2.2.2.2.2.1 (hb), keep_cell (hb) hS.2.2.2.2.2.2.2.2.2.2.2.2.2.2.1, keep_cell (hb) hS.2.2.2.2.2.2.2.2.2.2.2.2.2.2.2.1, own_below hS.2.2.2.2.2.2.2.2.2.2.2.2.2.2.2.2.1 (hb), own_below hS.2.2.2.2.2.2.2.2.2.2.2.2.2.2.2.2.2.1 (hb), own_below hS.2.2.2.2.2.2.2.2.2.2.2.2.2.2.2.2.2.2.1 (hb), keep_cell (hb) hS.2.2.2.2.2.2.2.2.2.2.2.2.2.2.2.2.2.2.2.1, keep_cell (hb) hS.2.2.2.2.2.2.2.2.2.2.2.2.2.2.2.2.2.2.2.2.1, below_via hS.2.2.2.2.2.2.2.2.2.2.2.2.2.2.2.2.2.2.2.2.2 (hb)⟩
  (try clear hS)
  have hS := hT
  clear hT
  have hB := hS.2.2.2.2.2.2.2.2.2.2.2.2.2.2.2.2.2.2.2.2.2
  have hzw : w.heap.size ≤ w26.heap.size := hB.size
  have hz1 : w23.heap.size < w26.heap.size := World.block_lt_of_cell? w26 _ (hS.1)
  have hz2 : w9.heap.size < w26.heap.size := World.block_lt_of_cell? w26 _ (hS.2.2.2.2.2.2.2.1)
  have hz3 : w6.heap.size < w26.heap.size := World.block_lt_of_cell? w26 _ (hS.2.2.2.2.2.2.2.2.2.2.2.1)
  have hz4 : w4.heap.size < w26.heap.size := World.block_lt_of_cell? w26 _ (hS.2.2.2.2.2.2.2.2.2.2.2.2.2.2.1)
  have hz5 : w.heap.size < w26.heap.size := World.block_lt_of_cell? w26 _ (hS.2.2.2.2.2.2.2.2.2.2.2.2.2.2.2.2.2.2.2.1)
  clear hb
  go_wp2
  go_returns
  exact ⟨ret_eq (by simp), hB⟩
end Go.Proofs.Ytbeojfhakmbacaa
namespace Go.Proofs.Ytbeojfhakmbacaa
open Go.RowKit Go.WideShapes Go.ChangeShapes Go.ChangeAt Go.Joins Go.Deep
set_option maxRecDepth 100000 in
theorem fnExactReceiveAll_holds : Rows.FnExactReceiveAllSaid :=
  OpenClaim.holds_of_wide 12 Try.f12 rfl rfl rfl rfl rfl rfl rfl ⟨rfl, rfl, rfl, rfl, rfl⟩ rfl rfl rfl rfl rfl (by kernel_rfl) Try.func12 (by kernel_rfl)
    (of_decide_eq_true (by kernel_rfl)) (by unfold Func.isWrapper; rw [if_neg (by decide +kernel)]; exact ⟨rfl, rfl⟩)
    (fun os started H enc _ => law_lift (C := Try.checked) (s := Rows.fnExactReceiveAllSpec) (tb := 4) Try.laidOut Try.own started (by kernel_rfl) Try.func12
      (ChangeSpec.witness6 (enc := enc) (C := Try.checked) false ⟨#[], #[.agg #[.int .i64 0, .slice none 0 0], .slice none 0 0, .int .i64 0], []⟩ 8 (by kernel_rfl) (by kernel_rfl) (by kernel_rfl) (by kernel_rfl))
      rfl rfl Try.underlying4 (by intro t ht; simp [Try.params12] at ht; rcases ht with rfl | rfl | rfl <;> exact ⟨by kernel_rfl, of_decide_eq_true (by kernel_rfl)⟩)
      (by intro ds hl; match ds, hl with | [d0, d1, d2], _ => rfl)
      (by
        intro W base args ds ps hval hA hlt hsz
        rw [Try.params12] at hA hval hsz
        obtain ⟨v0, v1, v2, d0, d1, d2, p0, p1, p2, rfl, rfl, rfl, h0, h1, h2⟩ := trodAll_three hA
        obtain ⟨m0, A0, c0, l0, rfl, r0, bm0, q0, p0⟩ := open_recv (hval 0 59 v0 rfl rfl) h0
        obtain ⟨A1, c1, l1, rfl, r1, _, bm1, hs1⟩ := open_strs Try.underlying71 Try.underlying9 (by kernel_rfl) (hval 1 71 v1 rfl rfl) h1
        obtain ⟨x2, rfl, bx2⟩ := open_one Try.underlying3 (hval 2 3 v2 rfl rfl) h2
        exact fnReceiveAll m0 A0 c0 l0 A1 c1 l1 x2 W (hide r0) (by omega) (hide r1) (by omega) (hide hs1)))
#print axioms fnExactReceiveAll_holds
end Go.Proofs.Ytbeojfhakmbacaa
