/- Contracts: lists of numbers in the laws. -/
import Derived.Test.YtbeojfhakmbacaaReB
namespace Go.Proofs.Ytbeojfhakmbacaa
open Go.RowKit

theorem own_cell_up {w w' : World} {v : Value} (hg : w.grownBy w' v.ownBlock) {a : Addr} {u : Value} (hc : w.cell? a = some u) (hn : ∀ g, v.ownBlock = some g → g ≠ a.block) : w'.cell? a = some u := hg.cell hc fun e => hn _ e.symm rfl

theorem eqIntS_c (A1 A2 : Option Addr) (c1 c2 : Nat) (l1 l2 : List Int) (w : World) (h1 : Hid (Reads w w.heap.size 1 A1 l1.length (ints l1))) (h2 : Hid (Reads w w.heap.size 1 A2 l2.length (ints l2))) (b1 : l1.length ≤ 4000000) (b2 : l2.length ≤ 4000000)  : Calls Try.prog 41 #[.slice A1 l1.length c1, .slice A2 l2.length c2] w (Gives w (.bool (decide (l1 = l2)))) := by
  by_cases he : l1.length = l2.length
  rotate_left
  · have HF := hide (show decide (l1 = l2) = false from decide_eq_false (len_ne he))
    have hb : ((l1.length : Int) != (l2.length : Int)) = true := by simp; omega
    go_enter Try.func41, Try.ntmps41
    go_wp2
    go_returns
    exact ⟨ret_eq (by rw [HF.out]; simp), by go_grown⟩
  obtain ⟨n, hn⟩ : ∃ n, l1.length = n := ⟨_, rfl⟩
  have hn2 : l2.length = n := by omega
  clear he
  rw [hn] at b1 h1 ⊢
  rw [hn2] at b2 h2 ⊢
  have Hn := hide hn
  have Hn2 := hide hn2
  clear hn hn2
  go_enter Try.func41, Try.ntmps41
  go_wp2
  go_loopw [5] (fun iv wr => ∃ (i : Nat), i ≤ n ∧ iv = .int .i64 i ∧ Hid (l1.take i = l2.take i) ∧ Below w.heap.size w wr) (fun iv _ => n - (intOf iv).toNat)
  case atStart => exact ⟨0, by omega, rfl, hide rfl, Below.refl _ _⟩
  case round =>
    obtain ⟨i, hi, rfl, H, hB⟩ := hrel
    by_cases hlt : i < n
    · have hl1 : i < l1.length := by have := Hn.out; omega
      have hl2 : i < l2.length := by have := Hn2.out; omega
      obtain ⟨a1, rfl, ekb, ex⟩ := (h1.out.below hB).num (k := i) (by omega)
      obtain ⟨a2, rfl, fkb, fx⟩ := (h2.out.below hB).num (k := i) (by omega)
      by_cases hc : nth l1 i = nth l2 i
      · have HS := hide (num_step H.out hl1 hl2 hc)
        clear hl1 hl2
        have hcb : (nth l1 i != nth l2 i) = false := by simp [hc]
        clear hc
        go_wp2
        refine wp_region_det (fun w' => w'.cell? (a1.add i) = some (.int .i64 (nth l1 i)) ∧ w'.cell? (a2.add i) = some (.int .i64 (nth l2 i)) ∧ Below w.heap.size w w') (by kernel_rfl) (by kernel_rfl) (by first | (with_reducible assumption) | (exact hS) | (exact ⟨hS.1, hS.2.1, (by go_grown)⟩) | (exact ⟨(by first | (with_reducible assumption) | (simp [go_sem]; done) | ((simp only [go_sem]); (with_reducible assumption)) | ((refine keep_cell ?_ (by with_reducible assumption)); go_grown; done) | (simp [go_sem, *]; done)), (by first | (with_reducible assumption) | (simp [go_sem]; done) | ((simp only [go_sem]); (with_reducible assumption)) | ((refine keep_cell ?_ (by with_reducible assumption)); go_grown; done) | (simp [go_sem, *]; done)), (by go_grown)⟩)) ?_
        repeat (first
          | ((refine wpDet_skip (by rfl) ?_); simp only [Act.put, List.setIfInBounds_toArray, List.set_cons_zero, List.set_cons_succ])
          | ((refine wpDet_val (v := ?_) (by rfl) (fun w hS => ?_) ?_); rotate_left; (focus ((try dsimp only at hS); go_simp; (try (with_reducible rfl)); done)); simp only [Act.put, List.setIfInBounds_toArray, List.set_cons_zero, List.set_cons_succ]))
        refine wpDet_nil ?_
        intro w1 hS
        have hT : w1.cell? (a1.add i) = some (.int .i64 (nth l1 i)) ∧ w1.cell? (a2.add i) = some (.int .i64 (nth l2 i)) ∧ Below w.heap.size w w1 := hS
        clear hS
        have hS := hT
        obtain ⟨c0, c1, hB⟩ := hT
        have hzw : w.heap.size ≤ w1.heap.size := hB.size
        go_wp2
        go_roundw
        case rel => exact ⟨i + 1, by omega, by go_num, HS, by go_grown⟩
        case measure => simp [intOf]; omega
      have HF := hide (show decide (l1 = l2) = false from decide_eq_false (num_ne hc))
      have hcb : (nth l1 i != nth l2 i) = true := by simp [hc]
      clear hc hl1 hl2
      go_wp2
      refine wp_region_det (fun w' => w'.cell? (a1.add i) = some (.int .i64 (nth l1 i)) ∧ w'.cell? (a2.add i) = some (.int .i64 (nth l2 i)) ∧ Below w.heap.size w w') (by kernel_rfl) (by kernel_rfl) (by first | (with_reducible assumption) | (exact hS) | (exact ⟨hS.1, hS.2.1, (by go_grown)⟩) | (exact ⟨(by first | (with_reducible assumption) | (simp [go_sem]; done) | ((simp only [go_sem]); (with_reducible assumption)) | ((refine keep_cell ?_ (by with_reducible assumption)); go_grown; done) | (simp [go_sem, *]; done)), (by first | (with_reducible assumption) | (simp [go_sem]; done) | ((simp only [go_sem]); (with_reducible assumption)) | ((refine keep_cell ?_ (by with_reducible assumption)); go_grown; done) | (simp [go_sem, *]; done)), (by go_grown)⟩)) ?_
      repeat (first
        | ((refine wpDet_skip (by rfl) ?_); simp only [Act.put, List.setIfInBounds_toArray, List.set_cons_zero, List.set_cons_succ])
        | ((refine wpDet_val (v := ?_) (by rfl) (fun w hS => ?_) ?_); rotate_left; (focus ((try dsimp only at hS); go_simp; (try (with_reducible rfl)); done)); simp only [Act.put, List.setIfInBounds_toArray, List.set_cons_zero, List.set_cons_succ]))
      refine wpDet_nil ?_
      intro w1 hS
      have hT : w1.cell? (a1.add i) = some (.int .i64 (nth l1 i)) ∧ w1.cell? (a2.add i) = some (.int .i64 (nth l2 i)) ∧ Below w.heap.size w w1 := hS
      clear hS
      have hS := hT
      obtain ⟨c0, c1, hB⟩ := hT
      have hzw : w.heap.size ≤ w1.heap.size := hB.size
      go_wp2
      go_returns
      exact ⟨ret_eq (by rw [HF.out]; simp), by go_grown⟩
    obtain rfl : i = n := by omega
    have HF := hide (show decide (l1 = l2) = true from decide_eq_true (num_all (by rw [Hn.out]; exact H.out) (by rw [Hn.out, Hn2.out])))
    go_wp2
    go_returns
    exact ⟨ret_eq (by rw [HF.out]; simp), by go_grown⟩

theorem markIntS_c (A : Option Addr) (c n base : Nat) (xs : List Value) (k : Int) (w : World) (hown : Hid (w.ownsRow base 3 1 (.slice A n c) n xs)) (bn : n ≤ 4000000) (b2 : 0 ≤ k) (b3 : k ≤ 100000000)  : Calls Try.prog 42 #[.slice A n c, .int .i64 k] w (fun e w' => e = .returned (.int .i64 (k + (n : Nat))) ∧ w'.ownsRow base 3 1 (.slice A n c) n (seqV n k) ∧ w.grownBy w' (Value.ownBlock (.slice A n c))) := by
  have HX := hide (show xs.length = n from by have := hown.out.1; omega)
  by_cases hz : n = 0
  · subst hz
    have HXN := hide (List.eq_nil_of_length_eq_zero (by have := HX.out; omega) : xs = [])
    go_enter Try.func42, Try.ntmps42
    go_wp2
    go_loop [1, 5] (fun kv iv => kv = .int .i64 k ∧ iv = .int .i64 0) (fun _ _ => 0)
    case atStart => exact ⟨rfl, rfl⟩
    case round =>
      obtain ⟨rfl, rfl⟩ := hrel
      go_wp2
      go_returns
      exact ⟨ret_eq (by simp), by have h9 := hown.out; rw [HXN.out] at h9; exact h9, World.grownBy.refl _ _⟩
  obtain ⟨g, rfl, hg0, hg1⟩ := own_at hown.out hz
  go_enter Try.func42, Try.ntmps42
  go_wp2
  go_loopw [1, 5] (fun kv iv wr => ∃ i : Nat, i ≤ n ∧ iv = .int .i64 i ∧ kv = .int .i64 (k + (i : Nat)) ∧ Hid (wr.ownsRow base 3 1 (.slice (some ⟨g, 0, none⟩) n c) n (seqV i k ++ xs.drop i)) ∧ Hid (w.grownBy wr (some g))) (fun _ iv _ => n - (intOf iv).toNat)
  case atStart => exact ⟨0, by omega, rfl, by go_num, hide (by simpa [seqV] using hown.out), hide (World.grownBy.refl _ _)⟩
  case round =>
    obtain ⟨i, hi, rfl, rfl, hw, hgr⟩ := hrel
    by_cases hlt : i < n
    · obtain ⟨⟨u, hcell⟩, hfr, H1, H2⟩ := mark_own1 hw.out hlt HX.out
      have H3 := hide H1
      have H4 := hide (grown_trans hgr.out H2)
      clear H1 H2
      go_wp2
      go_roundw
      case rel => exact ⟨i + 1, by omega, by go_num, by go_num, H3, H4⟩
      case measure => simp [intOf]; omega
    obtain rfl : i = n := by omega
    have HD := hide (show xs.drop i = [] from List.drop_eq_nil_of_le (by have := HX.out; omega))
    go_wp2
    go_returns
    exact ⟨rfl, by have h9 := hw.out; rw [HD.out, List.append_nil] at h9; exact h9, hgr.out⟩

theorem heldIntS_c (A : Option Addr) (c n : Nat) (k : Int) (w : World) (h1 : Hid (Reads w w.heap.size 1 A n (seqV n k))) (bn : n ≤ 4000000) (b2 : 0 ≤ k) (b3 : k ≤ 100000000)  : Calls Try.prog 43 #[.slice A n c, .int .i64 k] w (fun e w' => e = .returned (.int .i64 (k + (n : Nat))) ∧ w = w') := by
  go_enter Try.func43, Try.ntmps43
  go_wp2
  go_loop [1, 5] (fun kv iv => ∃ i : Nat, i ≤ n ∧ iv = .int .i64 i ∧ kv = .int .i64 (k + (i : Nat))) (fun _ iv => n - (intOf iv).toNat)
  case atStart => exact ⟨0, by omega, rfl, by go_num⟩
  case round =>
    obtain ⟨i, hi, rfl, rfl⟩ := hrel
    obtain ⟨q, hq⟩ : ∃ q, k + (i : Nat) = q := ⟨_, rfl⟩
    rw [hq]
    have q0 : 0 ≤ q := by omega
    have q1 : q ≤ 200000000 := by omega
    by_cases hlt : i < n
    · obtain ⟨ad, rfl, hb, hc⟩ := h1.out.one hlt (seqV_at k hlt)
      rw [hq] at hc
      have HQ := hide hq
      clear hq
      go_wp2
      go_round
      case rel => exact ⟨i + 1, by omega, by go_num, int_eq (by have := HQ.out; omega)⟩
      case measure => simp [intOf]; omega
    obtain rfl : i = n := by omega
    have HQ := hide hq
    clear hq
    go_wp2
    go_returns
    exact ⟨ret_eq (int_eq (by have := HQ.out; omega)), rfl⟩
end Go.Proofs.Ytbeojfhakmbacaa
