/- Contracts: a number put behind an ascending list. -/
import Derived.Test.YtpabfkodlgglcaaPwA
import Derived.Test.YtpabfkodlgglcaaFloat
import Derived.Test.YtpabfkodlgglcaaApp
import Derived.Test.YtpabfkodlgglcaaProg
namespace Go.Proofs.Ytpabfkodlgglcaa
open Go.RowKit

theorem infoInt : (Try.prog.info? 3).map (fun i => (i.zero, i.size, i.bytes)) = some (some (.int .i64 0), 1, 8) := by kernel_rfl

set_option maxHeartbeats 2000000 in
theorem putSame_c (w : World) (base : Nat) (B : Option Addr) (L : List Int) (d : Nat) (n : Int) (hown : Hid (w.ownsRow base 3 1 (.slice B L.length d) L.length (ints L))) (b1 : L.length ≤ 4000000) (hbase : base ≤ w.heap.size) (hl : Hid (∃ j, L.length = j + 1 ∧ nth L j = n))  : Calls Try.prog 78 #[.slice B L.length d, .int .i64 n] w (fun e w' => e = .returned (.slice B L.length d) ∧ w = w') := by
  obtain ⟨i0, hi0, iz0, iy0, ix0⟩ := info_parts infoInt
  have hcp : ∀ (A1 A2 : Option Addr) (c1 c2 l2 : Nat) (ty : TypeId) (W : World), (Builtin.copy_ #[81, 81] ty #[.slice A1 0 c1, .slice A2 l2 c2]).run Try.prog W = .ok (goInt 0) W := fun A1 A2 c1 c2 l2 ty W => run_copy_none W 81 81 ty 3 A1 A2 0 c1 l2 c2 Try.underlying81 (by rw [hi0]; simp [iy0]) (by simp)
  have hcap := own_cap hown.out
  obtain ⟨j, hj, hq⟩ := hl.out
  obtain ⟨N, hN⟩ : ∃ N, L.length = N := ⟨_, rfl⟩
  rw [hN] at hown hcap b1 ⊢
  have hjl : j < L.length := by omega
  have hNj : N = j + 1 := by omega
  obtain ⟨g, rfl, hg0, hg1⟩ := own_at hown.out (by omega)
  have hcl := hown.out.cellAt j (show j < N * 1 by omega)
  rw [ints_at L j hjl, hq] at hcl
  have e1 : IntKind.i64.wrap ((N : Int) - 1) = (j : Int) := by rw [IntWalk.i64_in _ (by omega)]; omega
  have t1 : decide (n < n) = false := decide_eq_false (by omega)
  have t2 : (n == n) = true := beq_self_eq_true _
  have t3 : decide ((0 : Int) < (N : Int)) = true := decide_eq_true (by omega)
  have t4 : (0 : Int) < (N : Int) := by omega
  have hjN : j < N := by omega
  clear hN hNj hjl hq
  go_enter Try.func78, Try.ntmps78
  go_wp2
  go_loop [5] (fun kv => kv = .int .i64 N) (fun _ => 0)
  case atStart => exact rfl
  case round =>
    obtain rfl := hrel
    go_wp2
    go_returns
    exact ⟨rfl, rfl⟩

set_option maxHeartbeats 2000000 in
theorem putNew_c (w : World) (base : Nat) (B : Option Addr) (L : List Int) (d : Nat) (n : Int) (hown : Hid (w.ownsRow base 3 1 (.slice B L.length d) L.length (ints L))) (b1 : L.length ≤ 4000000) (hbase : base ≤ w.heap.size) (hl : Hid (∀ j, L.length = j + 1 → nth L j < n))  : Calls Try.prog 78 #[.slice B L.length d, .int .i64 n] w (fun e w' => ∃ (B' : Option Addr) (d' : Nat), e = .returned (.slice B' (L.length + 1) d') ∧ w'.ownsRow base 3 1 (.slice B' (L.length + 1) d') (L.length + 1) (ints (L ++ [n])) ∧ Below base w w') := by
  obtain ⟨i0, hi0, iz0, iy0, ix0⟩ := info_parts infoInt
  have hcp : ∀ (A1 A2 : Option Addr) (c1 c2 l2 : Nat) (ty : TypeId) (W : World), (Builtin.copy_ #[81, 81] ty #[.slice A1 0 c1, .slice A2 l2 c2]).run Try.prog W = .ok (goInt 0) W := fun A1 A2 c1 c2 l2 ty W => run_copy_none W 81 81 ty 3 A1 A2 0 c1 l2 c2 Try.underlying81 (by rw [hi0]; simp [iy0]) (by simp)
  have hcap := own_cap hown.out
  by_cases hz : L.length = 0
  · rw [hz] at hown hcap b1 ⊢
    go_enter Try.func78, Try.ntmps78
    go_wp2
    go_loop [5] (fun kv => kv = .int .i64 0) (fun _ => 0)
    case atStart => exact rfl
    case round =>
      obtain rfl := hrel
      go_wp2_with (first | (at_builtin; refine wpList_append_lies _ rfl _ _ 81 rfl (base) 3 i0 (.int .i64 0) 1 8 Try.underlying81 hi0 iz0 iy0 ix0 rfl (by decide) _ 0 _ rfl (hown.out.alloc _) ⟨w.heap.size, 0, none⟩ 1 1 [.int .i64 0] rfl rfl (news_one (by simp [go_sem])) (by intro u hu; simp at hu; subst hu; rfl) (by decide) (by unfold maxLen; omega) (by omega) (by first | (simp [go_sem]; done) | (simp [go_sem]; omega)) _ rfl ?_; intro g cap w2 hown2 hgrow _ _; have hT : Below base w w2 := own_grown (a := w) (B := base) ((hown.out.alloc _)) hgrow (by go_grown) (by first | (simp [go_sem]; done) | (simp [go_sem]; omega)) (by omega); (try clear hS hB hzw hgrow); have hS := hT; clear hT; have hB := hS; have hzw : w.heap.size ≤ w2.heap.size := hB.size))
      have hcap2 := own_cap hown2
      have hgx : base ≤ g ∧ g < w2.heap.size := by
        obtain ⟨g2, e, h1, h2⟩ := own_at hown2 (by omega)
        injection e with e
        injection e with e
        subst e
        exact ⟨h1, h2⟩
      obtain ⟨hgx1, hgx2⟩ := hgx
      have HO2 := hide hown2
      clear hown2
      have HFIN := hide (show (ints L ++ [Value.int .i64 0]).set 0 (.int .i64 n) = ints (L ++ [n]) from by rw [set_mid _ _ _ _ (by rw [ints_len]; omega), ints_snoc])
      have ewN : IntKind.i64.wrap 1 = 1 := IntWalk.i64_in _ (by omega)
      by_cases hc1 : 0 + 1 = cap
      · subst hc1
        refine wp_region_det (fun w' => w'.ownsRow (base) 3 1 (.slice (some ⟨g, 0, none⟩) (0 + 1) (0 + 1)) (0 + 1) (ints L ++ [Value.int .i64 0]) ∧ Below base w w') (by kernel_rfl) (by kernel_rfl) ⟨own_below HO2.out (by go_grown), (by go_grown)⟩ ?_
        repeat (first
          | ((refine wpDet_skip (by rfl) ?_); simp only [Act.put, List.setIfInBounds_toArray, List.set_cons_zero, List.set_cons_succ])
          | ((refine wpDet_val (v := ?_) (by rfl) (fun w hS => ?_) ?_); rotate_left; (focus ((try dsimp only at hS); go_simp; (try (with_reducible rfl)); done)); simp only [Act.put, List.setIfInBounds_toArray, List.set_cons_zero, List.set_cons_succ]))
        refine wpDet_nil ?_
        intro w3 hS
        have hT : w3.ownsRow (base) 3 1 (.slice (some ⟨g, 0, none⟩) (0 + 1) (0 + 1)) (0 + 1) (ints L ++ [Value.int .i64 0]) ∧ Below base w w3 := hS
        clear hS
        have hS := hT
        obtain ⟨c0, hB⟩ := hT
        have hzw : w.heap.size ≤ w3.heap.size := hB.size
        have hst := hide (hS.1.stored 0 (.int .i64 n)).1
        obtain ⟨u, hcell⟩ : ∃ u, w3.cell? ⟨g, 0, none⟩ = some u := ⟨_, (hS.1.cellAt 0 (show 0 < (0 + 1) * 1 by omega)).trans (List.getElem?_eq_getElem (by first | (simp [ints_len]; done) | (simp [ints_len]; omega)))⟩
        have hfr := hS.1.frozenAt 0
        go_wp2
        go_returns
        exact ⟨_, _, rfl, by rw [← HFIN.out]; exact hst.out, hB.setCell (p := ⟨g, 0, none⟩) hgx1 _⟩
      · have hc2 : 0 + 1 < cap := by omega
        refine wp_region_det (fun w' => w'.ownsRow (base) 3 1 (.slice (some ⟨g, 0, none⟩) (0 + 1) cap) (0 + 1) (ints L ++ [Value.int .i64 0]) ∧ Below base w w') (by kernel_rfl) (by kernel_rfl) ⟨own_below HO2.out (by go_grown), (by go_grown)⟩ ?_
        repeat (first
          | ((refine wpDet_skip (by rfl) ?_); simp only [Act.put, List.setIfInBounds_toArray, List.set_cons_zero, List.set_cons_succ])
          | ((refine wpDet_val (v := ?_) (by rfl) (fun w hS => ?_) ?_); rotate_left; (focus ((try dsimp only at hS); go_simp; (try (with_reducible rfl)); done)); simp only [Act.put, List.setIfInBounds_toArray, List.set_cons_zero, List.set_cons_succ]))
        refine wpDet_nil ?_
        intro w3 hS
        have hT : w3.ownsRow (base) 3 1 (.slice (some ⟨g, 0, none⟩) (0 + 1) cap) (0 + 1) (ints L ++ [Value.int .i64 0]) ∧ Below base w w3 := hS
        clear hS
        have hS := hT
        obtain ⟨c0, hB⟩ := hT
        have hzw : w.heap.size ≤ w3.heap.size := hB.size
        have hst := hide (hS.1.stored 0 (.int .i64 n)).1
        obtain ⟨u, hcell⟩ : ∃ u, w3.cell? ⟨g, 0, none⟩ = some u := ⟨_, (hS.1.cellAt 0 (show 0 < (0 + 1) * 1 by omega)).trans (List.getElem?_eq_getElem (by first | (simp [ints_len]; done) | (simp [ints_len]; omega)))⟩
        have hfr := hS.1.frozenAt 0
        go_wp2
        go_returns
        exact ⟨_, _, rfl, by rw [← HFIN.out]; exact hst.out, hB.setCell (p := ⟨g, 0, none⟩) hgx1 _⟩
  obtain ⟨j, hj⟩ : ∃ j, L.length = j + 1 := ⟨L.length - 1, by omega⟩
  have hq := hl.out j hj
  obtain ⟨q, hqq⟩ : ∃ q, nth L j = q := ⟨_, rfl⟩
  rw [hqq] at hq
  obtain ⟨N, hN⟩ : ∃ N, L.length = N := ⟨_, rfl⟩
  rw [hN] at hown hcap b1 hz ⊢
  have hjl : j < L.length := by omega
  have hNj : N = j + 1 := by omega
  obtain ⟨g0, rfl, hg0, hg1⟩ := own_at hown.out (by omega)
  have hcl := hown.out.cellAt j (show j < N * 1 by omega)
  rw [ints_at L j hjl, hqq] at hcl
  have e1 : IntKind.i64.wrap ((N : Int) - 1) = (j : Int) := by rw [IntWalk.i64_in _ (by omega)]; omega
  have t1 : decide (n < q) = false := decide_eq_false (by omega)
  have t2 : (q == n) = false := beq_eq_false_iff_ne.2 (by omega)
  have t3 : decide ((0 : Int) < (N : Int)) = true := decide_eq_true (by omega)
  have t4 : (0 : Int) < (N : Int) := by omega
  have hjN : j < N := by omega
  clear hqq hj hjl hNj hq
  go_enter Try.func78, Try.ntmps78
  go_wp2
  go_loop [5] (fun kv => kv = .int .i64 N) (fun _ => 0)
  case atStart => exact rfl
  case round =>
    obtain rfl := hrel
    go_wp2_with (first | (at_builtin; refine wpList_append_lies _ rfl _ _ 81 rfl (base) 3 i0 (.int .i64 0) 1 8 Try.underlying81 hi0 iz0 iy0 ix0 rfl (by decide) _ N _ rfl (hown.out.alloc _) ⟨w.heap.size, 0, none⟩ 1 1 [.int .i64 0] rfl rfl (news_one (by simp [go_sem])) (by intro u hu; simp at hu; subst hu; rfl) (by decide) (by unfold maxLen; omega) (by omega) (by first | (simp [go_sem]; done) | (simp [go_sem]; omega)) _ rfl ?_; intro g cap w2 hown2 hgrow _ _; have hT : Below base w w2 := own_grown (a := w) (B := base) ((hown.out.alloc _)) hgrow (by go_grown) (by first | (simp [go_sem]; done) | (simp [go_sem]; omega)) (by omega); (try clear hS hB hzw hgrow); have hS := hT; clear hT; have hB := hS; have hzw : w.heap.size ≤ w2.heap.size := hB.size))
    have hcap2 := own_cap hown2
    have hgx : base ≤ g ∧ g < w2.heap.size := by
      obtain ⟨g2, e, h1, h2⟩ := own_at hown2 (by omega)
      injection e with e
      injection e with e
      subst e
      exact ⟨h1, h2⟩
    obtain ⟨hgx1, hgx2⟩ := hgx
    have HO2 := hide hown2
    clear hown2
    have HFIN := hide (show (ints L ++ [Value.int .i64 0]).set N (.int .i64 n) = ints (L ++ [n]) from by rw [set_mid _ _ _ _ (by rw [ints_len]; omega), ints_snoc])
    have ewN : IntKind.i64.wrap ((N : Int) + 1) = (N : Int) + 1 := IntWalk.i64_in _ (by omega)
    have qN : (0 : Int) ≤ (N : Int) + 1 := by omega
    have qN2 : (0 : Int) ≤ (N : Int) := by omega
    have qN3 : (N : Int) ≤ (N : Int) + 1 := by omega
    have qN4 : ¬ N = cap := by omega
    by_cases hc1 : N + 1 = cap
    · subst hc1
      refine wp_region_det (fun w' => w'.ownsRow (base) 3 1 (.slice (some ⟨g, 0, none⟩) (N + 1) (N + 1)) (N + 1) (ints L ++ [Value.int .i64 0]) ∧ Below base w w') (by kernel_rfl) (by kernel_rfl) ⟨own_below HO2.out (by go_grown), (by go_grown)⟩ ?_
      repeat (first
        | ((refine wpDet_skip (by rfl) ?_); simp only [Act.put, List.setIfInBounds_toArray, List.set_cons_zero, List.set_cons_succ])
        | ((refine wpDet_val (v := ?_) (by rfl) (fun w hS => ?_) ?_); rotate_left; (focus ((try dsimp only at hS); go_simp; (try (with_reducible rfl)); done)); simp only [Act.put, List.setIfInBounds_toArray, List.set_cons_zero, List.set_cons_succ]))
      refine wpDet_nil ?_
      intro w3 hS
      have hT : w3.ownsRow (base) 3 1 (.slice (some ⟨g, 0, none⟩) (N + 1) (N + 1)) (N + 1) (ints L ++ [Value.int .i64 0]) ∧ Below base w w3 := hS
      clear hS
      have hS := hT
      obtain ⟨c0, hB⟩ := hT
      have hzw : w.heap.size ≤ w3.heap.size := hB.size
      have hst := hide (hS.1.stored N (.int .i64 n)).1
      obtain ⟨u, hcell⟩ : ∃ u, w3.cell? ⟨g, N, none⟩ = some u := ⟨_, (hS.1.cellAt N (show N < (N + 1) * 1 by omega)).trans (List.getElem?_eq_getElem (by first | (simp [ints_len]; done) | (simp [ints_len]; omega)))⟩
      have hfr := hS.1.frozenAt N
      go_wp2
      go_returns
      exact ⟨_, _, rfl, by rw [← HFIN.out]; exact hst.out, hB.setCell (p := ⟨g, N, none⟩) hgx1 _⟩
    · have hc2 : N + 1 < cap := by omega
      refine wp_region_det (fun w' => w'.ownsRow (base) 3 1 (.slice (some ⟨g, 0, none⟩) (N + 1) cap) (N + 1) (ints L ++ [Value.int .i64 0]) ∧ Below base w w') (by kernel_rfl) (by kernel_rfl) ⟨own_below HO2.out (by go_grown), (by go_grown)⟩ ?_
      repeat (first
        | ((refine wpDet_skip (by rfl) ?_); simp only [Act.put, List.setIfInBounds_toArray, List.set_cons_zero, List.set_cons_succ])
        | ((refine wpDet_val (v := ?_) (by rfl) (fun w hS => ?_) ?_); rotate_left; (focus ((try dsimp only at hS); go_simp; (try (with_reducible rfl)); done)); simp only [Act.put, List.setIfInBounds_toArray, List.set_cons_zero, List.set_cons_succ]))
      refine wpDet_nil ?_
      intro w3 hS
      have hT : w3.ownsRow (base) 3 1 (.slice (some ⟨g, 0, none⟩) (N + 1) cap) (N + 1) (ints L ++ [Value.int .i64 0]) ∧ Below base w w3 := hS
      clear hS
      have hS := hT
      obtain ⟨c0, hB⟩ := hT
      have hzw : w.heap.size ≤ w3.heap.size := hB.size
      have hst := hide (hS.1.stored N (.int .i64 n)).1
      obtain ⟨u, hcell⟩ : ∃ u, w3.cell? ⟨g, N, none⟩ = some u := ⟨_, (hS.1.cellAt N (show N < (N + 1) * 1 by omega)).trans (List.getElem?_eq_getElem (by first | (simp [ints_len]; done) | (simp [ints_len]; omega)))⟩
      have hfr := hS.1.frozenAt N
      go_wp2
      go_returns
      exact ⟨_, _, rfl, by rw [← HFIN.out]; exact hst.out, hB.setCell (p := ⟨g, N, none⟩) hgx1 _⟩
end Go.Proofs.Ytpabfkodlgglcaa
