/- Contracts: a site less. -/
import Derived.Test.YtnocgcfepkdjeaaSiG
import Derived.Test.YtnocgcfepkdjeaaSeq
namespace Go.Proofs.Ytnocgcfepkdjeaa
open Go.RowKit

set_option maxHeartbeats 1000000 in
theorem sDrop_c (A : Option Addr) (c : Nat) (l : List Pt) (i : Int) (w : World) (h1 : Hid (Reads w w.heap.size 2 A l.length (flat l))) (b1 : l.length ≤ 4000000) (hc : l.length ≤ c)  : Calls Try.prog 39 #[.slice A l.length c, .int .i64 i] w (GivesS w 32 2 (drpV l i).length (flat (drpV l i)) (fun v => .tuple #[v, .bool (drpK l i)])) := by
  rcases k1 : okS l with _ | _
  · have HK := hide (show drpK l i = false from by simp [drpK, k1])
    have HV := hide (show drpV l i = [] from by unfold drpV; rw [HK.out]; rfl)
    rw [HV.out, HK.out]
    go_enter Try.func39, Try.ntmps39
    go_wp2_with (first | (go_at_call 70; refine (l10Good_c _ _ l _ (hide (reads_below h1.out (by go_grown))) b1).mono ?_; rintro e w1 ⟨rfl, hb⟩; have hT : Below w.heap.size w w1 := (fun W h hb => below_via h (hb) : ∀ W : World, (Below w.heap.size w W) → Below W.heap.size W w1 → (Below w.heap.size w w1)) _ (by first | (with_reducible assumption) | go_grown) hb; (try clear hS); have hS := hT; clear hT; have hB := hS; have hzw : w.heap.size ≤ w1.heap.size := hB.size; clear hb) | (go_at_call 96; refine (l1In_c _ _ _ _).mono ?_; rintro e w1 ⟨rfl, rfl⟩))
    go_returns
    exact ⟨_, _, rfl, own_empty _ (by first | rfl | simp) (by first | omega | (simp; done) | (simp; omega)), by go_grown⟩
  rcases k2 : wi i 0 ((l.length : Int) - 1) with _ | _
  · have HK := hide (show drpK l i = false from by simp [drpK, k2])
    have HV := hide (show drpV l i = [] from by unfold drpV; rw [HK.out]; rfl)
    rw [HV.out, HK.out]
    go_enter Try.func39, Try.ntmps39
    go_wp2_with (first | (go_at_call 70; refine (l10Good_c _ _ l _ (hide (reads_below h1.out (by go_grown))) b1).mono ?_; rintro e w1 ⟨rfl, hb⟩; have hT : Below w.heap.size w w1 := (fun W h hb => below_via h (hb) : ∀ W : World, (Below w.heap.size w W) → Below W.heap.size W w1 → (Below w.heap.size w w1)) _ (by first | (with_reducible assumption) | go_grown) hb; (try clear hS); have hS := hT; clear hT; have hB := hS; have hzw : w.heap.size ≤ w1.heap.size := hB.size; clear hb) | (go_at_call 96; refine (l1In_c _ _ _ _).mono ?_; rintro e w1 ⟨rfl, rfl⟩))
    go_returns
    exact ⟨_, _, rfl, own_empty _ (by first | rfl | simp) (by first | omega | (simp; done) | (simp; omega)), by go_grown⟩
  by_cases k3 : l.length = 1
  · have HK := hide (show drpK l i = false from by simp [drpK, k3])
    have HV := hide (show drpV l i = [] from by unfold drpV; rw [HK.out]; rfl)
    rw [HV.out, HK.out]
    have k3b : ((l.length : Int) == 1) = true := by simp; omega
    have K3 := hide k3
    clear k3
    go_enter Try.func39, Try.ntmps39
    go_wp2_with (first | (go_at_call 70; refine (l10Good_c _ _ l _ (hide (reads_below h1.out (by go_grown))) b1).mono ?_; rintro e w1 ⟨rfl, hb⟩; have hT : Below w.heap.size w w1 := (fun W h hb => below_via h (hb) : ∀ W : World, (Below w.heap.size w W) → Below W.heap.size W w1 → (Below w.heap.size w w1)) _ (by first | (with_reducible assumption) | go_grown) hb; (try clear hS); have hS := hT; clear hT; have hB := hS; have hzw : w.heap.size ≤ w1.heap.size := hB.size; clear hb) | (go_at_call 96; refine (l1In_c _ _ _ _).mono ?_; rintro e w1 ⟨rfl, rfl⟩))
    go_returns
    exact ⟨_, _, rfl, own_empty _ (by first | rfl | simp) (by first | omega | (simp; done) | (simp; omega)), by go_grown⟩
  have HK := hide (show drpK l i = true from by simp [drpK, k1, k2, k3])
  obtain ⟨i0, i1⟩ := wi_iff.1 k2
  obtain ⟨j, rfl⟩ : ∃ j : Nat, i = (j : Int) := ⟨i.toNat, by omega⟩
  have hj : j < l.length := by omega
  have HV := hide (show drpV l (j : Int) = dropL l j from by unfold drpV; rw [if_pos HK.out]; simp)
  have k3b : ((l.length : Int) == 1) = false := by simp; omega
  rw [HV.out, HK.out, dropL_len hj, dropL_flat]
  obtain ⟨n1, n5⟩ := (okS_iff.1 k1).1
  obtain ⟨ad, rfl, _, _, _⟩ := h1.out.pt (k := 0) (by omega)
  clear k3 HK HV
  obtain ⟨q0, hi0, iz0, iy0, ix0⟩ := info_parts infoSite
  have hjl : (j : Int) ≤ (l.length : Int) := by omega
  have hjj : (j : Int) ≤ (j : Int) + 1 := by omega
  have hj0 : 0 ≤ (j : Int) + 1 := by omega
  have ew : IntKind.i64.wrap ((j : Int) + 1) = (j : Int) + 1 := IntWalk.i64_in _ (by omega)
  have etn : ((j : Int) + 1).toNat = j + 1 := by omega
  have hjc : (j : Int) ≤ (c : Int) := by omega
  have hjc1 : (j : Int) + 1 ≤ (c : Int) := by omega
  have hj1 : (j : Int) + 1 ≤ (l.length : Int) := by omega
  by_cases hcap : c = j + 1
  any_goals (first | subst hcap | skip)
  all_goals
    go_enter Try.func39, Try.ntmps39
    go_wp2_with (first | (go_at_call 70; refine (l10Good_c _ _ l _ (hide (reads_below h1.out (by go_grown))) b1).mono ?_; rintro e w1 ⟨rfl, hb⟩; have hT : Below w.heap.size w w1 := (fun W h hb => below_via h (hb) : ∀ W : World, (Below w.heap.size w W) → Below W.heap.size W w1 → (Below w.heap.size w w1)) _ (by first | (with_reducible assumption) | go_grown) hb; (try clear hS); have hS := hT; clear hT; have hB := hS; have hzw : w.heap.size ≤ w1.heap.size := hB.size; clear hb) | (go_at_call 96; refine (l1In_c _ _ _ _).mono ?_; rintro e w1 ⟨rfl, rfl⟩))
    refine wp_region_seq deed [1, 2, 3, 5, 6, 7, 8, 0, 4, 9, 10, 11] (fun W => Below w.heap.size w W) (by kernel_rfl) (by kernel_rfl) (by go_grown) ?_
    simp only [byNum, List.getElem?_cons_zero, List.getElem?_cons_succ]
    have hS : Below w.heap.size w w1.drew := by go_grown
    repeat (first
      | ((refine seq_skip (by rfl) (by rfl) ?_); simp only [Act.put, List.setIfInBounds_toArray, List.set_cons_zero, List.set_cons_succ])
      | ((refine seq_val (v := ?_) (by rfl) (by rfl) (fun w hS => ?_) ?_); rotate_left; (focus ((try dsimp only at hS); go_simp; (try (with_reducible rfl)); done)); simp only [Act.put, List.setIfInBounds_toArray, List.set_cons_zero, List.set_cons_succ]))
    refine seq_deed (v := ?_) (w' := ?_) (by rfl) (by rfl) ?_ ?_
    rotate_left
    rotate_left
    focus (go_simp; (constructor <;> (with_reducible rfl)); done)
    have hT : (World.drew (World.alloc w1 (Obj.cells #[] 32))).ownsRow w.heap.size 32 2 (.slice (some ⟨w1.heap.size, 0, none⟩) 0 0) 0 [] ∧ Below w.heap.size w (World.drew (World.alloc w1 (Obj.cells #[] 32))) := ⟨own_empty _ rfl (by omega), by go_grown⟩
    generalize World.drew (World.alloc w1 (Obj.cells #[] 32)) = W2 at hT ⊢
    obtain ⟨hown1, hB2⟩ := hT
    refine ⟨(fun W => Below w.heap.size w W), hB2, fun W h => h, ?_⟩
    simp only [Act.put, List.setIfInBounds_toArray, List.set_cons_zero, List.set_cons_succ]
    repeat (first
      | ((refine seq_skip (by rfl) (by rfl) ?_); simp only [Act.put, List.setIfInBounds_toArray, List.set_cons_zero, List.set_cons_succ])
      | ((refine seq_val (v := ?_) (by rfl) (by rfl) (fun w hS => ?_) ?_); rotate_left; (focus ((try dsimp only at hS); go_simp; (try (with_reducible rfl)); done)); simp only [Act.put, List.setIfInBounds_toArray, List.set_cons_zero, List.set_cons_succ]))
    refine seq_append _ (by rfl) (by rfl) _ _ 26 (by rfl) w.heap.size 32 q0 (.agg #[.int .i64 0, .int .i64 0]) 2 16 Try.underlying26 hi0 iz0 iy0 ix0 rfl (by decide) _ 0 [] (by rfl) hown1 w.heap.size (some ad) j _ ((flat l).take (j * 2)) (by rfl) ((h1.out.below hB2).front (by omega)) (by simp) (fun u hu => (flat_one l) u (List.mem_of_mem_take hu)) (by unfold maxLen; omega) (by omega) hB2.size ?_
    intro A1 c1 w3 hown2 hgrow
    have hB3 : Below w.heap.size w w3 := own_grown hown1 hgrow hB2 hB2.size (Nat.le_refl _)
    refine ⟨(fun W => Below w.heap.size w W), hB3, fun W h => h, ?_⟩
    simp only [Act.put, List.setIfInBounds_toArray, List.set_cons_zero, List.set_cons_succ]
    repeat (first
      | ((refine seq_skip (by rfl) (by rfl) ?_); simp only [Act.put, List.setIfInBounds_toArray, List.set_cons_zero, List.set_cons_succ])
      | ((refine seq_val (v := ?_) (by rfl) (by rfl) (fun w hS => ?_) ?_); rotate_left; (focus ((try dsimp only at hS); go_simp; (try (with_reducible rfl)); done)); simp only [Act.put, List.setIfInBounds_toArray, List.set_cons_zero, List.set_cons_succ]))
    refine seq_append _ (by rfl) (by rfl) _ _ 26 (by rfl) w.heap.size 32 q0 (.agg #[.int .i64 0, .int .i64 0]) 2 16 Try.underlying26 hi0 iz0 iy0 ix0 rfl (by decide) _ (0 + j) ([] ++ (flat l).take (j * 2)) (by rfl) hown2 w.heap.size _ _ _ ((flat l).drop ((j + 1) * 2)) (by rfl) (by first | exact (h1.out.below hB3).back (by omega) | (rw [List.drop_eq_nil_of_le (by rw [flat_len]; omega)]; exact Reads.none_back _)) (by simp) (fun u hu => (flat_one l) u (List.mem_of_mem_drop hu)) (by unfold maxLen; omega) (by omega) hB3.size ?_
    intro A2 c2 w4 hown3 hgrow2
    first
      | rw [show 0 + j + (l.length - (j + 1)) = j + (l.length - (j + 1)) from by omega] at hown3 ⊢
      | rw [show 0 + j + 0 = j + (l.length - (j + 1)) from by omega] at hown3 ⊢
    have hB4 : Below w.heap.size w w4 := own_grown hown2 hgrow2 hB3 hB3.size (Nat.le_refl _)
    refine ⟨(fun W => Below w.heap.size w W), hB4, fun W h => h, ?_⟩
    simp only [Act.put, List.setIfInBounds_toArray, List.set_cons_zero, List.set_cons_succ]
    repeat (first
      | ((refine seq_skip (by rfl) (by rfl) ?_); simp only [Act.put, List.setIfInBounds_toArray, List.set_cons_zero, List.set_cons_succ])
      | ((refine seq_val (v := ?_) (by rfl) (by rfl) (fun w hS => ?_) ?_); rotate_left; (focus ((try dsimp only at hS); go_simp; (try (with_reducible rfl)); done)); simp only [Act.put, List.setIfInBounds_toArray, List.set_cons_zero, List.set_cons_succ]))
    refine seq_nil ?_
    go_wp2
    go_returns
    exact ⟨A2, c2, ret_eq (by first | rfl | (simp; omega)), by have h9 := hown3; simp only [List.nil_append] at h9; exact h9, hB4⟩

set_option maxHeartbeats 1000000 in
theorem Drop_c (A : Option Addr) (c : Nat) (l : List Pt) (i : Int) (w : World) (h1 : Hid (Reads w w.heap.size 2 A l.length (flat l))) (b1 : l.length ≤ 4000000) (hc : l.length ≤ c)  : Calls Try.prog 37 #[.slice A l.length c, .int .i64 i] w (GivesS w 32 2 (drpV l i).length (flat (drpV l i)) (fun v => .tuple #[v, .bool (drpK l i)])) := by
  rcases k1 : okS l with _ | _
  · have HK := hide (show drpK l i = false from by simp [drpK, k1])
    have HV := hide (show drpV l i = [] from by unfold drpV; rw [HK.out]; rfl)
    rw [HV.out, HK.out]
    go_enter Try.func37, Try.ntmps37
    go_wp2_with (first | (go_at_call 51; refine (validS_c _ _ l _ (hide (reads_below h1.out (by go_grown))) b1 hc).mono ?_; rintro e w1 ⟨rfl, hb⟩; have hT : Below w.heap.size w w1 := (fun W h hb => below_via h (hb) : ∀ W : World, (Below w.heap.size w W) → Below W.heap.size W w1 → (Below w.heap.size w w1)) _ (by first | (with_reducible assumption) | go_grown) hb; (try clear hS); have hS := hT; clear hT; have hB := hS; have hzw : w.heap.size ≤ w1.heap.size := hB.size; clear hb) | (go_at_call 95; refine (within_c _ _ _ _).mono ?_; rintro e w1 ⟨rfl, rfl⟩))
    go_returns
    exact ⟨_, _, rfl, World.ownsRow_nil _ _ _ _, by go_grown⟩
  rcases k2 : wi i 0 ((l.length : Int) - 1) with _ | _
  · have HK := hide (show drpK l i = false from by simp [drpK, k2])
    have HV := hide (show drpV l i = [] from by unfold drpV; rw [HK.out]; rfl)
    rw [HV.out, HK.out]
    go_enter Try.func37, Try.ntmps37
    go_wp2_with (first | (go_at_call 51; refine (validS_c _ _ l _ (hide (reads_below h1.out (by go_grown))) b1 hc).mono ?_; rintro e w1 ⟨rfl, hb⟩; have hT : Below w.heap.size w w1 := (fun W h hb => below_via h (hb) : ∀ W : World, (Below w.heap.size w W) → Below W.heap.size W w1 → (Below w.heap.size w w1)) _ (by first | (with_reducible assumption) | go_grown) hb; (try clear hS); have hS := hT; clear hT; have hB := hS; have hzw : w.heap.size ≤ w1.heap.size := hB.size; clear hb) | (go_at_call 95; refine (within_c _ _ _ _).mono ?_; rintro e w1 ⟨rfl, rfl⟩))
    go_returns
    exact ⟨_, _, rfl, World.ownsRow_nil _ _ _ _, by go_grown⟩
  by_cases k3 : l.length = 1
  · have HK := hide (show drpK l i = false from by simp [drpK, k3])
    have HV := hide (show drpV l i = [] from by unfold drpV; rw [HK.out]; rfl)
    rw [HV.out, HK.out]
    have k3b : ((l.length : Int) == 1) = true := by simp; omega
    have K3 := hide k3
    clear k3
    go_enter Try.func37, Try.ntmps37
    go_wp2_with (first | (go_at_call 51; refine (validS_c _ _ l _ (hide (reads_below h1.out (by go_grown))) b1 hc).mono ?_; rintro e w1 ⟨rfl, hb⟩; have hT : Below w.heap.size w w1 := (fun W h hb => below_via h (hb) : ∀ W : World, (Below w.heap.size w W) → Below W.heap.size W w1 → (Below w.heap.size w w1)) _ (by first | (with_reducible assumption) | go_grown) hb; (try clear hS); have hS := hT; clear hT; have hB := hS; have hzw : w.heap.size ≤ w1.heap.size := hB.size; clear hb) | (go_at_call 95; refine (within_c _ _ _ _).mono ?_; rintro e w1 ⟨rfl, rfl⟩))
    go_returns
    exact ⟨_, _, rfl, World.ownsRow_nil _ _ _ _, by go_grown⟩
  have HK := hide (show drpK l i = true from by simp [drpK, k1, k2, k3])
  obtain ⟨i0, i1⟩ := wi_iff.1 k2
  obtain ⟨j, rfl⟩ : ∃ j : Nat, i = (j : Int) := ⟨i.toNat, by omega⟩
  have hj : j < l.length := by omega
  have HV := hide (show drpV l (j : Int) = dropL l j from by unfold drpV; rw [if_pos HK.out]; simp)
  have k3b : ((l.length : Int) == 1) = false := by simp; omega
  rw [HV.out, HK.out, dropL_len hj, dropL_flat]
  obtain ⟨n1, n5⟩ := (okS_iff.1 k1).1
  obtain ⟨ad, rfl, _, _, _⟩ := h1.out.pt (k := 0) (by omega)
  clear k3 HK HV
  obtain ⟨q0, hi0, iz0, iy0, ix0⟩ := info_parts infoSite
  have hjl : (j : Int) ≤ (l.length : Int) := by omega
  have hjj : (j : Int) ≤ (j : Int) + 1 := by omega
  have hj0 : 0 ≤ (j : Int) + 1 := by omega
  have ew : IntKind.i64.wrap ((j : Int) + 1) = (j : Int) + 1 := IntWalk.i64_in _ (by omega)
  have etn : ((j : Int) + 1).toNat = j + 1 := by omega
  have hjc : (j : Int) ≤ (c : Int) := by omega
  have hjc1 : (j : Int) + 1 ≤ (c : Int) := by omega
  have hj1 : (j : Int) + 1 ≤ (l.length : Int) := by omega
  by_cases hcap : c = j + 1
  any_goals (first | subst hcap | skip)
  all_goals
    go_enter Try.func37, Try.ntmps37
    go_wp2_with (first | (go_at_call 51; refine (validS_c _ _ l _ (hide (reads_below h1.out (by go_grown))) b1 hc).mono ?_; rintro e w1 ⟨rfl, hb⟩; have hT : Below w.heap.size w w1 := (fun W h hb => below_via h (hb) : ∀ W : World, (Below w.heap.size w W) → Below W.heap.size W w1 → (Below w.heap.size w w1)) _ (by first | (with_reducible assumption) | go_grown) hb; (try clear hS); have hS := hT; clear hT; have hB := hS; have hzw : w.heap.size ≤ w1.heap.size := hB.size; clear hb) | (go_at_call 95; refine (within_c _ _ _ _).mono ?_; rintro e w1 ⟨rfl, rfl⟩))
    refine wp_region_seq deed [1, 2, 3, 5, 6, 7, 8, 0, 4, 9, 10, 11] (fun W => Below w.heap.size w W) (by kernel_rfl) (by kernel_rfl) (by go_grown) ?_
    simp only [byNum, List.getElem?_cons_zero, List.getElem?_cons_succ]
    have hS : Below w.heap.size w w1.drew := by go_grown
    repeat (first
      | ((refine seq_skip (by rfl) (by rfl) ?_); simp only [Act.put, List.setIfInBounds_toArray, List.set_cons_zero, List.set_cons_succ])
      | ((refine seq_val (v := ?_) (by rfl) (by rfl) (fun w hS => ?_) ?_); rotate_left; (focus ((try dsimp only at hS); go_simp; (try (with_reducible rfl)); done)); simp only [Act.put, List.setIfInBounds_toArray, List.set_cons_zero, List.set_cons_succ]))
    refine seq_deed (v := ?_) (w' := ?_) (by rfl) (by rfl) ?_ ?_
    rotate_left
    rotate_left
    focus (go_simp; (constructor <;> (with_reducible rfl)); done)
    have hT : (World.drew (World.alloc w1 (Obj.cells #[] 32))).ownsRow w.heap.size 32 2 (.slice (some ⟨w1.heap.size, 0, none⟩) 0 0) 0 [] ∧ Below w.heap.size w (World.drew (World.alloc w1 (Obj.cells #[] 32))) := ⟨own_empty _ rfl (by omega), by go_grown⟩
    generalize World.drew (World.alloc w1 (Obj.cells #[] 32)) = W2 at hT ⊢
    obtain ⟨hown1, hB2⟩ := hT
    refine ⟨(fun W => Below w.heap.size w W), hB2, fun W h => h, ?_⟩
    simp only [Act.put, List.setIfInBounds_toArray, List.set_cons_zero, List.set_cons_succ]
    repeat (first
      | ((refine seq_skip (by rfl) (by rfl) ?_); simp only [Act.put, List.setIfInBounds_toArray, List.set_cons_zero, List.set_cons_succ])
      | ((refine seq_val (v := ?_) (by rfl) (by rfl) (fun w hS => ?_) ?_); rotate_left; (focus ((try dsimp only at hS); go_simp; (try (with_reducible rfl)); done)); simp only [Act.put, List.setIfInBounds_toArray, List.set_cons_zero, List.set_cons_succ]))
    refine seq_append _ (by rfl) (by rfl) _ _ 26 (by rfl) w.heap.size 32 q0 (.agg #[.int .i64 0, .int .i64 0]) 2 16 Try.underlying26 hi0 iz0 iy0 ix0 rfl (by decide) _ 0 [] (by rfl) hown1 w.heap.size (some ad) j _ ((flat l).take (j * 2)) (by rfl) ((h1.out.below hB2).front (by omega)) (by simp) (fun u hu => (flat_one l) u (List.mem_of_mem_take hu)) (by unfold maxLen; omega) (by omega) hB2.size ?_
    intro A1 c1 w3 hown2 hgrow
    have hB3 : Below w.heap.size w w3 := own_grown hown1 hgrow hB2 hB2.size (Nat.le_refl _)
    refine ⟨(fun W => Below w.heap.size w W), hB3, fun W h => h, ?_⟩
    simp only [Act.put, List.setIfInBounds_toArray, List.set_cons_zero, List.set_cons_succ]
    repeat (first
      | ((refine seq_skip (by rfl) (by rfl) ?_); simp only [Act.put, List.setIfInBounds_toArray, List.set_cons_zero, List.set_cons_succ])
      | ((refine seq_val (v := ?_) (by rfl) (by rfl) (fun w hS => ?_) ?_); rotate_left; (focus ((try dsimp only at hS); go_simp; (try (with_reducible rfl)); done)); simp only [Act.put, List.setIfInBounds_toArray, List.set_cons_zero, List.set_cons_succ]))
    refine seq_append _ (by rfl) (by rfl) _ _ 26 (by rfl) w.heap.size 32 q0 (.agg #[.int .i64 0, .int .i64 0]) 2 16 Try.underlying26 hi0 iz0 iy0 ix0 rfl (by decide) _ (0 + j) ([] ++ (flat l).take (j * 2)) (by rfl) hown2 w.heap.size _ _ _ ((flat l).drop ((j + 1) * 2)) (by rfl) (by first | exact (h1.out.below hB3).back (by omega) | (rw [List.drop_eq_nil_of_le (by rw [flat_len]; omega)]; exact Reads.none_back _)) (by simp) (fun u hu => (flat_one l) u (List.mem_of_mem_drop hu)) (by unfold maxLen; omega) (by omega) hB3.size ?_
    intro A2 c2 w4 hown3 hgrow2
    first
      | rw [show 0 + j + (l.length - (j + 1)) = j + (l.length - (j + 1)) from by omega] at hown3 ⊢
      | rw [show 0 + j + 0 = j + (l.length - (j + 1)) from by omega] at hown3 ⊢
    have hB4 : Below w.heap.size w w4 := own_grown hown2 hgrow2 hB3 hB3.size (Nat.le_refl _)
    refine ⟨(fun W => Below w.heap.size w W), hB4, fun W h => h, ?_⟩
    simp only [Act.put, List.setIfInBounds_toArray, List.set_cons_zero, List.set_cons_succ]
    repeat (first
      | ((refine seq_skip (by rfl) (by rfl) ?_); simp only [Act.put, List.setIfInBounds_toArray, List.set_cons_zero, List.set_cons_succ])
      | ((refine seq_val (v := ?_) (by rfl) (by rfl) (fun w hS => ?_) ?_); rotate_left; (focus ((try dsimp only at hS); go_simp; (try (with_reducible rfl)); done)); simp only [Act.put, List.setIfInBounds_toArray, List.set_cons_zero, List.set_cons_succ]))
    refine seq_nil ?_
    go_wp2
    go_returns
    exact ⟨A2, c2, ret_eq (by first | rfl | (simp; omega)), by have h9 := hown3; simp only [List.nil_append] at h9; exact h9, hB4⟩
end Go.Proofs.Ytnocgcfepkdjeaa
