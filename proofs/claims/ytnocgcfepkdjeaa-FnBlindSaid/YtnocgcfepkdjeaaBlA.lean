/- Contract: points not told from others, by the program. -/
import Derived.Test.YtnocgcfepkdjeaaBlRow
import Derived.Test.YtnocgcfepkdjeaaSbA
import Derived.Test.YtnocgcfepkdjeaaSiE
import Derived.Test.YtnocgcfepkdjeaaSiF
namespace Go.Proofs.Ytnocgcfepkdjeaa
open Go.RowKit

set_option maxHeartbeats 4000000 in
theorem Blind_c (A : Option Addr) (c : Nat) (l : List Pt) (w : World) (h1 : Hid (Reads w w.heap.size 2 A l.length (flat l))) (b1 : l.length ≤ 4000000) (hc : l.length ≤ c)  : Calls Try.prog 16 #[.slice A l.length c] w (Gives w (.tuple #[.int .i64 (blV l), .bool (okS l)])) := by
  rcases k1 : okS l with _ | _
  · have HK := hide k1
    have HV := hide (show blV l = 0 from by unfold blV; rw [k1]; rfl)
    go_enter Try.func16, Try.ntmps16
    go_wp2_with (first | (go_at_call 51; refine (validS_c A c l _ (hide (reads_below h1.out (by go_grown))) b1 hc).mono ?_; rintro e w1 ⟨rfl, hb⟩; have hT : Below w.heap.size w w1 := (fun W h hb => below_via h (hb) : ∀ W : World, (Below w.heap.size w W) → Below W.heap.size W w1 → (Below w.heap.size w w1)) _ (by first | (with_reducible assumption) | go_grown) hb; (try clear hS); have hS := hT; clear hT; have hB := hS; have hzw : w.heap.size ≤ w1.heap.size := hB.size; clear hb))
    go_returns
    exact ⟨ret_eq (by rw [HV.out]; simp), by go_grown⟩
  obtain ⟨n1, n5⟩ := (okS_iff.1 k1).1
  have hsm := hide (okS_small k1)
  have HOK := hide k1
  have HK := hide k1
  have HV := hide (show blV l = ibN l 961 from by unfold blV; rw [if_pos k1])
  go_enter Try.func16, Try.ntmps16
  go_wp2_with (first | (go_at_call 51; refine (validS_c A c l _ (hide (reads_below h1.out (by go_grown))) b1 hc).mono ?_; rintro e w1 ⟨rfl, hb⟩; have hT : Below w.heap.size w w1 := (fun W h hb => below_via h (hb) : ∀ W : World, (Below w.heap.size w W) → Below W.heap.size W w1 → (Below w.heap.size w w1)) _ (by first | (with_reducible assumption) | go_grown) hb; (try clear hS); have hS := hT; clear hT; have hB := hS; have hzw : w.heap.size ≤ w1.heap.size := hB.size; clear hb) | (go_at_call 74; refine (ground_c _).mono ?_; rintro e wG ⟨G, cG, rfl, hG, hbG⟩))
  have hB0 : Below w.heap.size w wG := below_via (by go_grown) hbG
  have h1g := hide (reads_below h1.out hB0)
  obtain ⟨gg, rfl, hgg0, hgg1⟩ := own_at hG (by omega)
  have HG := hide hG
  clear hG hbG
  go_loopw [4, 12] (fun nv iv wr => ∃ k : Nat, k ≤ 961 ∧ iv = .int .i64 k ∧ nv = .int .i64 (ibN l k) ∧ Below wG.heap.size wG wr) (fun _ iv _ => 961 - (intOf iv).toNat)
  case atStart => exact ⟨0, by omega, rfl, rfl, Below.refl _ _⟩
  case round =>
    obtain ⟨k, hk, rfl, rfl, hB⟩ := hrel
    have hzw : wG.heap.size ≤ wr.heap.size := hB.size
    have hib := ibN_bd l k
    by_cases hlt : k < 961
    rotate_left
    · obtain rfl : k = 961 := by omega
      go_wp2
      go_returns
      exact ⟨ret_eq (by rw [HV.out]; simp), below_via hB0 hB⟩
    have hki : (k : Int) < 961 := by omega
    have hrow0 := own_below HG.out hB
    obtain ⟨cx, cy⟩ := own_pt (l := groundN 961) (k := k) hrow0 (by rw [groundN_len]; exact hlt)
    clear hrow0
    have hgw : gg < wr.heap.size := World.block_lt_of_cell? wr _ cx
    obtain ⟨⟨gx0, gx1⟩, gy0, gy1⟩ := groundN_small (n := 961) hlt (by omega)
    have HP := hide (gpt_of (n := 961) hlt)
    obtain ⟨X, hX⟩ : ∃ X, px (groundN 961) k = X := ⟨_, rfl⟩
    obtain ⟨Y, hY⟩ : ∃ Y, py (groundN 961) k = Y := ⟨_, rfl⟩
    rw [hX] at cx gx0 gx1 HP
    rw [hY] at cy gy0 gy1 HP
    clear hX hY
    have hpt : pt (X, Y) = true := pt_iff.2 ⟨⟨gx0, gx1⟩, gy0, gy1⟩
    have HSN := hide (arr_smallN HOK.out hpt)
    have hal := arrL_len l (X, Y) 0
    obtain ⟨a, ha⟩ : ∃ a, arrL l (X, Y) 0 = a := ⟨_, rfl⟩
    rw [ha] at HSN hal
    have HA := hide ha
    have HAL := hide hal
    have hfl := fitN_len l a 0 961
    obtain ⟨F, hF⟩ : ∃ F, fitN l a 0 961 = F := ⟨_, rfl⟩
    rw [hF] at hfl
    obtain ⟨m, hm⟩ : ∃ m, F.length = m := ⟨_, rfl⟩
    have HM := hide (show (fitN l (arrL l (gpt k) 0) 0 961).length = m from by rw [HP.out, ha, hF, hm])
    have hfit : ∀ (W : World) (C : Option Addr) (d : Nat), Hid (Reads W W.heap.size 2 A l.length (flat l)) → Hid (Reads W W.heap.size 1 C l.length (ints a)) → Calls Try.prog 75 #[.slice A l.length c, .slice C l.length d, .int .i64 0] W (GivesS W 32 2 m (flat F) id) := fun W C d g1 g2 => by
      have h := fitting_c W A c l C d a 0 g1 (by omega) hsm (by rw [hal]; exact g2) HAL HSN n1
      rw [hF, hm, hal] at h
      exact h
    rw [hm] at hfl
    clear ha hal hF hm hpt
    by_cases hm1 : 1 < m
    · have HS := hide (show ibN l (k + 1) = ibN l k + 1 from by simp only [ibN]; rw [HM.out, if_pos hm1])
      have hcb : decide ((m : Int) > 1) = true := decide_eq_true (by omega)
      go_wp2_with (first | (go_at_call 76; refine (arrivals_c _ A c l X Y 0 (hide (reads_below h1g.out (by go_grown))) (by omega) hsm (by omega) (by omega) (by omega) (by omega) (by omega) (by omega)).mono ?_; rw [HA.out]; rintro e w1 ⟨C, d, rfl, ho, hb⟩; have hB1 : Below wG.heap.size wG w1 := below_via (by go_grown) hb; have HR := hide (own_reads ho); clear hb ho) | (go_at_call 75; refine (hfit _ _ _ (hide (reads_below h1g.out hB1)) HR).mono ?_; rintro e w2 ⟨D, f, rfl, _, hb⟩; have hB2 : Below wG.heap.size wG w2 := below_via hB1 hb; clear hb))
      go_roundw
      case rel => exact ⟨k + 1, by omega, by go_num, int_eq (by rw [HS.out]), by go_grown⟩
      case measure => simp [intOf]; omega
    · have HS := hide (show ibN l (k + 1) = ibN l k from by simp only [ibN]; rw [HM.out, if_neg hm1])
      have hcb : decide ((m : Int) > 1) = false := decide_eq_false (by omega)
      clear hm1
      go_wp2_with (first | (go_at_call 76; refine (arrivals_c _ A c l X Y 0 (hide (reads_below h1g.out (by go_grown))) (by omega) hsm (by omega) (by omega) (by omega) (by omega) (by omega) (by omega)).mono ?_; rw [HA.out]; rintro e w1 ⟨C, d, rfl, ho, hb⟩; have hB1 : Below wG.heap.size wG w1 := below_via (by go_grown) hb; have HR := hide (own_reads ho); clear hb ho) | (go_at_call 75; refine (hfit _ _ _ (hide (reads_below h1g.out hB1)) HR).mono ?_; rintro e w2 ⟨D, f, rfl, _, hb⟩; have hB2 : Below wG.heap.size wG w2 := below_via hB1 hb; clear hb))
      go_roundw
      case rel => exact ⟨k + 1, by omega, by go_num, int_eq (by rw [HS.out]), by go_grown⟩
      case measure => simp [intOf]; omega
end Go.Proofs.Ytnocgcfepkdjeaa
