/- Contracts: points that are covered. -/
import Derived.Test.YtnocgcfepkdjeaaSiG
namespace Go.Proofs.Ytnocgcfepkdjeaa
open Go.RowKit

set_option maxHeartbeats 1000000 in
theorem sCovered_c (A : Option Addr) (c : Nat) (l : List Pt) (r cnt : Int) (w : World) (h1 : Hid (Reads w w.heap.size 2 A l.length (flat l))) (b1 : l.length ≤ 4000000)  : Calls Try.prog 36 #[.slice A l.length c, .int .i64 r, .int .i64 cnt] w (Gives w (.tuple #[.int .i64 (cpV l r cnt), .bool (cpK l r cnt)])) := by
  rcases k1 : okS l with _ | _
  · have HK := hide (show cpK l r cnt = false from by simp [cpK, k1])
    have HV := hide (show cpV l r cnt = 0 from by unfold cpV; rw [HK.out]; rfl)
    go_enter Try.func36, Try.ntmps36
    go_wp2_with (first | (go_at_call 70; refine (l10Good_c A c l _ (hide (reads_below h1.out (by go_grown))) b1).mono ?_; rintro e w1 ⟨rfl, hb⟩; have hT : Below w.heap.size w w1 := (fun W h hb => below_via h (hb) : ∀ W : World, (Below w.heap.size w W) → Below W.heap.size W w1 → (Below w.heap.size w w1)) _ (by first | (with_reducible assumption) | go_grown) hb; (try clear hS); have hS := hT; clear hT; have hB := hS; have hzw : w.heap.size ≤ w1.heap.size := hB.size; clear hb) | (go_at_call 92; refine (l10Reach_c _ _).mono ?_; rintro e w1 ⟨rfl, rfl⟩) | (go_at_call 96; refine (l1In_c _ _ _ _).mono ?_; rintro e w1 ⟨rfl, rfl⟩))
    go_returns
    exact ⟨ret_eq (by first | (rw [HV.out, HK.out]; simp; done) | (rw [HV.out]; simp; done) | (simp; done)), by go_grown⟩
  rcases k2 : wi r 0 60 with _ | _
  · have HK := hide (show cpK l r cnt = false from by simp [cpK, k2])
    have HV := hide (show cpV l r cnt = 0 from by unfold cpV; rw [HK.out]; rfl)
    go_enter Try.func36, Try.ntmps36
    go_wp2_with (first | (go_at_call 70; refine (l10Good_c A c l _ (hide (reads_below h1.out (by go_grown))) b1).mono ?_; rintro e w1 ⟨rfl, hb⟩; have hT : Below w.heap.size w w1 := (fun W h hb => below_via h (hb) : ∀ W : World, (Below w.heap.size w W) → Below W.heap.size W w1 → (Below w.heap.size w w1)) _ (by first | (with_reducible assumption) | go_grown) hb; (try clear hS); have hS := hT; clear hT; have hB := hS; have hzw : w.heap.size ≤ w1.heap.size := hB.size; clear hb) | (go_at_call 92; refine (l10Reach_c _ _).mono ?_; rintro e w1 ⟨rfl, rfl⟩) | (go_at_call 96; refine (l1In_c _ _ _ _).mono ?_; rintro e w1 ⟨rfl, rfl⟩))
    go_returns
    exact ⟨ret_eq (by first | (rw [HV.out, HK.out]; simp; done) | (rw [HV.out]; simp; done) | (simp; done)), by go_grown⟩
  rcases k3 : wi cnt 1 5 with _ | _
  · have HK := hide (show cpK l r cnt = false from by simp [cpK, k3])
    have HV := hide (show cpV l r cnt = 0 from by unfold cpV; rw [HK.out]; rfl)
    go_enter Try.func36, Try.ntmps36
    go_wp2_with (first | (go_at_call 70; refine (l10Good_c A c l _ (hide (reads_below h1.out (by go_grown))) b1).mono ?_; rintro e w1 ⟨rfl, hb⟩; have hT : Below w.heap.size w w1 := (fun W h hb => below_via h (hb) : ∀ W : World, (Below w.heap.size w W) → Below W.heap.size W w1 → (Below w.heap.size w w1)) _ (by first | (with_reducible assumption) | go_grown) hb; (try clear hS); have hS := hT; clear hT; have hB := hS; have hzw : w.heap.size ≤ w1.heap.size := hB.size; clear hb) | (go_at_call 92; refine (l10Reach_c _ _).mono ?_; rintro e w1 ⟨rfl, rfl⟩) | (go_at_call 96; refine (l1In_c _ _ _ _).mono ?_; rintro e w1 ⟨rfl, rfl⟩))
    go_returns
    exact ⟨ret_eq (by first | (rw [HV.out, HK.out]; simp; done) | (rw [HV.out]; simp; done) | (simp; done)), by go_grown⟩
  have HK := hide (show cpK l r cnt = true from by simp [cpK, k1, k2, k3])
  have HV := hide (show cpV l r cnt = (cpN l r cnt 961 : Int) from by unfold cpV; rw [if_pos HK.out])
  have hsm := hide (okS_small k1)
  obtain ⟨n1, n5⟩ := (okS_iff.1 k1).1
  obtain ⟨r0, r1⟩ := wi_iff.1 k2
  go_enter Try.func36, Try.ntmps36
  go_wp2_with (first | (go_at_call 70; refine (l10Good_c A c l _ (hide (reads_below h1.out (by go_grown))) b1).mono ?_; rintro e w1 ⟨rfl, hb⟩; have hT : Below w.heap.size w w1 := (fun W h hb => below_via h (hb) : ∀ W : World, (Below w.heap.size w W) → Below W.heap.size W w1 → (Below w.heap.size w w1)) _ (by first | (with_reducible assumption) | go_grown) hb; (try clear hS); have hS := hT; clear hT; have hB := hS; have hzw : w.heap.size ≤ w1.heap.size := hB.size; clear hb) | (go_at_call 92; refine (l10Reach_c _ _).mono ?_; rintro e w1 ⟨rfl, rfl⟩) | (go_at_call 96; refine (l1In_c _ _ _ _).mono ?_; rintro e w1 ⟨rfl, rfl⟩))
  go_loopw [8, 9] (fun nv yv wr => ∃ y : Nat, y ≤ 31 ∧ yv = .int .i64 y ∧ nv = .int .i64 (cpN l r cnt (31 * y) : Int) ∧ Below w.heap.size w wr) (fun _ yv _ => 31 - (intOf yv).toNat)
  case atStart => exact ⟨0, by omega, rfl, rfl, by go_grown⟩
  case round =>
    obtain ⟨y, hy, rfl, rfl, hB⟩ := hrel
    have hzw : w.heap.size ≤ wr.heap.size := hB.size
    by_cases hlt : y < 31
    rotate_left
    · obtain rfl : y = 31 := by omega
      go_wp2
      go_returns
      exact ⟨ret_eq (by rw [HV.out, HK.out]; simp), hB⟩
    have hy30 : (y : Int) ≤ 30 := by omega
    go_wp2
    obtain ⟨wo, hwo⟩ : ∃ wo : World, wo = wr := ⟨_, rfl⟩
    rw [← hwo] at hB hzw ⊢
    clear hwo
    go_loopw [8, 10] (fun nv xv wr => ∃ x : Nat, x ≤ 31 ∧ xv = .int .i64 x ∧ nv = .int .i64 (cpN l r cnt (31 * y + x) : Int) ∧ Below w.heap.size w wr) (fun _ xv _ => 31 - (intOf xv).toNat)
    case atStart => exact ⟨0, by omega, rfl, rfl, hB⟩
    case round =>
      obtain ⟨x, hx, rfl, rfl, hB⟩ := hrel
      have hzw : w.heap.size ≤ wr.heap.size := hB.size
      have hcp := cpN_le l r cnt (31 * y + x)
      by_cases hltx : x < 31
      rotate_left
      · obtain rfl : x = 31 := by omega
        go_wp2
        go_roundw
        case rel => exact ⟨y + 1, by omega, by go_num, by rw [show 31 * (y + 1) = 31 * y + 31 from by omega], hB⟩
        case measure => simp [intOf]; omega
      have hx30 : (x : Int) ≤ 30 := by omega
      have HP := hide (gpt_at (y := y) hltx)
      have hcl := covN_len l ((x : Int), (y : Int)) r l.length
      obtain ⟨m, hm⟩ : ∃ m, (covN l ((x : Int), (y : Int)) r l.length).length = m := ⟨_, rfl⟩
      rw [hm] at hcl
      have HM := hide (show (covN l (gpt (31 * y + x)) r l.length).length = m from by rw [HP.out]; exact hm)
      have Hm := hide hm
      clear hm
      by_cases hc2 : cnt ≤ (m : Int)
      · have HS := hide (show cpN l r cnt (31 * y + x + 1) = cpN l r cnt (31 * y + x) + 1 from cpN_yes (by rw [HM.out]; exact hc2))
        go_wp2_with (first | (go_at_call 93; refine (l10Cover_c _ A c l x y r (hide (reads_below h1.out (by go_grown))) (by omega) hsm (by omega) (by omega) (by omega) (by omega)).mono ?_; rw [Hm.out]; rintro e w1 ⟨C, d, rfl, _, hb⟩; have hB1 : Below w.heap.size w w1 := below_via (by go_grown) hb; clear hb))
        go_roundw
        case rel => exact ⟨x + 1, by omega, by go_num, int_eq (by rw [show 31 * y + (x + 1) = 31 * y + x + 1 from by omega, HS.out]; omega), by go_grown⟩
        case measure => simp [intOf]; omega
      · have HS := hide (show cpN l r cnt (31 * y + x + 1) = cpN l r cnt (31 * y + x) from cpN_no (by rw [HM.out]; exact hc2))
        have hcb : decide (cnt ≤ (m : Int)) = false := decide_eq_false hc2
        clear hc2
        go_wp2_with (first | (go_at_call 93; refine (l10Cover_c _ A c l x y r (hide (reads_below h1.out (by go_grown))) (by omega) hsm (by omega) (by omega) (by omega) (by omega)).mono ?_; rw [Hm.out]; rintro e w1 ⟨C, d, rfl, _, hb⟩; have hB1 : Below w.heap.size w w1 := below_via (by go_grown) hb; clear hb))
        go_roundw
        case rel => exact ⟨x + 1, by omega, by go_num, int_eq (by rw [show 31 * y + (x + 1) = 31 * y + x + 1 from by omega, HS.out]), by go_grown⟩
        case measure => simp [intOf]; omega

set_option maxHeartbeats 1000000 in
theorem Covered_c (A : Option Addr) (c : Nat) (l : List Pt) (r cnt : Int) (w : World) (h1 : Hid (Reads w w.heap.size 2 A l.length (flat l))) (b1 : l.length ≤ 4000000) (hc : l.length ≤ c)  : Calls Try.prog 35 #[.slice A l.length c, .int .i64 r, .int .i64 cnt] w (Gives w (.tuple #[.int .i64 (cpV l r cnt), .bool (cpK l r cnt)])) := by
  rcases k1 : okS l with _ | _
  · have HK := hide (show cpK l r cnt = false from by simp [cpK, k1])
    have HV := hide (show cpV l r cnt = 0 from by unfold cpV; rw [HK.out]; rfl)
    go_enter Try.func35, Try.ntmps35
    go_wp2_with (first | (go_at_call 51; refine (validS_c A c l _ (hide (reads_below h1.out (by go_grown))) b1 hc).mono ?_; rintro e w1 ⟨rfl, hb⟩; have hT : Below w.heap.size w w1 := (fun W h hb => below_via h (hb) : ∀ W : World, (Below w.heap.size w W) → Below W.heap.size W w1 → (Below w.heap.size w w1)) _ (by first | (with_reducible assumption) | go_grown) hb; (try clear hS); have hS := hT; clear hT; have hB := hS; have hzw : w.heap.size ≤ w1.heap.size := hB.size; clear hb) | (go_at_call 89; refine (isReach_c _ _).mono ?_; rintro e w1 ⟨rfl, rfl⟩) | (go_at_call 95; refine (within_c _ _ _ _).mono ?_; rintro e w1 ⟨rfl, rfl⟩))
    go_returns
    exact ⟨ret_eq (by first | (rw [HV.out, HK.out]; simp; done) | (rw [HV.out]; simp; done) | (simp; done)), by go_grown⟩
  rcases k2 : wi r 0 60 with _ | _
  · have HK := hide (show cpK l r cnt = false from by simp [cpK, k2])
    have HV := hide (show cpV l r cnt = 0 from by unfold cpV; rw [HK.out]; rfl)
    go_enter Try.func35, Try.ntmps35
    go_wp2_with (first | (go_at_call 51; refine (validS_c A c l _ (hide (reads_below h1.out (by go_grown))) b1 hc).mono ?_; rintro e w1 ⟨rfl, hb⟩; have hT : Below w.heap.size w w1 := (fun W h hb => below_via h (hb) : ∀ W : World, (Below w.heap.size w W) → Below W.heap.size W w1 → (Below w.heap.size w w1)) _ (by first | (with_reducible assumption) | go_grown) hb; (try clear hS); have hS := hT; clear hT; have hB := hS; have hzw : w.heap.size ≤ w1.heap.size := hB.size; clear hb) | (go_at_call 89; refine (isReach_c _ _).mono ?_; rintro e w1 ⟨rfl, rfl⟩) | (go_at_call 95; refine (within_c _ _ _ _).mono ?_; rintro e w1 ⟨rfl, rfl⟩))
    go_returns
    exact ⟨ret_eq (by first | (rw [HV.out, HK.out]; simp; done) | (rw [HV.out]; simp; done) | (simp; done)), by go_grown⟩
  rcases k3 : wi cnt 1 5 with _ | _
  · have HK := hide (show cpK l r cnt = false from by simp [cpK, k3])
    have HV := hide (show cpV l r cnt = 0 from by unfold cpV; rw [HK.out]; rfl)
    go_enter Try.func35, Try.ntmps35
    go_wp2_with (first | (go_at_call 51; refine (validS_c A c l _ (hide (reads_below h1.out (by go_grown))) b1 hc).mono ?_; rintro e w1 ⟨rfl, hb⟩; have hT : Below w.heap.size w w1 := (fun W h hb => below_via h (hb) : ∀ W : World, (Below w.heap.size w W) → Below W.heap.size W w1 → (Below w.heap.size w w1)) _ (by first | (with_reducible assumption) | go_grown) hb; (try clear hS); have hS := hT; clear hT; have hB := hS; have hzw : w.heap.size ≤ w1.heap.size := hB.size; clear hb) | (go_at_call 89; refine (isReach_c _ _).mono ?_; rintro e w1 ⟨rfl, rfl⟩) | (go_at_call 95; refine (within_c _ _ _ _).mono ?_; rintro e w1 ⟨rfl, rfl⟩))
    go_returns
    exact ⟨ret_eq (by first | (rw [HV.out, HK.out]; simp; done) | (rw [HV.out]; simp; done) | (simp; done)), by go_grown⟩
  have HK := hide (show cpK l r cnt = true from by simp [cpK, k1, k2, k3])
  have HV := hide (show cpV l r cnt = (cpN l r cnt 961 : Int) from by unfold cpV; rw [if_pos HK.out])
  have hsm := hide (okS_small k1)
  obtain ⟨n1, n5⟩ := (okS_iff.1 k1).1
  obtain ⟨r0, r1⟩ := wi_iff.1 k2
  go_enter Try.func35, Try.ntmps35
  go_wp2_with (first | (go_at_call 51; refine (validS_c A c l _ (hide (reads_below h1.out (by go_grown))) b1 hc).mono ?_; rintro e w1 ⟨rfl, hb⟩; have hT : Below w.heap.size w w1 := (fun W h hb => below_via h (hb) : ∀ W : World, (Below w.heap.size w W) → Below W.heap.size W w1 → (Below w.heap.size w w1)) _ (by first | (with_reducible assumption) | go_grown) hb; (try clear hS); have hS := hT; clear hT; have hB := hS; have hzw : w.heap.size ≤ w1.heap.size := hB.size; clear hb) | (go_at_call 89; refine (isReach_c _ _).mono ?_; rintro e w1 ⟨rfl, rfl⟩) | (go_at_call 95; refine (within_c _ _ _ _).mono ?_; rintro e w1 ⟨rfl, rfl⟩) | (go_at_call 74; refine (ground_c _).mono ?_; rintro e wG ⟨G, cG, rfl, hG, hbG⟩))
  have hB0 : Below w.heap.size w wG := below_via (by go_grown) hbG
  have h1g := hide (reads_below h1.out hB0)
  obtain ⟨gg, rfl, hgg0, hgg1⟩ := own_at hG (by omega)
  have HG := hide hG
  clear hG hbG
  go_loopw [8, 26] (fun nv iv wr => ∃ k : Nat, k ≤ 961 ∧ iv = .int .i64 k ∧ nv = .int .i64 (cpN l r cnt k : Int) ∧ Below wG.heap.size wG wr) (fun _ iv _ => 961 - (intOf iv).toNat)
  case atStart => exact ⟨0, by omega, rfl, rfl, Below.refl _ _⟩
  case round =>
    obtain ⟨k, hk, rfl, rfl, hB⟩ := hrel
    have hzw : wG.heap.size ≤ wr.heap.size := hB.size
    have hcp := cpN_le l r cnt k
    by_cases hlt : k < 961
    rotate_left
    · obtain rfl : k = 961 := by omega
      go_wp2
      go_returns
      exact ⟨ret_eq (by rw [HV.out, HK.out]; simp), below_via hB0 hB⟩
    have hki : (k : Int) < 961 := by omega
    have hrow := own_below HG.out hB
    obtain ⟨cx, cy⟩ := own_pt (l := groundN 961) (k := k) hrow (by rw [groundN_len]; exact hlt)
    have hgw : gg < wr.heap.size := World.block_lt_of_cell? wr _ cx
    obtain ⟨⟨gx0, gx1⟩, gy0, gy1⟩ := groundN_small (n := 961) hlt (by omega)
    have HP := hide (gpt_of (n := 961) hlt)
    obtain ⟨X, hX⟩ : ∃ X, px (groundN 961) k = X := ⟨_, rfl⟩
    obtain ⟨Y, hY⟩ : ∃ Y, py (groundN 961) k = Y := ⟨_, rfl⟩
    rw [hX] at cx gx0 gx1 HP
    rw [hY] at cy gy0 gy1 HP
    clear hX hY
    have hcl := covN_len l (X, Y) r l.length
    obtain ⟨m, hm⟩ : ∃ m, (covN l (X, Y) r l.length).length = m := ⟨_, rfl⟩
    rw [hm] at hcl
    have HM := hide (show (covN l (gpt k) r l.length).length = m from by rw [HP.out]; exact hm)
    have Hm := hide hm
    clear hm
    by_cases hc2 : cnt ≤ (m : Int)
    · have HS := hide (show cpN l r cnt (k + 1) = cpN l r cnt k + 1 from cpN_yes (by rw [HM.out]; exact hc2))
      go_wp2_with (first | (go_at_call 90; refine (cover_c _ A c l X Y r (hide (reads_below h1g.out (by go_grown))) (by omega) hsm (by omega) (by omega) (by omega) (by omega)).mono ?_; rw [Hm.out]; rintro e w1 ⟨C, d, rfl, _, hb⟩; have hB1 : Below wG.heap.size wG w1 := below_via (by go_grown) hb; clear hb))
      go_roundw
      case rel => exact ⟨k + 1, by omega, by go_num, int_eq (by rw [HS.out]; omega), by go_grown⟩
      case measure => simp [intOf]; omega
    · have HS := hide (show cpN l r cnt (k + 1) = cpN l r cnt k from cpN_no (by rw [HM.out]; exact hc2))
      have hcb : decide (cnt ≤ (m : Int)) = false := decide_eq_false hc2
      clear hc2
      go_wp2_with (first | (go_at_call 90; refine (cover_c _ A c l X Y r (hide (reads_below h1g.out (by go_grown))) (by omega) hsm (by omega) (by omega) (by omega) (by omega)).mono ?_; rw [Hm.out]; rintro e w1 ⟨C, d, rfl, _, hb⟩; have hB1 : Below wG.heap.size wG w1 := below_via (by go_grown) hb; clear hb))
      go_roundw
      case rel => exact ⟨k + 1, by omega, by go_num, int_eq (by rw [HS.out]), by go_grown⟩
      case measure => simp [intOf]; omega
end Go.Proofs.Ytnocgcfepkdjeaa
