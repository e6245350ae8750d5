/- Law: heights. -/
import Derived.Deep.DeepCutAuto
import Derived.Test.YthgnnldokdddfaaHgD
import Derived.Test.YthgnnldokdddfaaHgC
namespace Go.Proofs.Ythgnnldokdddfaa
open Go.RowKit

theorem hTS_size {h : Int} (h0 : -300000 ≤ h) (h1 : h ≤ 300000) : (hTS h).size ≤ 12 := by
  unfold hTS
  split
  · exact (hT_size h0 h1).2
  · decide

theorem ph_h (h : Int) (h0 : -300000 ≤ h) (h1 : h ≤ 300000) (w : World) : Calls Try.prog 19 #[.string (hTS h)] w (fun e w' => ∃ (P : Int) (Q : Bool), e = .returned (.tuple #[.int .i64 P, .bool Q]) ∧ (isH h = true → Q = true ∧ P = h) ∧ Below w.heap.size w w') := by
  rcases hk : isH h with _ | _
  · have hs := hTS_size h0 h1
    exact (ph_i (hTS h) (by omega) w).mono (fun e w' h => ⟨_, _, h.1, fun e => by simp at e, h.2⟩)
  · exact (phYes_i h (hTS h) hk (by unfold hTS; rw [if_pos hk]) w).mono (fun e w' h => ⟨_, _, h.1, fun _ => ⟨rfl, rfl⟩, h.2⟩)

set_option maxRecDepth 100000 in
set_option maxHeartbeats 4000000 in
theorem fnHeights (A : Option Addr) (n c : Nat) (w : World) (h1 : Hid (CodeOk w A n))  : Calls Try.prog 8 #[.slice A n c] w (Gives w (.bool true)) := by
  rcases kb : bigB n with _ | _
  rotate_left
  · have HKB := hide kb
    clear kb
    go_enter Try.func8, Try.ntmps8
    go_wp2_with (first | (go_at_call 20; refine (rBig_c _ _ _ _).mono ?_; rintro e w1 ⟨rfl, rfl⟩; rw [HKB.out]))
    go_returns
    exact ⟨ret_eq rfl, by go_grown⟩
  have HKB := hide kb
  have HN := hide (bigB_no kb)
  clear kb
  go_enter Try.func8, Try.ntmps8
  go_wp2_with fail
  refine (rBig_c _ _ _ _).mono ?_
  rintro e wz ⟨rfl, rfl⟩
  rw [HKB.out]
  go_wp2_with fail
  refine (drawHT_c A n c _ (hide (h1.out.below (by go_grown))) HN.out).mono ?_
  rintro e w1 ⟨h, rfl, hl0, hl1, hb⟩
  have hT : Below w.heap.size w w1 := (fun W h hb => below_via h (hb) : ∀ W : World, (Below w.heap.size w W) → Below W.heap.size W w1 → (Below w.heap.size w w1)) _ (by first | (with_reducible assumption) | go_grown) hb
  (try clear hS)
  have hS := hT
  clear hT
  have hB := hS
  have hzw : w.heap.size ≤ w1.heap.size := hB.size
  clear hb
  obtain ⟨S, hS0⟩ : ∃ q, hTS h = q := ⟨_, rfl⟩
  have HSS := hide hS0
  have HPH := hide (ph_h h (by omega) (by omega))
  rw [hS0] at HPH
  clear hS0
  obtain ⟨K, HK0⟩ : ∃ q, (isH h) = q := ⟨_, rfl⟩
  have HK := hide HK0
  rw [HK0] at HPH
  clear HK0
  go_wp2_with fail
  refine (HeightText_c h _).mono ?_
  rw [HSS.out, HK.out]
  rintro e w2 ⟨rfl, hb⟩
  have hT : Below w.heap.size w w2 := (fun W h hb => below_via h (hb) : ∀ W : World, (Below w.heap.size w W) → Below W.heap.size W w2 → (Below w.heap.size w w2)) _ (by first | (with_reducible assumption) | go_grown) hb
  (try clear hS)
  have hS := hT
  clear hT
  have hB := hS
  have hzw : w.heap.size ≤ w2.heap.size := hB.size
  clear hb
  go_wp2_with fail
  refine (sHeightText_c h _).mono ?_
  rw [HSS.out, HK.out]
  rintro e w3 ⟨rfl, hb⟩
  have hT : Below w.heap.size w w3 := (fun W h hb => below_via h (hb) : ∀ W : World, (Below w.heap.size w W) → Below W.heap.size W w3 → (Below w.heap.size w w3)) _ (by first | (with_reducible assumption) | go_grown) hb
  (try clear hS)
  have hS := hT
  clear hT
  have hB := hS
  have hzw : w.heap.size ≤ w3.heap.size := hB.size
  clear hb
  go_wp2_with fail
  refine (HPH.out _).mono ?_
  rintro e w4 ⟨P1, K1, rfl, hP, hb⟩
  have HP := hide hP
  clear hP
  have hT : Below w.heap.size w w4 := (fun W h hb => below_via h (hb) : ∀ W : World, (Below w.heap.size w W) → Below W.heap.size W w4 → (Below w.heap.size w w4)) _ (by first | (with_reducible assumption) | go_grown) hb
  (try clear hS)
  have hS := hT
  clear hT
  have hB := hS
  have hzw : w.heap.size ≤ w4.heap.size := hB.size
  clear hb
  go_upto_region 9 with fail
  go_cut [76] (fun s wx => s = .bool false ∧ Below w.heap.size w wx)
  case first =>
    cases K
    · go_wp2_with fail
      go_meet
      case rel => exact ⟨rfl, by go_grown⟩
    obtain ⟨rfl, rfl⟩ := HP.out rfl
    go_wp2_with fail
    go_meet
    case rel => exact ⟨rfl, by go_grown⟩
  obtain ⟨rfl, hB⟩ := hcut
  (try clear hS)
  have hzw : w.heap.size ≤ wc.heap.size := hB.size
  go_wp2_with fail
  refine (drawParse_c A n c _ (hide (h1.out.below (by go_grown))) HN.out).mono ?_
  rintro e w5 ⟨s, rfl, hss, hb⟩
  have hT : Below w.heap.size w w5 := (fun W h hb => below_via h (hb) : ∀ W : World, (Below w.heap.size w W) → Below W.heap.size W w5 → (Below w.heap.size w w5)) _ (by first | (with_reducible assumption) | go_grown) hb
  (try clear hS)
  have hS := hT
  clear hT
  have hB := hS
  have hzw : w.heap.size ≤ w5.heap.size := hB.size
  clear hb
  obtain ⟨P2, HP20⟩ : ∃ q, (phV s) = q := ⟨_, rfl⟩
  have HP2 := hide HP20
  obtain ⟨K2, HK20⟩ : ∃ q, (phK s) = q := ⟨_, rfl⟩
  have HK2 := hide HK20
  clear HP20 HK20
  go_wp2_with fail
  refine (ph_i s (by omega) _).mono ?_
  rw [HP2.out, HK2.out]
  rintro e w6 ⟨rfl, hb⟩
  have hT : Below w.heap.size w w6 := (fun W h hb => below_via h (hb) : ∀ W : World, (Below w.heap.size w W) → Below W.heap.size W w6 → (Below w.heap.size w w6)) _ (by first | (with_reducible assumption) | go_grown) hb
  (try clear hS)
  have hS := hT
  clear hT
  have hB := hS
  have hzw : w.heap.size ≤ w6.heap.size := hB.size
  clear hb
  go_wp2_with fail
  refine (ph_s s (by omega) _).mono ?_
  rw [HP2.out, HK2.out]
  rintro e w7 ⟨rfl, hb⟩
  have hT : Below w.heap.size w w7 := (fun W h hb => below_via h (hb) : ∀ W : World, (Below w.heap.size w W) → Below W.heap.size W w7 → (Below w.heap.size w w7)) _ (by first | (with_reducible assumption) | go_grown) hb
  (try clear hS)
  have hS := hT
  clear hT
  have hB := hS
  have hzw : w.heap.size ≤ w7.heap.size := hB.size
  clear hb
  go_wp2_with fail
  refine (drawNear_c A n c _ (hide (h1.out.below (by go_grown))) HN.out).mono ?_
  rintro e w8 ⟨x, kind, rfl, x0, x1, hb⟩
  have hT : Below w.heap.size w w8 := (fun W h hb => below_via h (hb) : ∀ W : World, (Below w.heap.size w W) → Below W.heap.size W w8 → (Below w.heap.size w w8)) _ (by first | (with_reducible assumption) | go_grown) hb
  (try clear hS)
  have hS := hT
  clear hT
  have hB := hS
  have hzw : w.heap.size ≤ w8.heap.size := hB.size
  clear hb
  obtain ⟨N, HN30⟩ : ∃ q, (nearV x kind) = q := ⟨_, rfl⟩
  have HN3 := hide HN30
  obtain ⟨K3, HK30⟩ : ∃ q, (isH x) = q := ⟨_, rfl⟩
  have HK3 := hide HK30
  clear HN30 HK30
  go_wp2_with fail
  refine (near_c x kind (by omega) (by omega) _).mono ?_
  rw [HN3.out, HK3.out]
  rintro e w9 ⟨rfl, hb⟩
  have hT : Below w.heap.size w w9 := (fun W h hb => below_via h (hb) : ∀ W : World, (Below w.heap.size w W) → Below W.heap.size W w9 → (Below w.heap.size w w9)) _ (by first | (with_reducible assumption) | go_grown) hb
  (try clear hS)
  have hS := hT
  clear hT
  have hB := hS
  have hzw : w.heap.size ≤ w9.heap.size := hB.size
  clear hb
  go_wp2_with fail
  refine (sNear_c x kind (by omega) (by omega) _).mono ?_
  rw [HN3.out, HK3.out]
  rintro e w10 ⟨rfl, hb⟩
  have hT : Below w.heap.size w w10 := (fun W h hb => below_via h (hb) : ∀ W : World, (Below w.heap.size w W) → Below W.heap.size W w10 → (Below w.heap.size w w10)) _ (by first | (with_reducible assumption) | go_grown) hb
  (try clear hS)
  have hS := hT
  clear hT
  have hB := hS
  have hzw : w.heap.size ≤ w10.heap.size := hB.size
  clear hb
  go_upto_if 122 with fail
  go_cut [] (fun wx => Below w.heap.size w wx)
  case first =>
    cases K3
    · go_wp2_with fail
      go_meet
      case rel => go_grown
    obtain ⟨nh1, nh2, nh3⟩ := near_has kind HK3.out
    rw [HN3.out] at nh1 nh2 nh3
    have HE1 := hide nh1
    clear nh1
    obtain ⟨C1, HC10⟩ : ∃ q, (encV N kind) = q := ⟨_, rfl⟩
    have HC1 := hide HC10
    clear HC10
    cases kind
    · go_wp2_with fail
      refine (encode_c N false (by omega) (by omega) _).mono ?_
      rw [HC1.out, HE1.out]
      rintro e w11 ⟨rfl, hb⟩
      have hT : Below w.heap.size w w11 := (fun W h hb => below_via h (hb) : ∀ W : World, (Below w.heap.size w W) → Below W.heap.size W w11 → (Below w.heap.size w w11)) _ (by first | (with_reducible assumption) | go_grown) hb
      (try clear hS)
      have hS := hT
      clear hT
      have hB := hS
      have hzw : w.heap.size ≤ w11.heap.size := hB.size
      clear hb
      go_wp2
      go_loopw [24] (fun kv wr => ∃ k : Int, kv = .int .i64 k ∧ (k = -1 ∨ k = 1 ∨ k = 3) ∧ Below w.heap.size w wr) (fun kv _ => (5 - intOf kv).toNat)
      case atStart => exact ⟨-1, rfl, by omega, by go_grown⟩
      case round =>
        obtain ⟨k, rfl, hk, hB⟩ := hrel
        have hzw : w.heap.size ≤ wr.heap.size := hB.size
        rcases hk with rfl | rfl | rfl
        · obtain ⟨C2, HC20⟩ : ∃ q, (encV (N + -100) false) = q := ⟨_, rfl⟩
          have HC2 := hide HC20
          clear HC20
          rcases hk2 : encK (N + -100) false with _ | _
          · go_wp2_with fail
            refine (encode_c (N + -100) false (by omega) (by omega) _).mono ?_
            rw [HC2.out, hk2]
            rintro e w21 ⟨rfl, hb⟩
            have hT : Below w.heap.size w w21 := (fun W h hb => below_via h (hb) : ∀ W : World, (Below w.heap.size w W) → Below W.heap.size W w21 → (Below w.heap.size w w21)) _ (by first | (with_reducible assumption) | go_grown) hb
            (try clear hS)
            have hS := hT
            clear hT
            have hB := hS
            have hzw : w.heap.size ≤ w21.heap.size := hB.size
            clear hb
            go_wp2
            go_roundw
            case rel => exact ⟨1, rfl, by omega, by go_grown⟩
            case measure => simp [intOf]
          have hbest := near_f_best (h := x) (s := -100) (by omega) HK3.out (by rw [HN3.out]; exact hk2)
          rw [HN3.out] at hbest
          have hlt : decide (rsz (N + -100 - x) < rsz (N - x)) = false := decide_eq_false hbest
          clear hbest
          go_wp2_with fail
          refine (encode_c (N + -100) false (by omega) (by omega) _).mono ?_
          rw [HC2.out, hk2]
          rintro e w21 ⟨rfl, hb⟩
          have hT : Below w.heap.size w w21 := (fun W h hb => below_via h (hb) : ∀ W : World, (Below w.heap.size w W) → Below W.heap.size W w21 → (Below w.heap.size w w21)) _ (by first | (with_reducible assumption) | go_grown) hb
          (try clear hS)
          have hS := hT
          clear hT
          have hB := hS
          have hzw : w.heap.size ≤ w21.heap.size := hB.size
          clear hb
          go_wp2_with (first | (go_at_call 37; refine (rsz_c _ (by omega) (by omega) _).mono ?_; rintro e w1 ⟨rfl, rfl⟩))
          go_roundw
          case rel => exact ⟨1, rfl, by omega, by go_grown⟩
          case measure => simp [intOf]
        · obtain ⟨C2, HC20⟩ : ∃ q, (encV (N + 100) false) = q := ⟨_, rfl⟩
          have HC2 := hide HC20
          clear HC20
          rcases hk2 : encK (N + 100) false with _ | _
          · go_wp2_with fail
            refine (encode_c (N + 100) false (by omega) (by omega) _).mono ?_
            rw [HC2.out, hk2]
            rintro e w21 ⟨rfl, hb⟩
            have hT : Below w.heap.size w w21 := (fun W h hb => below_via h (hb) : ∀ W : World, (Below w.heap.size w W) → Below W.heap.size W w21 → (Below w.heap.size w w21)) _ (by first | (with_reducible assumption) | go_grown) hb
            (try clear hS)
            have hS := hT
            clear hT
            have hB := hS
            have hzw : w.heap.size ≤ w21.heap.size := hB.size
            clear hb
            go_wp2
            go_roundw
            case rel => exact ⟨3, rfl, by omega, by go_grown⟩
            case measure => simp [intOf]
          have hbest := near_f_best (h := x) (s := 100) (by omega) HK3.out (by rw [HN3.out]; exact hk2)
          rw [HN3.out] at hbest
          have hlt : decide (rsz (N + 100 - x) < rsz (N - x)) = false := decide_eq_false hbest
          clear hbest
          go_wp2_with fail
          refine (encode_c (N + 100) false (by omega) (by omega) _).mono ?_
          rw [HC2.out, hk2]
          rintro e w21 ⟨rfl, hb⟩
          have hT : Below w.heap.size w w21 := (fun W h hb => below_via h (hb) : ∀ W : World, (Below w.heap.size w W) → Below W.heap.size W w21 → (Below w.heap.size w w21)) _ (by first | (with_reducible assumption) | go_grown) hb
          (try clear hS)
          have hS := hT
          clear hT
          have hB := hS
          have hzw : w.heap.size ≤ w21.heap.size := hB.size
          clear hb
          go_wp2_with (first | (go_at_call 37; refine (rsz_c _ (by omega) (by omega) _).mono ?_; rintro e w1 ⟨rfl, rfl⟩))
          go_roundw
          case rel => exact ⟨3, rfl, by omega, by go_grown⟩
          case measure => simp [intOf]
        · go_wp2_with fail
          go_meet
          case rel => go_grown
    go_wp2_with fail
    refine (encode_c N true (by omega) (by omega) _).mono ?_
    rw [HC1.out, HE1.out]
    rintro e w11 ⟨rfl, hb⟩
    have hT : Below w.heap.size w w11 := (fun W h hb => below_via h (hb) : ∀ W : World, (Below w.heap.size w W) → Below W.heap.size W w11 → (Below w.heap.size w w11)) _ (by first | (with_reducible assumption) | go_grown) hb
    (try clear hS)
    have hS := hT
    clear hT
    have hB := hS
    have hzw : w.heap.size ≤ w11.heap.size := hB.size
    clear hb
    go_wp2
    go_loopw [24] (fun kv wr => ∃ k : Int, kv = .int .i64 k ∧ (k = -1 ∨ k = 1 ∨ k = 3) ∧ Below w.heap.size w wr) (fun kv _ => (5 - intOf kv).toNat)
    case atStart => exact ⟨-1, rfl, by omega, by go_grown⟩
    case round =>
      obtain ⟨k, rfl, hk, hB⟩ := hrel
      have hzw : w.heap.size ≤ wr.heap.size := hB.size
      rcases hk with rfl | rfl | rfl
      · obtain ⟨C2, HC20⟩ : ∃ q, (encV (N + -25) true) = q := ⟨_, rfl⟩
        have HC2 := hide HC20
        clear HC20
        rcases hk2 : encK (N + -25) true with _ | _
        · go_wp2_with fail
          refine (encode_c (N + -25) true (by omega) (by omega) _).mono ?_
          rw [HC2.out, hk2]
          rintro e w21 ⟨rfl, hb⟩
          have hT : Below w.heap.size w w21 := (fun W h hb => below_via h (hb) : ∀ W : World, (Below w.heap.size w W) → Below W.heap.size W w21 → (Below w.heap.size w w21)) _ (by first | (with_reducible assumption) | go_grown) hb
          (try clear hS)
          have hS := hT
          clear hT
          have hB := hS
          have hzw : w.heap.size ≤ w21.heap.size := hB.size
          clear hb
          go_wp2
          go_roundw
          case rel => exact ⟨1, rfl, by omega, by go_grown⟩
          case measure => simp [intOf]
        have hbest := near_t_best (h := x) (s := -25) (by omega) HK3.out (by rw [HN3.out]; exact hk2)
        rw [HN3.out] at hbest
        have hlt : decide (rsz (N + -25 - x) < rsz (N - x)) = false := decide_eq_false hbest
        clear hbest
        go_wp2_with fail
        refine (encode_c (N + -25) true (by omega) (by omega) _).mono ?_
        rw [HC2.out, hk2]
        rintro e w21 ⟨rfl, hb⟩
        have hT : Below w.heap.size w w21 := (fun W h hb => below_via h (hb) : ∀ W : World, (Below w.heap.size w W) → Below W.heap.size W w21 → (Below w.heap.size w w21)) _ (by first | (with_reducible assumption) | go_grown) hb
        (try clear hS)
        have hS := hT
        clear hT
        have hB := hS
        have hzw : w.heap.size ≤ w21.heap.size := hB.size
        clear hb
        go_wp2_with (first | (go_at_call 37; refine (rsz_c _ (by omega) (by omega) _).mono ?_; rintro e w1 ⟨rfl, rfl⟩))
        go_roundw
        case rel => exact ⟨1, rfl, by omega, by go_grown⟩
        case measure => simp [intOf]
      · obtain ⟨C2, HC20⟩ : ∃ q, (encV (N + 25) true) = q := ⟨_, rfl⟩
        have HC2 := hide HC20
        clear HC20
        rcases hk2 : encK (N + 25) true with _ | _
        · go_wp2_with fail
          refine (encode_c (N + 25) true (by omega) (by omega) _).mono ?_
          rw [HC2.out, hk2]
          rintro e w21 ⟨rfl, hb⟩
          have hT : Below w.heap.size w w21 := (fun W h hb => below_via h (hb) : ∀ W : World, (Below w.heap.size w W) → Below W.heap.size W w21 → (Below w.heap.size w w21)) _ (by first | (with_reducible assumption) | go_grown) hb
          (try clear hS)
          have hS := hT
          clear hT
          have hB := hS
          have hzw : w.heap.size ≤ w21.heap.size := hB.size
          clear hb
          go_wp2
          go_roundw
          case rel => exact ⟨3, rfl, by omega, by go_grown⟩
          case measure => simp [intOf]
        have hbest := near_t_best (h := x) (s := 25) (by omega) HK3.out (by rw [HN3.out]; exact hk2)
        rw [HN3.out] at hbest
        have hlt : decide (rsz (N + 25 - x) < rsz (N - x)) = false := decide_eq_false hbest
        clear hbest
        go_wp2_with fail
        refine (encode_c (N + 25) true (by omega) (by omega) _).mono ?_
        rw [HC2.out, hk2]
        rintro e w21 ⟨rfl, hb⟩
        have hT : Below w.heap.size w w21 := (fun W h hb => below_via h (hb) : ∀ W : World, (Below w.heap.size w W) → Below W.heap.size W w21 → (Below w.heap.size w w21)) _ (by first | (with_reducible assumption) | go_grown) hb
        (try clear hS)
        have hS := hT
        clear hT
        have hB := hS
        have hzw : w.heap.size ≤ w21.heap.size := hB.size
        clear hb
        go_wp2_with (first | (go_at_call 37; refine (rsz_c _ (by omega) (by omega) _).mono ?_; rintro e w1 ⟨rfl, rfl⟩))
        go_roundw
        case rel => exact ⟨3, rfl, by omega, by go_grown⟩
        case measure => simp [intOf]
      · go_wp2_with fail
        go_meet
        case rel => go_grown
  have hB : Below w.heap.size w wc := hcut
  clear hcut
  (try clear hS)
  have hzw : w.heap.size ≤ wc.heap.size := hB.size
  go_wp2_with fail
  refine (drawClimb_c A n c _ (hide (h1.out.below (by go_grown))) HN.out).mono ?_
  rintro e w11 ⟨u, f, v, t, rfl, ⟨u0, u1⟩, ⟨f0, f1⟩, ⟨v0, v1⟩, ⟨t0, t1⟩, hb⟩
  have hT : Below w.heap.size w w11 := (fun W h hb => below_via h (hb) : ∀ W : World, (Below w.heap.size w W) → Below W.heap.size W w11 → (Below w.heap.size w w11)) _ (by first | (with_reducible assumption) | go_grown) hb
  (try clear hS)
  have hS := hT
  clear hT
  have hB := hS
  have hzw : w.heap.size ≤ w11.heap.size := hB.size
  clear hb
  obtain ⟨cb1, cb2, cb3⟩ := cr_back u f v t
  obtain ⟨cn0, cn1⟩ := crN_bd (a := u) (f := f) (b := v) (t := t) (by omega) (by omega) (by omega) (by omega)
  obtain ⟨Y, HY0⟩ : ∃ q, (crN u f v t) = q := ⟨_, rfl⟩
  have HY := hide HY0
  obtain ⟨D, HD0⟩ : ∃ q, (crD u f v t) = q := ⟨_, rfl⟩
  have HD := hide HD0
  obtain ⟨K4, HK40⟩ : ∃ q, (crK u f v t) = q := ⟨_, rfl⟩
  have HK4 := hide HK40
  rw [HY0] at cb2 cn0 cn1
  rw [HD0] at cb3
  rw [HK40] at cb1
  have HC1 := hide cb1
  have HC2 := hide cb2
  have HC3 := hide cb3
  clear cb1 cb2 cb3 HY0 HD0 HK40
  have ewn : IntKind.i64.wrap (-Y) = -Y := IntWalk.i64_in _ (by omega)
  go_wp2_with fail
  refine (climb_c u f v t (by omega) (by omega) (by omega) (by omega) (by omega) (by omega) (by omega) (by omega) _).mono ?_
  rw [HY.out, HD.out, HK4.out]
  rintro e w12 ⟨rfl, hb⟩
  have hT : Below w.heap.size w w12 := (fun W h hb => below_via h (hb) : ∀ W : World, (Below w.heap.size w W) → Below W.heap.size W w12 → (Below w.heap.size w w12)) _ (by first | (with_reducible assumption) | go_grown) hb
  (try clear hS)
  have hS := hT
  clear hT
  have hB := hS
  have hzw : w.heap.size ≤ w12.heap.size := hB.size
  clear hb
  go_wp2_with fail
  refine (sClimb_c u f v t (by omega) (by omega) (by omega) (by omega) (by omega) (by omega) (by omega) (by omega) _).mono ?_
  rw [HY.out, HD.out, HK4.out]
  rintro e w13 ⟨rfl, hb⟩
  have hT : Below w.heap.size w w13 := (fun W h hb => below_via h (hb) : ∀ W : World, (Below w.heap.size w W) → Below W.heap.size W w13 → (Below w.heap.size w w13)) _ (by first | (with_reducible assumption) | go_grown) hb
  (try clear hS)
  have hS := hT
  clear hT
  have hB := hS
  have hzw : w.heap.size ≤ w13.heap.size := hB.size
  clear hb
  go_wp2_with fail
  refine (climb_c v f u t (by omega) (by omega) (by omega) (by omega) (by omega) (by omega) (by omega) (by omega) _).mono ?_
  rw [HC1.out, HC2.out, HC3.out]
  rintro e w14 ⟨rfl, hb⟩
  have hT : Below w.heap.size w w14 := (fun W h hb => below_via h (hb) : ∀ W : World, (Below w.heap.size w W) → Below W.heap.size W w14 → (Below w.heap.size w w14)) _ (by first | (with_reducible assumption) | go_grown) hb
  (try clear hS)
  have hS := hT
  clear hT
  have hB := hS
  have hzw : w.heap.size ≤ w14.heap.size := hB.size
  clear hb
  go_wp2
  go_returns
  exact ⟨ret_eq (by simp), by go_grown⟩
end Go.Proofs.Ythgnnldokdddfaa
