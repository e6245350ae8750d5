/- Law: codes of heights. -/
import Derived.Test.YthgnnldokdddfaaHgB
import Derived.Test.YthgnnldokdddfaaCode
namespace Go.Proofs.Ythgnnldokdddfaa
open Go.RowKit

def bigB (n : Nat) : Bool := decide (65536 < n)
theorem bigB_no {n : Nat} (h : bigB n = false) : n ≤ 65536 := by have := of_decide_eq_false h; omega

theorem rBig_c (A : Option Addr) (n c : Nat)  (w : World) : Calls Try.prog 20 #[.slice A n c] w fun e w' => e = .returned (.bool (bigB n)) ∧ w = w' := by
  by_cases h : 65536 < n
  all_goals
    go_enter Try.func20, Try.ntmps20
    go_wp2
    all_goals (go_returns; exact ⟨ret_eq (by unfold bigB; simp [h]; (try omega)), rfl⟩)

set_option maxRecDepth 100000 in
set_option maxHeartbeats 4000000 in
theorem fnHeightCodes (A : Option Addr) (n c : Nat) (w : World) (h1 : Hid (CodeOk w A n))  : Calls Try.prog 7 #[.slice A n c] w (Gives w (.bool true)) := by
  rcases kb : bigB n with _ | _
  rotate_left
  · have HKB := hide kb
    clear kb
    go_enter Try.func7, Try.ntmps7
    go_wp2_with (first | (go_at_call 20; refine (rBig_c _ _ _ _).mono ?_; rintro e w1 ⟨rfl, rfl⟩; rw [HKB.out]))
    go_returns
    exact ⟨ret_eq rfl, by go_grown⟩
  have HKB := hide kb
  have HN := hide (bigB_no kb)
  clear kb
  go_enter Try.func7, Try.ntmps7
  go_wp2_with fail
  refine (rBig_c _ _ _ _).mono ?_
  rintro e wz ⟨rfl, rfl⟩
  rw [HKB.out]
  go_wp2_with fail
  refine (drawEnc_c A n c _ (hide (h1.out.below (by go_grown))) HN.out).mono ?_
  rintro e w1 ⟨h, f, rfl, hl0, hl1, hb⟩
  have hT : Below w.heap.size w w1 := (fun W h hb => below_via h (hb) : ∀ W : World, (Below w.heap.size w W) → Below W.heap.size W w1 → (Below w.heap.size w w1)) _ (by first | (with_reducible assumption) | go_grown) hb
  (try clear hS)
  have hS := hT
  clear hT
  have hB := hS
  have hzw : w.heap.size ≤ w1.heap.size := hB.size
  clear hb
  obtain ⟨C, HC0⟩ : ∃ q, (encV h f) = q := ⟨_, rfl⟩
  have HC := hide HC0
  obtain ⟨K, HK0⟩ : ∃ q, (encK h f) = q := ⟨_, rfl⟩
  have HK := hide HK0
  go_wp2_with fail
  refine (encode_c h f (by omega) (by omega) _).mono ?_
  rw [HC.out, HK.out]
  rintro e w2 ⟨rfl, hb⟩
  have hT : Below w.heap.size w w2 := (fun W h hb => below_via h (hb) : ∀ W : World, (Below w.heap.size w W) → Below W.heap.size W w2 → (Below w.heap.size w w2)) _ (by first | (with_reducible assumption) | go_grown) hb
  (try clear hS)
  have hS := hT
  clear hT
  have hB := hS
  have hzw : w.heap.size ≤ w2.heap.size := hB.size
  clear hb
  go_wp2_with fail
  refine (sEncode_c h f (by omega) (by omega) _).mono ?_
  rw [HC.out, HK.out]
  rintro e w3 ⟨rfl, hb⟩
  have hT : Below w.heap.size w w3 := (fun W h hb => below_via h (hb) : ∀ W : World, (Below w.heap.size w W) → Below W.heap.size W w3 → (Below w.heap.size w w3)) _ (by first | (with_reducible assumption) | go_grown) hb
  (try clear hS)
  have hS := hT
  clear hT
  have hB := hS
  have hzw : w.heap.size ≤ w3.heap.size := hB.size
  clear hb
  clear HK0
  cases K
  · go_wp2_with fail
    refine (drawDec_c A n c _ (hide (h1.out.below (by go_grown))) HN.out).mono ?_
    rintro e w4 ⟨d, rfl, hd0, hd1, hb⟩
    have hT : Below w.heap.size w w4 := (fun W h hb => below_via h (hb) : ∀ W : World, (Below w.heap.size w W) → Below W.heap.size W w4 → (Below w.heap.size w w4)) _ (by first | (with_reducible assumption) | go_grown) hb
    (try clear hS)
    have hS := hT
    clear hT
    have hB := hS
    have hzw : w.heap.size ≤ w4.heap.size := hB.size
    clear hb
    obtain ⟨X, HX0⟩ : ∃ q, (decV d) = q := ⟨_, rfl⟩
    have HX := hide HX0
    obtain ⟨Kd, HKd0⟩ : ∃ q, (wi d 2048 4095) = q := ⟨_, rfl⟩
    have HKd := hide HKd0
    obtain ⟨T, HT0⟩ : ∃ q, (decOk d) = q := ⟨_, rfl⟩
    have HT := hide HT0
    go_wp2_with fail
    refine (decodeHeight_c d _).mono ?_
    rw [HX.out, HKd.out, HT.out]
    rintro e wz ⟨rfl, rfl⟩
    go_wp2_with fail
    refine (sDecode_c d _).mono ?_
    rw [HX.out, HKd.out, HT.out]
    rintro e wz ⟨rfl, rfl⟩
    clear HT0
    cases T
    · go_wp2_with fail
      refine (drawGray_c A n c _ (hide (h1.out.below (by go_grown))) HN.out).mono ?_
      rintro e w5 ⟨m, rfl, hm0, hm1, hb⟩
      have hT : Below w.heap.size w w5 := (fun W h hb => below_via h (hb) : ∀ W : World, (Below w.heap.size w W) → Below W.heap.size W w5 → (Below w.heap.size w w5)) _ (by first | (with_reducible assumption) | go_grown) hb
      (try clear hS)
      have hS := hT
      clear hT
      have hB := hS
      have hzw : w.heap.size ≤ w5.heap.size := hB.size
      clear hb
      obtain ⟨G, HG0⟩ : ∃ q, (gyV m) = q := ⟨_, rfl⟩
      have HG := hide HG0
      obtain ⟨Km, HKm0⟩ : ∃ q, (wi m 0 2047) = q := ⟨_, rfl⟩
      have HKm := hide HKm0
      go_wp2_with fail
      refine (gy_c m _).mono ?_
      rw [HG.out, HKm.out]
      rintro e w6 ⟨rfl, hb⟩
      have hT : Below w.heap.size w w6 := (fun W h hb => below_via h (hb) : ∀ W : World, (Below w.heap.size w W) → Below W.heap.size W w6 → (Below w.heap.size w w6)) _ (by first | (with_reducible assumption) | go_grown) hb
      (try clear hS)
      have hS := hT
      clear hT
      have hB := hS
      have hzw : w.heap.size ≤ w6.heap.size := hB.size
      clear hb
      go_wp2_with fail
      refine (sgy_c m _).mono ?_
      rw [HG.out, HKm.out]
      rintro e w7 ⟨rfl, hb⟩
      have hT : Below w.heap.size w w7 := (fun W h hb => below_via h (hb) : ∀ W : World, (Below w.heap.size w W) → Below W.heap.size W w7 → (Below w.heap.size w w7)) _ (by first | (with_reducible assumption) | go_grown) hb
      (try clear hS)
      have hS := hT
      clear hT
      have hB := hS
      have hzw : w.heap.size ≤ w7.heap.size := hB.size
      clear hb
      cases Km
      · go_wp2_with fail
        refine (drawCB_c A n c _ (hide (h1.out.below (by go_grown))) HN.out).mono ?_
        rintro e w8 ⟨a, b, rfl, hb⟩
        have hT : Below w.heap.size w w8 := (fun W h hb => below_via h (hb) : ∀ W : World, (Below w.heap.size w W) → Below W.heap.size W w8 → (Below w.heap.size w w8)) _ (by first | (with_reducible assumption) | go_grown) hb
        (try clear hS)
        have hS := hT
        clear hT
        have hB := hS
        have hzw : w.heap.size ≤ w8.heap.size := hB.size
        clear hb
        obtain ⟨B, HB0⟩ : ∃ q, (cb a b) = q := ⟨_, rfl⟩
        have HB := hide HB0
        obtain ⟨K4, HK40⟩ : ∃ q, (cbK a b) = q := ⟨_, rfl⟩
        have HK4 := hide HK40
        go_wp2_with fail
        refine (changedBits_c a b _).mono ?_
        rw [HB.out, HK4.out]
        rintro e w9 ⟨rfl, hb⟩
        have hT : Below w.heap.size w w9 := (fun W h hb => below_via h (hb) : ∀ W : World, (Below w.heap.size w W) → Below W.heap.size W w9 → (Below w.heap.size w w9)) _ (by first | (with_reducible assumption) | go_grown) hb
        (try clear hS)
        have hS := hT
        clear hT
        have hB := hS
        have hzw : w.heap.size ≤ w9.heap.size := hB.size
        clear hb
        go_wp2_with fail
        refine (sChangedBits_c a b _).mono ?_
        rw [HB.out, HK4.out]
        rintro e w10 ⟨rfl, hb⟩
        have hT : Below w.heap.size w w10 := (fun W h hb => below_via h (hb) : ∀ W : World, (Below w.heap.size w W) → Below W.heap.size W w10 → (Below w.heap.size w w10)) _ (by first | (with_reducible assumption) | go_grown) hb
        (try clear hS)
        have hS := hT
        clear hT
        have hB := hS
        have hzw : w.heap.size ≤ w10.heap.size := hB.size
        clear hb
        go_wp2
        go_returns
        exact ⟨ret_eq (by simp), by go_grown⟩
      obtain ⟨q0, q1⟩ := wi_iff.1 HKm.out
      have hGg := HG0
      unfold gyV at hGg
      rw [HKm.out, if_pos rfl] at hGg
      obtain ⟨g0, g1⟩ := gr_bd q0 q1
      rw [hGg] at g0 g1
      have HW1 := hide (show wi G 0 2047 = true from wi_iff.2 ⟨g0, g1⟩)
      have HW2 := hide (show fyV G = m from by unfold fyV; rw [HW1.out, if_pos rfl, ← hGg, fg_gr q0 q1])
      go_wp2_with fail
      refine (fy_c G _).mono ?_
      rw [HW2.out, HW1.out]
      rintro e w8 ⟨rfl, hb⟩
      have hT : Below w.heap.size w w8 := (fun W h hb => below_via h (hb) : ∀ W : World, (Below w.heap.size w W) → Below W.heap.size W w8 → (Below w.heap.size w w8)) _ (by first | (with_reducible assumption) | go_grown) hb
      (try clear hS)
      have hS := hT
      clear hT
      have hB := hS
      have hzw : w.heap.size ≤ w8.heap.size := hB.size
      clear hb
      by_cases hm : m < 1279
      · have HZ1 := hide (show wi (m + 1) 0 2047 = true from wi_iff.2 (by omega))
        obtain ⟨st1, st2⟩ := gr_step q0 hm
        rw [hGg] at st1 st2
        obtain ⟨G2, HG20⟩ : ∃ q, (gr (m + 1)) = q := ⟨_, rfl⟩
        have HG2 := hide HG20
        have HZ2 := hide (show gyV (m + 1) = G2 from by unfold gyV; rw [HZ1.out, if_pos rfl, HG2.out])
        rw [HG20] at st1 st2
        have HT1 := hide st1
        have HT2 := hide st2
        clear st1 st2 HG20 hGg HG0
        go_wp2_with fail
        refine (gy_c (m + 1) _).mono ?_
        rw [HZ2.out, HZ1.out]
        rintro e w9 ⟨rfl, hb⟩
        have hT : Below w.heap.size w w9 := (fun W h hb => below_via h (hb) : ∀ W : World, (Below w.heap.size w W) → Below W.heap.size W w9 → (Below w.heap.size w w9)) _ (by first | (with_reducible assumption) | go_grown) hb
        (try clear hS)
        have hS := hT
        clear hT
        have hB := hS
        have hzw : w.heap.size ≤ w9.heap.size := hB.size
        clear hb
        go_wp2_with fail
        refine (changedBits_c G G2 _).mono ?_
        rw [HT2.out, HT1.out]
        rintro e w10 ⟨rfl, hb⟩
        have hT : Below w.heap.size w w10 := (fun W h hb => below_via h (hb) : ∀ W : World, (Below w.heap.size w W) → Below W.heap.size W w10 → (Below w.heap.size w w10)) _ (by first | (with_reducible assumption) | go_grown) hb
        (try clear hS)
        have hS := hT
        clear hT
        have hB := hS
        have hzw : w.heap.size ≤ w10.heap.size := hB.size
        clear hb
        go_wp2_with fail
        refine (drawCB_c A n c _ (hide (h1.out.below (by go_grown))) HN.out).mono ?_
        rintro e w11 ⟨a, b, rfl, hb⟩
        have hT : Below w.heap.size w w11 := (fun W h hb => below_via h (hb) : ∀ W : World, (Below w.heap.size w W) → Below W.heap.size W w11 → (Below w.heap.size w w11)) _ (by first | (with_reducible assumption) | go_grown) hb
        (try clear hS)
        have hS := hT
        clear hT
        have hB := hS
        have hzw : w.heap.size ≤ w11.heap.size := hB.size
        clear hb
        obtain ⟨B, HB0⟩ : ∃ q, (cb a b) = q := ⟨_, rfl⟩
        have HB := hide HB0
        obtain ⟨K4, HK40⟩ : ∃ q, (cbK a b) = q := ⟨_, rfl⟩
        have HK4 := hide HK40
        go_wp2_with fail
        refine (changedBits_c a b _).mono ?_
        rw [HB.out, HK4.out]
        rintro e w12 ⟨rfl, hb⟩
        have hT : Below w.heap.size w w12 := (fun W h hb => below_via h (hb) : ∀ W : World, (Below w.heap.size w W) → Below W.heap.size W w12 → (Below w.heap.size w w12)) _ (by first | (with_reducible assumption) | go_grown) hb
        (try clear hS)
        have hS := hT
        clear hT
        have hB := hS
        have hzw : w.heap.size ≤ w12.heap.size := hB.size
        clear hb
        go_wp2_with fail
        refine (sChangedBits_c a b _).mono ?_
        rw [HB.out, HK4.out]
        rintro e w13 ⟨rfl, hb⟩
        have hT : Below w.heap.size w w13 := (fun W h hb => below_via h (hb) : ∀ W : World, (Below w.heap.size w W) → Below W.heap.size W w13 → (Below w.heap.size w w13)) _ (by first | (with_reducible assumption) | go_grown) hb
        (try clear hS)
        have hS := hT
        clear hT
        have hB := hS
        have hzw : w.heap.size ≤ w13.heap.size := hB.size
        clear hb
        go_wp2
        go_returns
        exact ⟨ret_eq (by simp), by go_grown⟩
      obtain ⟨G2, HG20⟩ : ∃ q, (gyV (m + 1)) = q := ⟨_, rfl⟩
      have HG2 := hide HG20
      obtain ⟨K2, HK20⟩ : ∃ q, (wi (m + 1) 0 2047) = q := ⟨_, rfl⟩
      have HK2 := hide HK20
      go_wp2_with fail
      refine (gy_c (m + 1) _).mono ?_
      rw [HG2.out, HK2.out]
      rintro e w9 ⟨rfl, hb⟩
      have hT : Below w.heap.size w w9 := (fun W h hb => below_via h (hb) : ∀ W : World, (Below w.heap.size w W) → Below W.heap.size W w9 → (Below w.heap.size w w9)) _ (by first | (with_reducible assumption) | go_grown) hb
      (try clear hS)
      have hS := hT
      clear hT
      have hB := hS
      have hzw : w.heap.size ≤ w9.heap.size := hB.size
      clear hb
      cases K2
      all_goals
        go_wp2_with fail
        refine (drawCB_c A n c _ (hide (h1.out.below (by go_grown))) HN.out).mono ?_
        rintro e w10 ⟨a, b, rfl, hb⟩
        have hT : Below w.heap.size w w10 := (fun W h hb => below_via h (hb) : ∀ W : World, (Below w.heap.size w W) → Below W.heap.size W w10 → (Below w.heap.size w w10)) _ (by first | (with_reducible assumption) | go_grown) hb
        (try clear hS)
        have hS := hT
        clear hT
        have hB := hS
        have hzw : w.heap.size ≤ w10.heap.size := hB.size
        clear hb
        obtain ⟨B, HB0⟩ : ∃ q, (cb a b) = q := ⟨_, rfl⟩
        have HB := hide HB0
        obtain ⟨K4, HK40⟩ : ∃ q, (cbK a b) = q := ⟨_, rfl⟩
        have HK4 := hide HK40
        go_wp2_with fail
        refine (changedBits_c a b _).mono ?_
        rw [HB.out, HK4.out]
        rintro e w11 ⟨rfl, hb⟩
        have hT : Below w.heap.size w w11 := (fun W h hb => below_via h (hb) : ∀ W : World, (Below w.heap.size w W) → Below W.heap.size W w11 → (Below w.heap.size w w11)) _ (by first | (with_reducible assumption) | go_grown) hb
        (try clear hS)
        have hS := hT
        clear hT
        have hB := hS
        have hzw : w.heap.size ≤ w11.heap.size := hB.size
        clear hb
        go_wp2_with fail
        refine (sChangedBits_c a b _).mono ?_
        rw [HB.out, HK4.out]
        rintro e w12 ⟨rfl, hb⟩
        have hT : Below w.heap.size w w12 := (fun W h hb => below_via h (hb) : ∀ W : World, (Below w.heap.size w W) → Below W.heap.size W w12 → (Below w.heap.size w w12)) _ (by first | (with_reducible assumption) | go_grown) hb
        (try clear hS)
        have hS := hT
        clear hT
        have hB := hS
        have hzw : w.heap.size ≤ w12.heap.size := hB.size
        clear hb
        go_wp2
        go_returns
        exact ⟨ret_eq (by simp), by go_grown⟩
    obtain ⟨de1, de2⟩ := dec_enc HT.out
    rw [HX0, HKd0] at de1 de2
    obtain ⟨xb0, xb1⟩ := encK_bd de1
    have HD1 := hide de1
    have HD2 := hide de2
    clear de1 de2
    go_wp2_with fail
    refine (encode_c X Kd (by omega) (by omega) _).mono ?_
    rw [HD2.out, HD1.out]
    rintro e w5 ⟨rfl, hb⟩
    have hT : Below w.heap.size w w5 := (fun W h hb => below_via h (hb) : ∀ W : World, (Below w.heap.size w W) → Below W.heap.size W w5 → (Below w.heap.size w w5)) _ (by first | (with_reducible assumption) | go_grown) hb
    (try clear hS)
    have hS := hT
    clear hT
    have hB := hS
    have hzw : w.heap.size ≤ w5.heap.size := hB.size
    clear hb
    go_wp2_with fail
    refine (drawGray_c A n c _ (hide (h1.out.below (by go_grown))) HN.out).mono ?_
    rintro e w6 ⟨m, rfl, hm0, hm1, hb⟩
    have hT : Below w.heap.size w w6 := (fun W h hb => below_via h (hb) : ∀ W : World, (Below w.heap.size w W) → Below W.heap.size W w6 → (Below w.heap.size w w6)) _ (by first | (with_reducible assumption) | go_grown) hb
    (try clear hS)
    have hS := hT
    clear hT
    have hB := hS
    have hzw : w.heap.size ≤ w6.heap.size := hB.size
    clear hb
    obtain ⟨G, HG0⟩ : ∃ q, (gyV m) = q := ⟨_, rfl⟩
    have HG := hide HG0
    obtain ⟨Km, HKm0⟩ : ∃ q, (wi m 0 2047) = q := ⟨_, rfl⟩
    have HKm := hide HKm0
    go_wp2_with fail
    refine (gy_c m _).mono ?_
    rw [HG.out, HKm.out]
    rintro e w7 ⟨rfl, hb⟩
    have hT : Below w.heap.size w w7 := (fun W h hb => below_via h (hb) : ∀ W : World, (Below w.heap.size w W) → Below W.heap.size W w7 → (Below w.heap.size w w7)) _ (by first | (with_reducible assumption) | go_grown) hb
    (try clear hS)
    have hS := hT
    clear hT
    have hB := hS
    have hzw : w.heap.size ≤ w7.heap.size := hB.size
    clear hb
    go_wp2_with fail
    refine (sgy_c m _).mono ?_
    rw [HG.out, HKm.out]
    rintro e w8 ⟨rfl, hb⟩
    have hT : Below w.heap.size w w8 := (fun W h hb => below_via h (hb) : ∀ W : World, (Below w.heap.size w W) → Below W.heap.size W w8 → (Below w.heap.size w w8)) _ (by first | (with_reducible assumption) | go_grown) hb
    (try clear hS)
    have hS := hT
    clear hT
    have hB := hS
    have hzw : w.heap.size ≤ w8.heap.size := hB.size
    clear hb
    cases Km
    · go_wp2_with fail
      refine (drawCB_c A n c _ (hide (h1.out.below (by go_grown))) HN.out).mono ?_
      rintro e w9 ⟨a, b, rfl, hb⟩
      have hT : Below w.heap.size w w9 := (fun W h hb => below_via h (hb) : ∀ W : World, (Below w.heap.size w W) → Below W.heap.size W w9 → (Below w.heap.size w w9)) _ (by first | (with_reducible assumption) | go_grown) hb
      (try clear hS)
      have hS := hT
      clear hT
      have hB := hS
      have hzw : w.heap.size ≤ w9.heap.size := hB.size
      clear hb
      obtain ⟨B, HB0⟩ : ∃ q, (cb a b) = q := ⟨_, rfl⟩
      have HB := hide HB0
      obtain ⟨K4, HK40⟩ : ∃ q, (cbK a b) = q := ⟨_, rfl⟩
      have HK4 := hide HK40
      go_wp2_with fail
      refine (changedBits_c a b _).mono ?_
      rw [HB.out, HK4.out]
      rintro e w10 ⟨rfl, hb⟩
      have hT : Below w.heap.size w w10 := (fun W h hb => below_via h (hb) : ∀ W : World, (Below w.heap.size w W) → Below W.heap.size W w10 → (Below w.heap.size w w10)) _ (by first | (with_reducible assumption) | go_grown) hb
      (try clear hS)
      have hS := hT
      clear hT
      have hB := hS
      have hzw : w.heap.size ≤ w10.heap.size := hB.size
      clear hb
      go_wp2_with fail
      refine (sChangedBits_c a b _).mono ?_
      rw [HB.out, HK4.out]
      rintro e w11 ⟨rfl, hb⟩
      have hT : Below w.heap.size w w11 := (fun W h hb => below_via h (hb) : ∀ W : World, (Below w.heap.size w W) → Below W.heap.size W w11 → (Below w.heap.size w w11)) _ (by first | (with_reducible assumption) | go_grown) hb
      (try clear hS)
      have hS := hT
      clear hT
      have hB := hS
      have hzw : w.heap.size ≤ w11.heap.size := hB.size
      clear hb
      go_wp2
      go_returns
      exact ⟨ret_eq (by simp), by go_grown⟩
    obtain ⟨q0, q1⟩ := wi_iff.1 HKm.out
    have hGg := HG0
    unfold gyV at hGg
    rw [HKm.out, if_pos rfl] at hGg
    obtain ⟨g0, g1⟩ := gr_bd q0 q1
    rw [hGg] at g0 g1
    have HW1 := hide (show wi G 0 2047 = true from wi_iff.2 ⟨g0, g1⟩)
    have HW2 := hide (show fyV G = m from by unfold fyV; rw [HW1.out, if_pos rfl, ← hGg, fg_gr q0 q1])
    go_wp2_with fail
    refine (fy_c G _).mono ?_
    rw [HW2.out, HW1.out]
    rintro e w9 ⟨rfl, hb⟩
    have hT : Below w.heap.size w w9 := (fun W h hb => below_via h (hb) : ∀ W : World, (Below w.heap.size w W) → Below W.heap.size W w9 → (Below w.heap.size w w9)) _ (by first | (with_reducible assumption) | go_grown) hb
    (try clear hS)
    have hS := hT
    clear hT
    have hB := hS
    have hzw : w.heap.size ≤ w9.heap.size := hB.size
    clear hb
    by_cases hm : m < 1279
    · have HZ1 := hide (show wi (m + 1) 0 2047 = true from wi_iff.2 (by omega))
      obtain ⟨st1, st2⟩ := gr_step q0 hm
      rw [hGg] at st1 st2
      obtain ⟨G2, HG20⟩ : ∃ q, (gr (m + 1)) = q := ⟨_, rfl⟩
      have HG2 := hide HG20
      have HZ2 := hide (show gyV (m + 1) = G2 from by unfold gyV; rw [HZ1.out, if_pos rfl, HG2.out])
      rw [HG20] at st1 st2
      have HT1 := hide st1
      have HT2 := hide st2
      clear st1 st2 HG20 hGg HG0
      go_wp2_with fail
      refine (gy_c (m + 1) _).mono ?_
      rw [HZ2.out, HZ1.out]
      rintro e w10 ⟨rfl, hb⟩
      have hT : Below w.heap.size w w10 := (fun W h hb => below_via h (hb) : ∀ W : World, (Below w.heap.size w W) → Below W.heap.size W w10 → (Below w.heap.size w w10)) _ (by first | (with_reducible assumption) | go_grown) hb
      (try clear hS)
      have hS := hT
      clear hT
      have hB := hS
      have hzw : w.heap.size ≤ w10.heap.size := hB.size
      clear hb
      go_wp2_with fail
      refine (changedBits_c G G2 _).mono ?_
      rw [HT2.out, HT1.out]
      rintro e w11 ⟨rfl, hb⟩
      have hT : Below w.heap.size w w11 := (fun W h hb => below_via h (hb) : ∀ W : World, (Below w.heap.size w W) → Below W.heap.size W w11 → (Below w.heap.size w w11)) _ (by first | (with_reducible assumption) | go_grown) hb
      (try clear hS)
      have hS := hT
      clear hT
      have hB := hS
      have hzw : w.heap.size ≤ w11.heap.size := hB.size
      clear hb
      go_wp2_with fail
      refine (drawCB_c A n c _ (hide (h1.out.below (by go_grown))) HN.out).mono ?_
      rintro e w12 ⟨a, b, rfl, hb⟩
      have hT : Below w.heap.size w w12 := (fun W h hb => below_via h (hb) : ∀ W : World, (Below w.heap.size w W) → Below W.heap.size W w12 → (Below w.heap.size w w12)) _ (by first | (with_reducible assumption) | go_grown) hb
      (try clear hS)
      have hS := hT
      clear hT
      have hB := hS
      have hzw : w.heap.size ≤ w12.heap.size := hB.size
      clear hb
      obtain ⟨B, HB0⟩ : ∃ q, (cb a b) = q := ⟨_, rfl⟩
      have HB := hide HB0
      obtain ⟨K4, HK40⟩ : ∃ q, (cbK a b) = q := ⟨_, rfl⟩
      have HK4 := hide HK40
      go_wp2_with fail
      refine (changedBits_c a b _).mono ?_
      rw [HB.out, HK4.out]
      rintro e w13 ⟨rfl, hb⟩
      have hT : Below w.heap.size w w13 := (fun W h hb => below_via h (hb) : ∀ W : World, (Below w.heap.size w W) → Below W.heap.size W w13 → (Below w.heap.size w w13)) _ (by first | (with_reducible assumption) | go_grown) hb
      (try clear hS)
      have hS := hT
      clear hT
      have hB := hS
      have hzw : w.heap.size ≤ w13.heap.size := hB.size
      clear hb
      go_wp2_with fail
      refine (sChangedBits_c a b _).mono ?_
      rw [HB.out, HK4.out]
      rintro e w14 ⟨rfl, hb⟩
      have hT : Below w.heap.size w w14 := (fun W h hb => below_via h (hb) : ∀ W : World, (Below w.heap.size w W) → Below W.heap.size W w14 → (Below w.heap.size w w14)) _ (by first | (with_reducible assumption) | go_grown) hb
      (try clear hS)
      have hS := hT
      clear hT
      have hB := hS
      have hzw : w.heap.size ≤ w14.heap.size := hB.size
      clear hb
      go_wp2
      go_returns
      exact ⟨ret_eq (by simp), by go_grown⟩
    obtain ⟨G2, HG20⟩ : ∃ q, (gyV (m + 1)) = q := ⟨_, rfl⟩
    have HG2 := hide HG20
    obtain ⟨K2, HK20⟩ : ∃ q, (wi (m + 1) 0 2047) = q := ⟨_, rfl⟩
    have HK2 := hide HK20
    go_wp2_with fail
    refine (gy_c (m + 1) _).mono ?_
    rw [HG2.out, HK2.out]
    rintro e w10 ⟨rfl, hb⟩
    have hT : Below w.heap.size w w10 := (fun W h hb => below_via h (hb) : ∀ W : World, (Below w.heap.size w W) → Below W.heap.size W w10 → (Below w.heap.size w w10)) _ (by first | (with_reducible assumption) | go_grown) hb
    (try clear hS)
    have hS := hT
    clear hT
    have hB := hS
    have hzw : w.heap.size ≤ w10.heap.size := hB.size
    clear hb
    cases K2
    all_goals
      go_wp2_with fail
      refine (drawCB_c A n c _ (hide (h1.out.below (by go_grown))) HN.out).mono ?_
      rintro e w11 ⟨a, b, rfl, hb⟩
      have hT : Below w.heap.size w w11 := (fun W h hb => below_via h (hb) : ∀ W : World, (Below w.heap.size w W) → Below W.heap.size W w11 → (Below w.heap.size w w11)) _ (by first | (with_reducible assumption) | go_grown) hb
      (try clear hS)
      have hS := hT
      clear hT
      have hB := hS
      have hzw : w.heap.size ≤ w11.heap.size := hB.size
      clear hb
      obtain ⟨B, HB0⟩ : ∃ q, (cb a b) = q := ⟨_, rfl⟩
      have HB := hide HB0
      obtain ⟨K4, HK40⟩ : ∃ q, (cbK a b) = q := ⟨_, rfl⟩
      have HK4 := hide HK40
      go_wp2_with fail
      refine (changedBits_c a b _).mono ?_
      rw [HB.out, HK4.out]
      rintro e w12 ⟨rfl, hb⟩
      have hT : Below w.heap.size w w12 := (fun W h hb => below_via h (hb) : ∀ W : World, (Below w.heap.size w W) → Below W.heap.size W w12 → (Below w.heap.size w w12)) _ (by first | (with_reducible assumption) | go_grown) hb
      (try clear hS)
      have hS := hT
      clear hT
      have hB := hS
      have hzw : w.heap.size ≤ w12.heap.size := hB.size
      clear hb
      go_wp2_with fail
      refine (sChangedBits_c a b _).mono ?_
      rw [HB.out, HK4.out]
      rintro e w13 ⟨rfl, hb⟩
      have hT : Below w.heap.size w w13 := (fun W h hb => below_via h (hb) : ∀ W : World, (Below w.heap.size w W) → Below W.heap.size W w13 → (Below w.heap.size w w13)) _ (by first | (with_reducible assumption) | go_grown) hb
      (try clear hS)
      have hS := hT
      clear hT
      have hB := hS
      have hzw : w.heap.size ≤ w13.heap.size := hB.size
      clear hb
      go_wp2
      go_returns
      exact ⟨ret_eq (by simp), by go_grown⟩
  obtain ⟨ed1, ed2, ed3⟩ := enc_dec HK.out
  obtain ⟨ne1, ne2⟩ := near_enc HK.out
  rw [HC0] at ed1 ed2 ed3
  have HE1 := hide ed1
  have HE2 := hide ed2
  have HE3 := hide ed3
  have HF1 := hide ne1
  have HF2 := hide ne2
  clear ed1 ed2 ed3 ne1 ne2
  go_wp2_with fail
  refine (decodeHeight_c C _).mono ?_
  rw [HE3.out, HE2.out, HE1.out]
  rintro e wz ⟨rfl, rfl⟩
  go_wp2_with fail
  refine (near_c h f (by omega) (by omega) _).mono ?_
  rw [HF2.out, HF1.out]
  rintro e w4 ⟨rfl, hb⟩
  have hT : Below w.heap.size w w4 := (fun W h hb => below_via h (hb) : ∀ W : World, (Below w.heap.size w W) → Below W.heap.size W w4 → (Below w.heap.size w w4)) _ (by first | (with_reducible assumption) | go_grown) hb
  (try clear hS)
  have hS := hT
  clear hT
  have hB := hS
  have hzw : w.heap.size ≤ w4.heap.size := hB.size
  clear hb
  go_wp2_with fail
  refine (drawDec_c A n c _ (hide (h1.out.below (by go_grown))) HN.out).mono ?_
  rintro e w5 ⟨d, rfl, hd0, hd1, hb⟩
  have hT : Below w.heap.size w w5 := (fun W h hb => below_via h (hb) : ∀ W : World, (Below w.heap.size w W) → Below W.heap.size W w5 → (Below w.heap.size w w5)) _ (by first | (with_reducible assumption) | go_grown) hb
  (try clear hS)
  have hS := hT
  clear hT
  have hB := hS
  have hzw : w.heap.size ≤ w5.heap.size := hB.size
  clear hb
  obtain ⟨X, HX0⟩ : ∃ q, (decV d) = q := ⟨_, rfl⟩
  have HX := hide HX0
  obtain ⟨Kd, HKd0⟩ : ∃ q, (wi d 2048 4095) = q := ⟨_, rfl⟩
  have HKd := hide HKd0
  obtain ⟨T, HT0⟩ : ∃ q, (decOk d) = q := ⟨_, rfl⟩
  have HT := hide HT0
  go_wp2_with fail
  refine (decodeHeight_c d _).mono ?_
  rw [HX.out, HKd.out, HT.out]
  rintro e wz ⟨rfl, rfl⟩
  go_wp2_with fail
  refine (sDecode_c d _).mono ?_
  rw [HX.out, HKd.out, HT.out]
  rintro e wz ⟨rfl, rfl⟩
  clear HT0
  cases T
  · go_wp2_with fail
    refine (drawGray_c A n c _ (hide (h1.out.below (by go_grown))) HN.out).mono ?_
    rintro e w6 ⟨m, rfl, hm0, hm1, hb⟩
    have hT : Below w.heap.size w w6 := (fun W h hb => below_via h (hb) : ∀ W : World, (Below w.heap.size w W) → Below W.heap.size W w6 → (Below w.heap.size w w6)) _ (by first | (with_reducible assumption) | go_grown) hb
    (try clear hS)
    have hS := hT
    clear hT
    have hB := hS
    have hzw : w.heap.size ≤ w6.heap.size := hB.size
    clear hb
    obtain ⟨G, HG0⟩ : ∃ q, (gyV m) = q := ⟨_, rfl⟩
    have HG := hide HG0
    obtain ⟨Km, HKm0⟩ : ∃ q, (wi m 0 2047) = q := ⟨_, rfl⟩
    have HKm := hide HKm0
    go_wp2_with fail
    refine (gy_c m _).mono ?_
    rw [HG.out, HKm.out]
    rintro e w7 ⟨rfl, hb⟩
    have hT : Below w.heap.size w w7 := (fun W h hb => below_via h (hb) : ∀ W : World, (Below w.heap.size w W) → Below W.heap.size W w7 → (Below w.heap.size w w7)) _ (by first | (with_reducible assumption) | go_grown) hb
    (try clear hS)
    have hS := hT
    clear hT
    have hB := hS
    have hzw : w.heap.size ≤ w7.heap.size := hB.size
    clear hb
    go_wp2_with fail
    refine (sgy_c m _).mono ?_
    rw [HG.out, HKm.out]
    rintro e w8 ⟨rfl, hb⟩
    have hT : Below w.heap.size w w8 := (fun W h hb => below_via h (hb) : ∀ W : World, (Below w.heap.size w W) → Below W.heap.size W w8 → (Below w.heap.size w w8)) _ (by first | (with_reducible assumption) | go_grown) hb
    (try clear hS)
    have hS := hT
    clear hT
    have hB := hS
    have hzw : w.heap.size ≤ w8.heap.size := hB.size
    clear hb
    cases Km
    · go_wp2_with fail
      refine (drawCB_c A n c _ (hide (h1.out.below (by go_grown))) HN.out).mono ?_
      rintro e w9 ⟨a, b, rfl, hb⟩
      have hT : Below w.heap.size w w9 := (fun W h hb => below_via h (hb) : ∀ W : World, (Below w.heap.size w W) → Below W.heap.size W w9 → (Below w.heap.size w w9)) _ (by first | (with_reducible assumption) | go_grown) hb
      (try clear hS)
      have hS := hT
      clear hT
      have hB := hS
      have hzw : w.heap.size ≤ w9.heap.size := hB.size
      clear hb
      obtain ⟨B, HB0⟩ : ∃ q, (cb a b) = q := ⟨_, rfl⟩
      have HB := hide HB0
      obtain ⟨K4, HK40⟩ : ∃ q, (cbK a b) = q := ⟨_, rfl⟩
      have HK4 := hide HK40
      go_wp2_with fail
      refine (changedBits_c a b _).mono ?_
      rw [HB.out, HK4.out]
      rintro e w10 ⟨rfl, hb⟩
      have hT : Below w.heap.size w w10 := (fun W h hb => below_via h (hb) : ∀ W : World, (Below w.heap.size w W) → Below W.heap.size W w10 → (Below w.heap.size w w10)) _ (by first | (with_reducible assumption) | go_grown) hb
      (try clear hS)
      have hS := hT
      clear hT
      have hB := hS
      have hzw : w.heap.size ≤ w10.heap.size := hB.size
      clear hb
      go_wp2_with fail
      refine (sChangedBits_c a b _).mono ?_
      rw [HB.out, HK4.out]
      rintro e w11 ⟨rfl, hb⟩
      have hT : Below w.heap.size w w11 := (fun W h hb => below_via h (hb) : ∀ W : World, (Below w.heap.size w W) → Below W.heap.size W w11 → (Below w.heap.size w w11)) _ (by first | (with_reducible assumption) | go_grown) hb
      (try clear hS)
      have hS := hT
      clear hT
      have hB := hS
      have hzw : w.heap.size ≤ w11.heap.size := hB.size
      clear hb
      go_wp2
      go_returns
      exact ⟨ret_eq (by simp), by go_grown⟩
    obtain ⟨q0, q1⟩ := wi_iff.1 HKm.out
    have hGg := HG0
    unfold gyV at hGg
    rw [HKm.out, if_pos rfl] at hGg
    obtain ⟨g0, g1⟩ := gr_bd q0 q1
    rw [hGg] at g0 g1
    have HW1 := hide (show wi G 0 2047 = true from wi_iff.2 ⟨g0, g1⟩)
    have HW2 := hide (show fyV G = m from by unfold fyV; rw [HW1.out, if_pos rfl, ← hGg, fg_gr q0 q1])
    go_wp2_with fail
    refine (fy_c G _).mono ?_
    rw [HW2.out, HW1.out]
    rintro e w9 ⟨rfl, hb⟩
    have hT : Below w.heap.size w w9 := (fun W h hb => below_via h (hb) : ∀ W : World, (Below w.heap.size w W) → Below W.heap.size W w9 → (Below w.heap.size w w9)) _ (by first | (with_reducible assumption) | go_grown) hb
    (try clear hS)
    have hS := hT
    clear hT
    have hB := hS
    have hzw : w.heap.size ≤ w9.heap.size := hB.size
    clear hb
    by_cases hm : m < 1279
    · have HZ1 := hide (show wi (m + 1) 0 2047 = true from wi_iff.2 (by omega))
      obtain ⟨st1, st2⟩ := gr_step q0 hm
      rw [hGg] at st1 st2
      obtain ⟨G2, HG20⟩ : ∃ q, (gr (m + 1)) = q := ⟨_, rfl⟩
      have HG2 := hide HG20
      have HZ2 := hide (show gyV (m + 1) = G2 from by unfold gyV; rw [HZ1.out, if_pos rfl, HG2.out])
      rw [HG20] at st1 st2
      have HT1 := hide st1
      have HT2 := hide st2
      clear st1 st2 HG20 hGg HG0
      go_wp2_with fail
      refine (gy_c (m + 1) _).mono ?_
      rw [HZ2.out, HZ1.out]
      rintro e w10 ⟨rfl, hb⟩
      have hT : Below w.heap.size w w10 := (fun W h hb => below_via h (hb) : ∀ W : World, (Below w.heap.size w W) → Below W.heap.size W w10 → (Below w.heap.size w w10)) _ (by first | (with_reducible assumption) | go_grown) hb
      (try clear hS)
      have hS := hT
      clear hT
      have hB := hS
      have hzw : w.heap.size ≤ w10.heap.size := hB.size
      clear hb
      go_wp2_with fail
      refine (changedBits_c G G2 _).mono ?_
      rw [HT2.out, HT1.out]
      rintro e w11 ⟨rfl, hb⟩
      have hT : Below w.heap.size w w11 := (fun W h hb => below_via h (hb) : ∀ W : World, (Below w.heap.size w W) → Below W.heap.size W w11 → (Below w.heap.size w w11)) _ (by first | (with_reducible assumption) | go_grown) hb
      (try clear hS)
      have hS := hT
      clear hT
      have hB := hS
      have hzw : w.heap.size ≤ w11.heap.size := hB.size
      clear hb
      go_wp2_with fail
      refine (drawCB_c A n c _ (hide (h1.out.below (by go_grown))) HN.out).mono ?_
      rintro e w12 ⟨a, b, rfl, hb⟩
      have hT : Below w.heap.size w w12 := (fun W h hb => below_via h (hb) : ∀ W : World, (Below w.heap.size w W) → Below W.heap.size W w12 → (Below w.heap.size w w12)) _ (by first | (with_reducible assumption) | go_grown) hb
      (try clear hS)
      have hS := hT
      clear hT
      have hB := hS
      have hzw : w.heap.size ≤ w12.heap.size := hB.size
      clear hb
      obtain ⟨B, HB0⟩ : ∃ q, (cb a b) = q := ⟨_, rfl⟩
      have HB := hide HB0
      obtain ⟨K4, HK40⟩ : ∃ q, (cbK a b) = q := ⟨_, rfl⟩
      have HK4 := hide HK40
      go_wp2_with fail
      refine (changedBits_c a b _).mono ?_
      rw [HB.out, HK4.out]
      rintro e w13 ⟨rfl, hb⟩
      have hT : Below w.heap.size w w13 := (fun W h hb => below_via h (hb) : ∀ W : World, (Below w.heap.size w W) → Below W.heap.size W w13 → (Below w.heap.size w w13)) _ (by first | (with_reducible assumption) | go_grown) hb
      (try clear hS)
      have hS := hT
      clear hT
      have hB := hS
      have hzw : w.heap.size ≤ w13.heap.size := hB.size
      clear hb
      go_wp2_with fail
      refine (sChangedBits_c a b _).mono ?_
      rw [HB.out, HK4.out]
      rintro e w14 ⟨rfl, hb⟩
      have hT : Below w.heap.size w w14 := (fun W h hb => below_via h (hb) : ∀ W : World, (Below w.heap.size w W) → Below W.heap.size W w14 → (Below w.heap.size w w14)) _ (by first | (with_reducible assumption) | go_grown) hb
      (try clear hS)
      have hS := hT
      clear hT
      have hB := hS
      have hzw : w.heap.size ≤ w14.heap.size := hB.size
      clear hb
      go_wp2
      go_returns
      exact ⟨ret_eq (by simp), by go_grown⟩
    obtain ⟨G2, HG20⟩ : ∃ q, (gyV (m + 1)) = q := ⟨_, rfl⟩
    have HG2 := hide HG20
    obtain ⟨K2, HK20⟩ : ∃ q, (wi (m + 1) 0 2047) = q := ⟨_, rfl⟩
    have HK2 := hide HK20
    go_wp2_with fail
    refine (gy_c (m + 1) _).mono ?_
    rw [HG2.out, HK2.out]
    rintro e w10 ⟨rfl, hb⟩
    have hT : Below w.heap.size w w10 := (fun W h hb => below_via h (hb) : ∀ W : World, (Below w.heap.size w W) → Below W.heap.size W w10 → (Below w.heap.size w w10)) _ (by first | (with_reducible assumption) | go_grown) hb
    (try clear hS)
    have hS := hT
    clear hT
    have hB := hS
    have hzw : w.heap.size ≤ w10.heap.size := hB.size
    clear hb
    cases K2
    all_goals
      go_wp2_with fail
      refine (drawCB_c A n c _ (hide (h1.out.below (by go_grown))) HN.out).mono ?_
      rintro e w11 ⟨a, b, rfl, hb⟩
      have hT : Below w.heap.size w w11 := (fun W h hb => below_via h (hb) : ∀ W : World, (Below w.heap.size w W) → Below W.heap.size W w11 → (Below w.heap.size w w11)) _ (by first | (with_reducible assumption) | go_grown) hb
      (try clear hS)
      have hS := hT
      clear hT
      have hB := hS
      have hzw : w.heap.size ≤ w11.heap.size := hB.size
      clear hb
      obtain ⟨B, HB0⟩ : ∃ q, (cb a b) = q := ⟨_, rfl⟩
      have HB := hide HB0
      obtain ⟨K4, HK40⟩ : ∃ q, (cbK a b) = q := ⟨_, rfl⟩
      have HK4 := hide HK40
      go_wp2_with fail
      refine (changedBits_c a b _).mono ?_
      rw [HB.out, HK4.out]
      rintro e w12 ⟨rfl, hb⟩
      have hT : Below w.heap.size w w12 := (fun W h hb => below_via h (hb) : ∀ W : World, (Below w.heap.size w W) → Below W.heap.size W w12 → (Below w.heap.size w w12)) _ (by first | (with_reducible assumption) | go_grown) hb
      (try clear hS)
      have hS := hT
      clear hT
      have hB := hS
      have hzw : w.heap.size ≤ w12.heap.size := hB.size
      clear hb
      go_wp2_with fail
      refine (sChangedBits_c a b _).mono ?_
      rw [HB.out, HK4.out]
      rintro e w13 ⟨rfl, hb⟩
      have hT : Below w.heap.size w w13 := (fun W h hb => below_via h (hb) : ∀ W : World, (Below w.heap.size w W) → Below W.heap.size W w13 → (Below w.heap.size w w13)) _ (by first | (with_reducible assumption) | go_grown) hb
      (try clear hS)
      have hS := hT
      clear hT
      have hB := hS
      have hzw : w.heap.size ≤ w13.heap.size := hB.size
      clear hb
      go_wp2
      go_returns
      exact ⟨ret_eq (by simp), by go_grown⟩
  obtain ⟨de1, de2⟩ := dec_enc HT.out
  rw [HX0, HKd0] at de1 de2
  obtain ⟨xb0, xb1⟩ := encK_bd de1
  have HD1 := hide de1
  have HD2 := hide de2
  clear de1 de2
  go_wp2_with fail
  refine (encode_c X Kd (by omega) (by omega) _).mono ?_
  rw [HD2.out, HD1.out]
  rintro e w6 ⟨rfl, hb⟩
  have hT : Below w.heap.size w w6 := (fun W h hb => below_via h (hb) : ∀ W : World, (Below w.heap.size w W) → Below W.heap.size W w6 → (Below w.heap.size w w6)) _ (by first | (with_reducible assumption) | go_grown) hb
  (try clear hS)
  have hS := hT
  clear hT
  have hB := hS
  have hzw : w.heap.size ≤ w6.heap.size := hB.size
  clear hb
  go_wp2_with fail
  refine (drawGray_c A n c _ (hide (h1.out.below (by go_grown))) HN.out).mono ?_
  rintro e w7 ⟨m, rfl, hm0, hm1, hb⟩
  have hT : Below w.heap.size w w7 := (fun W h hb => below_via h (hb) : ∀ W : World, (Below w.heap.size w W) → Below W.heap.size W w7 → (Below w.heap.size w w7)) _ (by first | (with_reducible assumption) | go_grown) hb
  (try clear hS)
  have hS := hT
  clear hT
  have hB := hS
  have hzw : w.heap.size ≤ w7.heap.size := hB.size
  clear hb
  obtain ⟨G, HG0⟩ : ∃ q, (gyV m) = q := ⟨_, rfl⟩
  have HG := hide HG0
  obtain ⟨Km, HKm0⟩ : ∃ q, (wi m 0 2047) = q := ⟨_, rfl⟩
  have HKm := hide HKm0
  go_wp2_with fail
  refine (gy_c m _).mono ?_
  rw [HG.out, HKm.out]
  rintro e w8 ⟨rfl, hb⟩
  have hT : Below w.heap.size w w8 := (fun W h hb => below_via h (hb) : ∀ W : World, (Below w.heap.size w W) → Below W.heap.size W w8 → (Below w.heap.size w w8)) _ (by first | (with_reducible assumption) | go_grown) hb
  (try clear hS)
  have hS := hT
  clear hT
  have hB := hS
  have hzw : w.heap.size ≤ w8.heap.size := hB.size
  clear hb
  go_wp2_with fail
  refine (sgy_c m _).mono ?_
  rw [HG.out, HKm.out]
  rintro e w9 ⟨rfl, hb⟩
  have hT : Below w.heap.size w w9 := (fun W h hb => below_via h (hb) : ∀ W : World, (Below w.heap.size w W) → Below W.heap.size W w9 → (Below w.heap.size w w9)) _ (by first | (with_reducible assumption) | go_grown) hb
  (try clear hS)
  have hS := hT
  clear hT
  have hB := hS
  have hzw : w.heap.size ≤ w9.heap.size := hB.size
  clear hb
  cases Km
  · go_wp2_with fail
    refine (drawCB_c A n c _ (hide (h1.out.below (by go_grown))) HN.out).mono ?_
    rintro e w10 ⟨a, b, rfl, hb⟩
    have hT : Below w.heap.size w w10 := (fun W h hb => below_via h (hb) : ∀ W : World, (Below w.heap.size w W) → Below W.heap.size W w10 → (Below w.heap.size w w10)) _ (by first | (with_reducible assumption) | go_grown) hb
    (try clear hS)
    have hS := hT
    clear hT
    have hB := hS
    have hzw : w.heap.size ≤ w10.heap.size := hB.size
    clear hb
    obtain ⟨B, HB0⟩ : ∃ q, (cb a b) = q := ⟨_, rfl⟩
    have HB := hide HB0
    obtain ⟨K4, HK40⟩ : ∃ q, (cbK a b) = q := ⟨_, rfl⟩
    have HK4 := hide HK40
    go_wp2_with fail
    refine (changedBits_c a b _).mono ?_
    rw [HB.out, HK4.out]
    rintro e w11 ⟨rfl, hb⟩
    have hT : Below w.heap.size w w11 := (fun W h hb => below_via h (hb) : ∀ W : World, (Below w.heap.size w W) → Below W.heap.size W w11 → (Below w.heap.size w w11)) _ (by first | (with_reducible assumption) | go_grown) hb
    (try clear hS)
    have hS := hT
    clear hT
    have hB := hS
    have hzw : w.heap.size ≤ w11.heap.size := hB.size
    clear hb
    go_wp2_with fail
    refine (sChangedBits_c a b _).mono ?_
    rw [HB.out, HK4.out]
    rintro e w12 ⟨rfl, hb⟩
    have hT : Below w.heap.size w w12 := (fun W h hb => below_via h (hb) : ∀ W : World, (Below w.heap.size w W) → Below W.heap.size W w12 → (Below w.heap.size w w12)) _ (by first | (with_reducible assumption) | go_grown) hb
    (try clear hS)
    have hS := hT
    clear hT
    have hB := hS
    have hzw : w.heap.size ≤ w12.heap.size := hB.size
    clear hb
    go_wp2
    go_returns
    exact ⟨ret_eq (by simp), by go_grown⟩
  obtain ⟨q0, q1⟩ := wi_iff.1 HKm.out
  have hGg := HG0
  unfold gyV at hGg
  rw [HKm.out, if_pos rfl] at hGg
  obtain ⟨g0, g1⟩ := gr_bd q0 q1
  rw [hGg] at g0 g1
  have HW1 := hide (show wi G 0 2047 = true from wi_iff.2 ⟨g0, g1⟩)
  have HW2 := hide (show fyV G = m from by unfold fyV; rw [HW1.out, if_pos rfl, ← hGg, fg_gr q0 q1])
  go_wp2_with fail
  refine (fy_c G _).mono ?_
  rw [HW2.out, HW1.out]
  rintro e w10 ⟨rfl, hb⟩
  have hT : Below w.heap.size w w10 := (fun W h hb => below_via h (hb) : ∀ W : World, (Below w.heap.size w W) → Below W.heap.size W w10 → (Below w.heap.size w w10)) _ (by first | (with_reducible assumption) | go_grown) hb
  (try clear hS)
  have hS := hT
  clear hT
  have hB := hS
  have hzw : w.heap.size ≤ w10.heap.size := hB.size
  clear hb
  by_cases hm : m < 1279
  · have HZ1 := hide (show wi (m + 1) 0 2047 = true from wi_iff.2 (by omega))
    obtain ⟨st1, st2⟩ := gr_step q0 hm
    rw [hGg] at st1 st2
    obtain ⟨G2, HG20⟩ : ∃ q, (gr (m + 1)) = q := ⟨_, rfl⟩
    have HG2 := hide HG20
    have HZ2 := hide (show gyV (m + 1) = G2 from by unfold gyV; rw [HZ1.out, if_pos rfl, HG2.out])
    rw [HG20] at st1 st2
    have HT1 := hide st1
    have HT2 := hide st2
    clear st1 st2 HG20 hGg HG0
    go_wp2_with fail
    refine (gy_c (m + 1) _).mono ?_
    rw [HZ2.out, HZ1.out]
    rintro e w11 ⟨rfl, hb⟩
    have hT : Below w.heap.size w w11 := (fun W h hb => below_via h (hb) : ∀ W : World, (Below w.heap.size w W) → Below W.heap.size W w11 → (Below w.heap.size w w11)) _ (by first | (with_reducible assumption) | go_grown) hb
    (try clear hS)
    have hS := hT
    clear hT
    have hB := hS
    have hzw : w.heap.size ≤ w11.heap.size := hB.size
    clear hb
    go_wp2_with fail
    refine (changedBits_c G G2 _).mono ?_
    rw [HT2.out, HT1.out]
    rintro e w12 ⟨rfl, hb⟩
    have hT : Below w.heap.size w w12 := (fun W h hb => below_via h (hb) : ∀ W : World, (Below w.heap.size w W) → Below W.heap.size W w12 → (Below w.heap.size w w12)) _ (by first | (with_reducible assumption) | go_grown) hb
    (try clear hS)
    have hS := hT
    clear hT
    have hB := hS
    have hzw : w.heap.size ≤ w12.heap.size := hB.size
    clear hb
    go_wp2_with fail
    refine (drawCB_c A n c _ (hide (h1.out.below (by go_grown))) HN.out).mono ?_
    rintro e w13 ⟨a, b, rfl, hb⟩
    have hT : Below w.heap.size w w13 := (fun W h hb => below_via h (hb) : ∀ W : World, (Below w.heap.size w W) → Below W.heap.size W w13 → (Below w.heap.size w w13)) _ (by first | (with_reducible assumption) | go_grown) hb
    (try clear hS)
    have hS := hT
    clear hT
    have hB := hS
    have hzw : w.heap.size ≤ w13.heap.size := hB.size
    clear hb
    obtain ⟨B, HB0⟩ : ∃ q, (cb a b) = q := ⟨_, rfl⟩
    have HB := hide HB0
    obtain ⟨K4, HK40⟩ : ∃ q, (cbK a b) = q := ⟨_, rfl⟩
    have HK4 := hide HK40
    go_wp2_with fail
    refine (changedBits_c a b _).mono ?_
    rw [HB.out, HK4.out]
    rintro e w14 ⟨rfl, hb⟩
    have hT : Below w.heap.size w w14 := (fun W h hb => below_via h (hb) : ∀ W : World, (Below w.heap.size w W) → Below W.heap.size W w14 → (Below w.heap.size w w14)) _ (by first | (with_reducible assumption) | go_grown) hb
    (try clear hS)
    have hS := hT
    clear hT
    have hB := hS
    have hzw : w.heap.size ≤ w14.heap.size := hB.size
    clear hb
    go_wp2_with fail
    refine (sChangedBits_c a b _).mono ?_
    rw [HB.out, HK4.out]
    rintro e w15 ⟨rfl, hb⟩
    have hT : Below w.heap.size w w15 := (fun W h hb => below_via h (hb) : ∀ W : World, (Below w.heap.size w W) → Below W.heap.size W w15 → (Below w.heap.size w w15)) _ (by first | (with_reducible assumption) | go_grown) hb
    (try clear hS)
    have hS := hT
    clear hT
    have hB := hS
    have hzw : w.heap.size ≤ w15.heap.size := hB.size
    clear hb
    go_wp2
    go_returns
    exact ⟨ret_eq (by simp), by go_grown⟩
  obtain ⟨G2, HG20⟩ : ∃ q, (gyV (m + 1)) = q := ⟨_, rfl⟩
  have HG2 := hide HG20
  obtain ⟨K2, HK20⟩ : ∃ q, (wi (m + 1) 0 2047) = q := ⟨_, rfl⟩
  have HK2 := hide HK20
  go_wp2_with fail
  refine (gy_c (m + 1) _).mono ?_
  rw [HG2.out, HK2.out]
  rintro e w11 ⟨rfl, hb⟩
  have hT : Below w.heap.size w w11 := (fun W h hb => below_via h (hb) : ∀ W : World, (Below w.heap.size w W) → Below W.heap.size W w11 → (Below w.heap.size w w11)) _ (by first | (with_reducible assumption) | go_grown) hb
  (try clear hS)
  have hS := hT
  clear hT
  have hB := hS
  have hzw : w.heap.size ≤ w11.heap.size := hB.size
  clear hb
  cases K2
  all_goals
    go_wp2_with fail
    refine (drawCB_c A n c _ (hide (h1.out.below (by go_grown))) HN.out).mono ?_
    rintro e w12 ⟨a, b, rfl, hb⟩
    have hT : Below w.heap.size w w12 := (fun W h hb => below_via h (hb) : ∀ W : World, (Below w.heap.size w W) → Below W.heap.size W w12 → (Below w.heap.size w w12)) _ (by first | (with_reducible assumption) | go_grown) hb
    (try clear hS)
    have hS := hT
    clear hT
    have hB := hS
    have hzw : w.heap.size ≤ w12.heap.size := hB.size
    clear hb
    obtain ⟨B, HB0⟩ : ∃ q, (cb a b) = q := ⟨_, rfl⟩
    have HB := hide HB0
    obtain ⟨K4, HK40⟩ : ∃ q, (cbK a b) = q := ⟨_, rfl⟩
    have HK4 := hide HK40
    go_wp2_with fail
    refine (changedBits_c a b _).mono ?_
    rw [HB.out, HK4.out]
    rintro e w13 ⟨rfl, hb⟩
    have hT : Below w.heap.size w w13 := (fun W h hb => below_via h (hb) : ∀ W : World, (Below w.heap.size w W) → Below W.heap.size W w13 → (Below w.heap.size w w13)) _ (by first | (with_reducible assumption) | go_grown) hb
    (try clear hS)
    have hS := hT
    clear hT
    have hB := hS
    have hzw : w.heap.size ≤ w13.heap.size := hB.size
    clear hb
    go_wp2_with fail
    refine (sChangedBits_c a b _).mono ?_
    rw [HB.out, HK4.out]
    rintro e w14 ⟨rfl, hb⟩
    have hT : Below w.heap.size w w14 := (fun W h hb => below_via h (hb) : ∀ W : World, (Below w.heap.size w W) → Below W.heap.size W w14 → (Below w.heap.size w w14)) _ (by first | (with_reducible assumption) | go_grown) hb
    (try clear hS)
    have hS := hT
    clear hT
    have hB := hS
    have hzw : w.heap.size ≤ w14.heap.size := hB.size
    clear hb
    go_wp2
    go_returns
    exact ⟨ret_eq (by simp), by go_grown⟩
end Go.Proofs.Ythgnnldokdddfaa
