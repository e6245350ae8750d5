/- Contracts: lists of sites and arrivals that are right. -/
import Derived.Test.YtnocgcfepkdjeaaSiC
namespace Go.Proofs.Ytnocgcfepkdjeaa
open Go.RowKit

attribute [local go_sem ↓] eqPt_bin nePt_bin

theorem l10Good_c (A : Option Addr) (c : Nat) (l : List Pt) (w : World) (h1 : Hid (Reads w w.heap.size 2 A l.length (flat l))) (b1 : l.length ≤ 4000000)  : Calls Try.prog 70 #[.slice A l.length c] w (Gives w (.bool (okS l))) := by
  go_enter Try.func70, Try.ntmps70
  go_wp2
  go_loopw [3] (fun iv wr => ∃ i : Nat, i ≤ l.length ∧ iv = .int .i64 i ∧ Hid (goodN l i) ∧ Below w.heap.size w wr) (fun iv _ => l.length - (intOf iv).toNat)
  case atStart => exact ⟨0, by omega, rfl, hide (goodN_zero l), Below.refl _ _⟩
  case round =>
    obtain ⟨i, hi, rfl, H, hB⟩ := hrel
    have hzw : w.heap.size ≤ wr.heap.size := hB.size
    by_cases hlt : i < l.length
    rotate_left
    · obtain rfl : i = l.length := by omega
      have HF := hide (okS_wi H.out)
      go_wp2_with (first | (go_at_call 96; refine (l1In_c _ _ _ _).mono ?_; rintro e w1 ⟨rfl, rfl⟩))
      go_returns
      exact ⟨ret_eq (by rw [HF.out]; simp), by go_grown⟩
    by_cases h5 : 5 < i
    · have HF := hide (okS_big hlt h5)
      go_wp2_with (first | (go_at_call 96; refine (l1In_c _ _ _ _).mono ?_; rintro e w1 ⟨rfl, rfl⟩))
      go_returns
      exact ⟨ret_eq (by rw [HF.out]; simp), by go_grown⟩
    obtain ⟨a1, rfl, ekb, ex, ey⟩ := (h1.out.below hB).pt (k := i) (by omega)
    rcases hp : pt (px l i, py l i) with _ | _
    · have HF := hide (show okS l = false from okS_no hlt (fun e => by rw [hp] at e; cases e.1))
      go_wp2_with (first | (go_at_call 91; refine (l10Point_c _ _ _).mono ?_; rintro e w1 ⟨rfl, hb⟩; have hT : Below w.heap.size w w1 := (fun W h hb => below_via h (hb) : ∀ W : World, (Below w.heap.size w W) → Below W.heap.size W w1 → (Below w.heap.size w w1)) _ (by first | (with_reducible assumption) | go_grown) hb; (try clear hS); have hS := hT; clear hT; have hB := hS; have hzw : w.heap.size ≤ w1.heap.size := hB.size; clear hb))
      go_returns
      exact ⟨ret_eq (by rw [HF.out]; simp), by go_grown⟩
    have HP := hide hp
    go_wp2_with (first | (go_at_call 91; refine (l10Point_c _ _ _).mono ?_; rintro e w1 ⟨rfl, hb⟩; have hT : Below w.heap.size w w1 := (fun W h hb => below_via h (hb) : ∀ W : World, (Below w.heap.size w W) → Below W.heap.size W w1 → (Below w.heap.size w w1)) _ (by first | (with_reducible assumption) | go_grown) hb; (try clear hS); have hS := hT; clear hT; have hB := hS; have hzw : w.heap.size ≤ w1.heap.size := hB.size; clear hb))
    obtain ⟨wo, hwo⟩ : ∃ wo : World, wo = w1 := ⟨_, rfl⟩
    clear hwo
    go_loopw [4] (fun kv wr => ∃ k : Nat, k ≤ i ∧ kv = .int .i64 k ∧ Hid (diffN l i k) ∧ Below w.heap.size w wr) (fun kv _ => i - (intOf kv).toNat)
    case atStart => exact ⟨0, by omega, rfl, hide (fun j hj => absurd hj (by omega)), by go_grown⟩
    case round =>
      obtain ⟨k, hk, rfl, HD, hB⟩ := hrel
      by_cases hk2 : k < i
      · obtain ⟨a2, ha2, fkb, fx, fy⟩ := (h1.out.below hB).pt (k := k) (by omega)
        obtain ⟨a3, ha3, gkb, gx, gy⟩ := (h1.out.below hB).pt (k := i) (by omega)
        cases ha2
        cases ha3
        have hkl : k < l.length := by omega
        rcases hq : peq (px l k, py l k) (px l i, py l i) with _ | _
        · have HS := hide (diffN_succ HD.out (of_decide_eq_false hq))
          go_wp2
          refine wp_region_det (fun w' => w'.cell? (a1.add (k * 2)) = some (.int .i64 (px l k)) ∧ w'.cell? ⟨(a1.add (k * 2)).block, (a1.add (k * 2)).off + 1, none⟩ = some (.int .i64 (py l k)) ∧ w'.cell? (a1.add (i * 2)) = some (.int .i64 (px l i)) ∧ w'.cell? ⟨(a1.add (i * 2)).block, (a1.add (i * 2)).off + 1, none⟩ = some (.int .i64 (py l i)) ∧ Below w.heap.size w w') (by kernel_rfl) (by kernel_rfl) (by first | (with_reducible assumption) | (exact hS) | (exact ⟨hS.1, hS.2.1, hS.2.2.1, hS.2.2.2.1, (by go_grown)⟩) | (exact ⟨(by first | (with_reducible assumption) | (simp [go_sem]; done) | ((simp only [go_sem]); (with_reducible assumption)) | ((refine keep_cell ?_ (by with_reducible assumption)); go_grown; done) | (simp [go_sem, *]; done)), (by first | (with_reducible assumption) | (simp [go_sem]; done) | ((simp only [go_sem]); (with_reducible assumption)) | ((refine keep_cell ?_ (by with_reducible assumption)); go_grown; done) | (simp [go_sem, *]; done)), (by first | (with_reducible assumption) | (simp [go_sem]; done) | ((simp only [go_sem]); (with_reducible assumption)) | ((refine keep_cell ?_ (by with_reducible assumption)); go_grown; done) | (simp [go_sem, *]; done)), (by first | (with_reducible assumption) | (simp [go_sem]; done) | ((simp only [go_sem]); (with_reducible assumption)) | ((refine keep_cell ?_ (by with_reducible assumption)); go_grown; done) | (simp [go_sem, *]; done)), (by go_grown)⟩)) ?_
          repeat (first
            | ((refine wpDet_skip (by rfl) ?_); simp only [Act.put, List.setIfInBounds_toArray, List.set_cons_zero, List.set_cons_succ])
            | ((refine wpDet_val (v := ?_) (by rfl) (fun w hS => ?_) ?_); rotate_left; (focus ((try dsimp only at hS); go_simp; (try (with_reducible rfl)); done)); simp only [Act.put, List.setIfInBounds_toArray, List.set_cons_zero, List.set_cons_succ]))
          refine wpDet_nil ?_
          intro w1 hS
          have hT : w1.cell? (a1.add (k * 2)) = some (.int .i64 (px l k)) ∧ w1.cell? ⟨(a1.add (k * 2)).block, (a1.add (k * 2)).off + 1, none⟩ = some (.int .i64 (py l k)) ∧ w1.cell? (a1.add (i * 2)) = some (.int .i64 (px l i)) ∧ w1.cell? ⟨(a1.add (i * 2)).block, (a1.add (i * 2)).off + 1, none⟩ = some (.int .i64 (py l i)) ∧ Below w.heap.size w w1 := hS
          clear hS
          have hS := hT
          obtain ⟨c0, c1, c2, c3, hB⟩ := hT
          have hzw : w.heap.size ≤ w1.heap.size := hB.size
  
          go_wp2
          go_roundw
          case rel => exact ⟨k + 1, by omega, by go_num, HS, by go_grown⟩
          case measure => simp [intOf]; omega
        · have HF := hide (show okS l = false from okS_no hlt (fun e => e.2 k hk2 (of_decide_eq_true hq)))
          go_wp2
          refine wp_region_det (fun w' => w'.cell? (a1.add (k * 2)) = some (.int .i64 (px l k)) ∧ w'.cell? ⟨(a1.add (k * 2)).block, (a1.add (k * 2)).off + 1, none⟩ = some (.int .i64 (py l k)) ∧ w'.cell? (a1.add (i * 2)) = some (.int .i64 (px l i)) ∧ w'.cell? ⟨(a1.add (i * 2)).block, (a1.add (i * 2)).off + 1, none⟩ = some (.int .i64 (py l i)) ∧ Below w.heap.size w w') (by kernel_rfl) (by kernel_rfl) (by first | (with_reducible assumption) | (exact hS) | (exact ⟨hS.1, hS.2.1, hS.2.2.1, hS.2.2.2.1, (by go_grown)⟩) | (exact ⟨(by first | (with_reducible assumption) | (simp [go_sem]; done) | ((simp only [go_sem]); (with_reducible assumption)) | ((refine keep_cell ?_ (by with_reducible assumption)); go_grown; done) | (simp [go_sem, *]; done)), (by first | (with_reducible assumption) | (simp [go_sem]; done) | ((simp only [go_sem]); (with_reducible assumption)) | ((refine keep_cell ?_ (by with_reducible assumption)); go_grown; done) | (simp [go_sem, *]; done)), (by first | (with_reducible assumption) | (simp [go_sem]; done) | ((simp only [go_sem]); (with_reducible assumption)) | ((refine keep_cell ?_ (by with_reducible assumption)); go_grown; done) | (simp [go_sem, *]; done)), (by first | (with_reducible assumption) | (simp [go_sem]; done) | ((simp only [go_sem]); (with_reducible assumption)) | ((refine keep_cell ?_ (by with_reducible assumption)); go_grown; done) | (simp [go_sem, *]; done)), (by go_grown)⟩)) ?_
          repeat (first
            | ((refine wpDet_skip (by rfl) ?_); simp only [Act.put, List.setIfInBounds_toArray, List.set_cons_zero, List.set_cons_succ])
            | ((refine wpDet_val (v := ?_) (by rfl) (fun w hS => ?_) ?_); rotate_left; (focus ((try dsimp only at hS); go_simp; (try (with_reducible rfl)); done)); simp only [Act.put, List.setIfInBounds_toArray, List.set_cons_zero, List.set_cons_succ]))
          refine wpDet_nil ?_
          intro w1 hS
          have hT : w1.cell? (a1.add (k * 2)) = some (.int .i64 (px l k)) ∧ w1.cell? ⟨(a1.add (k * 2)).block, (a1.add (k * 2)).off + 1, none⟩ = some (.int .i64 (py l k)) ∧ w1.cell? (a1.add (i * 2)) = some (.int .i64 (px l i)) ∧ w1.cell? ⟨(a1.add (i * 2)).block, (a1.add (i * 2)).off + 1, none⟩ = some (.int .i64 (py l i)) ∧ Below w.heap.size w w1 := hS
          clear hS
          have hS := hT
          obtain ⟨c0, c1, c2, c3, hB⟩ := hT
          have hzw : w.heap.size ≤ w1.heap.size := hB.size
  
          go_wp2
          go_returns
          exact ⟨ret_eq (by rw [HF.out]; simp), by go_grown⟩
      · obtain rfl : k = i := by omega
        have HG := hide (goodN_succ H.out HP.out HD.out)
        go_wp2
        go_roundw
        case rel => exact ⟨k + 1, by omega, by go_num, HG, by go_grown⟩
        case measure => simp [intOf]; omega

theorem validS_c (A : Option Addr) (c : Nat) (l : List Pt) (w : World) (h1 : Hid (Reads w w.heap.size 2 A l.length (flat l))) (b1 : l.length ≤ 4000000) (hc : l.length ≤ c)  : Calls Try.prog 51 #[.slice A l.length c] w (Gives w (.bool (okS l))) := by
  rcases hw5 : wi l.length 1 5 with _ | _
  · have HF := hide (show okS l = false from okS_len (by have := wi_no.1 hw5; omega))
    go_enter Try.func51, Try.ntmps51
    go_wp2_with (first | (go_at_call 95; refine (within_c _ _ _ _).mono ?_; rintro e w1 ⟨rfl, rfl⟩))
    go_returns
    exact ⟨ret_eq (by rw [HF.out]; simp), by go_grown⟩
  have HW := hide hw5
  go_enter Try.func51, Try.ntmps51
  go_wp2_with (first | (go_at_call 95; refine (within_c _ _ _ _).mono ?_; rintro e w1 ⟨rfl, rfl⟩))
  go_loopw [13] (fun iv wr => ∃ i : Nat, i ≤ l.length ∧ iv = .int .i64 i ∧ Hid (goodN l i) ∧ Below w.heap.size w wr) (fun iv _ => l.length - (intOf iv).toNat)
  case atStart => exact ⟨0, by omega, rfl, hide (goodN_zero l), Below.refl _ _⟩
  case round =>
    obtain ⟨i, hi, rfl, H, hB⟩ := hrel
    have hzw : w.heap.size ≤ wr.heap.size := hB.size
    by_cases hlt : i < l.length
    rotate_left
    · obtain rfl : i = l.length := by omega
      have HF := hide (show okS l = true from by rw [okS_wi H.out]; exact HW.out)
      go_wp2
      go_returns
      exact ⟨ret_eq (by rw [HF.out]; simp), by go_grown⟩
    obtain ⟨a1, rfl, ekb, ex, ey⟩ := (h1.out.below hB).pt (k := i) (by omega)
    obtain ⟨g, hg⟩ : ∃ g, wr.heap.size = g := ⟨_, rfl⟩
    rcases hp : pt (px l i, py l i) with _ | _
    · have HF := hide (show okS l = false from okS_no hlt (fun e => by rw [hp] at e; cases e.1))
      go_wp2_with (first | (go_at_call 88; refine (isPoint_c _ _ _).mono ?_; rintro e w1 ⟨rfl, hb⟩; have hT : Below w.heap.size w w1 := (fun W h hb => below_via h (hb) : ∀ W : World, (Below w.heap.size w W) → Below W.heap.size W w1 → (Below w.heap.size w w1)) _ (by first | (with_reducible assumption) | go_grown) hb; (try clear hS); have hS := hT; clear hT; have hB := hS; have hzw : w.heap.size ≤ w1.heap.size := hB.size; clear hb))
      go_returns
      exact ⟨ret_eq (by rw [HF.out]; simp), by go_grown⟩
    have HP := hide hp
    go_wp2_with (first | (go_at_call 88; refine (isPoint_c _ _ _).mono ?_; rintro e w1 ⟨rfl, hb⟩; have hT : w1.cell? ⟨g, 0, none⟩ = some (.int .i64 (px l i)) ∧ w1.cell? ⟨g, 1, none⟩ = some (.int .i64 (py l i)) ∧ Below w.heap.size w w1 := (fun W h hb => ⟨keep_cell (hb) h.1, keep_cell (hb) h.2.1, below_via h.2.2 (hb)⟩ : ∀ W : World, (W.cell? ⟨g, 0, none⟩ = some (.int .i64 (px l i)) ∧ W.cell? ⟨g, 1, none⟩ = some (.int .i64 (py l i)) ∧ Below w.heap.size w W) → Below W.heap.size W w1 → (w1.cell? ⟨g, 0, none⟩ = some (.int .i64 (px l i)) ∧ w1.cell? ⟨g, 1, none⟩ = some (.int .i64 (py l i)) ∧ Below w.heap.size w w1)) _ (by first | (with_reducible assumption) | (exact hS) | (exact ⟨hS.1, hS.2.1, (by go_grown)⟩) | (exact ⟨(by first | (with_reducible assumption) | (simp [go_sem]; done) | ((simp only [go_sem]); (with_reducible assumption)) | ((refine keep_cell ?_ (by with_reducible assumption)); go_grown; done) | (simp [go_sem, *]; done)), (by first | (with_reducible assumption) | (simp [go_sem]; done) | ((simp only [go_sem]); (with_reducible assumption)) | ((refine keep_cell ?_ (by with_reducible assumption)); go_grown; done) | (simp [go_sem, *]; done)), (by go_grown)⟩)) hb; (try clear hS); have hS := hT; clear hT; have hB := hS.2.2; have hzw : w.heap.size ≤ w1.heap.size := hB.size; have hz1 : g < w1.heap.size := World.block_lt_of_cell? w1 _ (hS.1); clear hb))
    obtain ⟨wo, hwo⟩ : ∃ wo : World, wo = w1 := ⟨_, rfl⟩
    clear hwo
    go_loopw [25] (fun kv wr => ∃ k : Nat, k ≤ i ∧ kv = .int .i64 k ∧ Hid (diffN l i k) ∧ (wr.cell? ⟨g, 0, none⟩ = some (.int .i64 (px l i)) ∧ wr.cell? ⟨g, 1, none⟩ = some (.int .i64 (py l i)) ∧ Below w.heap.size w wr)) (fun kv _ => i - (intOf kv).toNat)
    case atStart => exact ⟨0, by omega, rfl, hide (fun j hj => absurd hj (by omega)), hS⟩
    case round =>
      obtain ⟨k, hk, rfl, HD, hS⟩ := hrel
      obtain ⟨b0, b1', hB⟩ := hS
      have hzw : w.heap.size ≤ wr.heap.size := hB.size
      have hgw : g < wr.heap.size := World.block_lt_of_cell? wr _ b0
      by_cases hk2 : k < i
      · obtain ⟨a2, ha2, fkb, fx, fy⟩ := (h1.out.below hB).pt (k := k) (by omega)
        cases ha2
        rcases hq : peq (px l k, py l k) (px l i, py l i) with _ | _
        · have HS := hide (diffN_succ HD.out (of_decide_eq_false hq))
          go_wp2
          go_roundw
          case rel => exact ⟨k + 1, by omega, by go_num, HS, (by first | (with_reducible assumption) | (exact hS) | (exact ⟨hS.1, hS.2.1, (by go_grown)⟩) | (exact ⟨(by first | (with_reducible assumption) | (simp [go_sem]; done) | ((simp only [go_sem]); (with_reducible assumption)) | ((refine keep_cell ?_ (by with_reducible assumption)); go_grown; done) | (simp [go_sem, *]; done)), (by first | (with_reducible assumption) | (simp [go_sem]; done) | ((simp only [go_sem]); (with_reducible assumption)) | ((refine keep_cell ?_ (by with_reducible assumption)); go_grown; done) | (simp [go_sem, *]; done)), (by go_grown)⟩))⟩
          case measure => simp [intOf]; omega
        · have HF := hide (show okS l = false from okS_no hlt (fun e => e.2 k hk2 (of_decide_eq_true hq)))
          go_wp2
          go_returns
          exact ⟨ret_eq (by rw [HF.out]; simp), by go_grown⟩
      · obtain rfl : k = i := by omega
        have HG := hide (goodN_succ H.out HP.out HD.out)
        go_wp2
        go_roundw
        case rel => exact ⟨k + 1, by omega, by go_num, HG, by go_grown⟩
        case measure => simp [intOf]; omega

theorem sValidS_c (A : Option Addr) (c : Nat) (l : List Pt) (w : World) (h1 : Hid (Reads w w.heap.size 2 A l.length (flat l))) (b1 : l.length ≤ 4000000)  : Calls Try.prog 52 #[.slice A l.length c] w (Gives w (.bool (okS l))) := by
  go_enter Try.func52, Try.ntmps52
  go_wp2_with (first | (go_at_call 70; refine (l10Good_c _ _ _ _ h1 b1).mono ?_; rintro e w1 ⟨rfl, hb⟩; have hT : Below w.heap.size w w1 := (fun W h hb => below_via h (hb) : ∀ W : World, (Below w.heap.size w W) → Below W.heap.size W w1 → (Below w.heap.size w w1)) _ (by first | (with_reducible assumption) | go_grown) hb; (try clear hS); have hS := hT; clear hT; have hB := hS; have hzw : w.heap.size ≤ w1.heap.size := hB.size; clear hb))
  go_returns
  exact ⟨ret_eq rfl, by go_grown⟩

theorem allWithin_c (A : Option Addr) (c : Nat) (a : List Int) (lo hi : Int) (w : World) (h1 : Hid (Reads w w.heap.size 1 A a.length (ints a))) (b1 : a.length ≤ 4000000)  : Calls Try.prog 110 #[.slice A a.length c, .int .i64 lo, .int .i64 hi] w (fun e w' => e = .returned (.bool (allW a lo hi)) ∧ w = w') := by
  go_enter Try.func110, Try.ntmps110
  go_wp2
  go_loop [11] (fun iv => ∃ i : Nat, i ≤ a.length ∧ iv = .int .i64 i ∧ Hid (allN a lo hi i)) (fun iv => a.length - (intOf iv).toNat)
  case atStart => exact ⟨0, by omega, rfl, hide (fun j hj => absurd hj (by omega))⟩
  case round =>
    obtain ⟨i, hi2, rfl, H⟩ := hrel
    by_cases hlt : i < a.length
    rotate_left
    · obtain rfl : i = a.length := by omega
      have HF := hide (allW_yes H.out)
      go_wp2
      go_returns
      exact ⟨ret_eq (by rw [HF.out]; simp), rfl⟩
    obtain ⟨ad, rfl, hb, hc⟩ := h1.out.num hlt
    rcases hq : wi (nth a i) lo hi with _ | _
    · have HF := hide (allW_no hlt hq)
      go_wp2_with (first | (go_at_call 95; refine (within_c _ _ _ _).mono ?_; rintro e w1 ⟨rfl, rfl⟩))
      go_returns
      exact ⟨ret_eq (by rw [HF.out]; simp), rfl⟩
    have HS := hide (allN_succ H.out hq)
    go_wp2_with (first | (go_at_call 95; refine (within_c _ _ _ _).mono ?_; rintro e w1 ⟨rfl, rfl⟩))
    go_round
    case rel => exact ⟨i + 1, by omega, by go_num, HS⟩
    case measure => simp [intOf]; omega

theorem asked_c (A : Option Addr) (c : Nat) (l : List Pt) (A2 : Option Addr) (c2 : Nat) (a : List Int) (w : World) (h1 : Hid (Reads w w.heap.size 2 A l.length (flat l))) (h2 : Hid (Reads w w.heap.size 1 A2 a.length (ints a))) (b1 : l.length ≤ 4000000) (b2 : a.length ≤ 4000000) (hc : l.length ≤ c)  : Calls Try.prog 79 #[.slice A l.length c, .slice A2 a.length c2] w (Gives w (.bool (askB l a))) := by
  rcases k1 : okS l with _ | _
  · have HF := hide (show askB l a = false from by simp [askB, k1])
    go_enter Try.func79, Try.ntmps79
    go_wp2_with (first | (go_at_call 51; refine (validS_c _ _ _ _ h1 b1 hc).mono ?_; rintro e w1 ⟨rfl, hb⟩; have hT : Below w.heap.size w w1 := (fun W h hb => below_via h (hb) : ∀ W : World, (Below w.heap.size w W) → Below W.heap.size W w1 → (Below w.heap.size w w1)) _ (by first | (with_reducible assumption) | go_grown) hb; (try clear hS); have hS := hT; clear hT; have hB := hS; have hzw : w.heap.size ≤ w1.heap.size := hB.size; clear hb) | (go_at_call 110; refine (allWithin_c _ _ _ _ _ _ (hide (h2.out.below hB |>.more hzw)) b2).mono ?_; rintro e w3 ⟨rfl, rfl⟩))
    go_returns
    exact ⟨ret_eq (by rw [HF.out]; simp), by go_grown⟩
  by_cases k2 : a.length = l.length
  rotate_left
  · have k2b : ((a.length : Int) == (l.length : Int)) = false := by simp; omega
    have HF := hide (show askB l a = false from by simp [askB, k2])
    clear k2
    go_enter Try.func79, Try.ntmps79
    go_wp2_with (first | (go_at_call 51; refine (validS_c _ _ _ _ h1 b1 hc).mono ?_; rintro e w1 ⟨rfl, hb⟩; have hT : Below w.heap.size w w1 := (fun W h hb => below_via h (hb) : ∀ W : World, (Below w.heap.size w W) → Below W.heap.size W w1 → (Below w.heap.size w w1)) _ (by first | (with_reducible assumption) | go_grown) hb; (try clear hS); have hS := hT; clear hT; have hB := hS; have hzw : w.heap.size ≤ w1.heap.size := hB.size; clear hb) | (go_at_call 110; refine (allWithin_c _ _ _ _ _ _ (hide (h2.out.below hB |>.more hzw)) b2).mono ?_; rintro e w3 ⟨rfl, rfl⟩))
    go_returns
    exact ⟨ret_eq (by rw [HF.out]; simp), by go_grown⟩
  have k2b : ((a.length : Int) == (l.length : Int)) = true := by simp; omega
  have HF := hide (show askB l a = allW a 0 100060 from by simp [askB, k1, k2])
  clear k2
  go_enter Try.func79, Try.ntmps79
  go_wp2_with (first | (go_at_call 51; refine (validS_c _ _ _ _ h1 b1 hc).mono ?_; rintro e w1 ⟨rfl, hb⟩; have hT : Below w.heap.size w w1 := (fun W h hb => below_via h (hb) : ∀ W : World, (Below w.heap.size w W) → Below W.heap.size W w1 → (Below w.heap.size w w1)) _ (by first | (with_reducible assumption) | go_grown) hb; (try clear hS); have hS := hT; clear hT; have hB := hS; have hzw : w.heap.size ≤ w1.heap.size := hB.size; clear hb) | (go_at_call 110; refine (allWithin_c _ _ _ _ _ _ (hide (h2.out.below hB |>.more hzw)) b2).mono ?_; rintro e w3 ⟨rfl, rfl⟩))
  go_returns
  exact ⟨ret_eq (by rw [HF.out]; simp), by go_grown⟩

theorem l10Asked_c (A : Option Addr) (c : Nat) (l : List Pt) (A2 : Option Addr) (c2 : Nat) (a : List Int) (w : World) (h1 : Hid (Reads w w.heap.size 2 A l.length (flat l))) (h2 : Hid (Reads w w.heap.size 1 A2 a.length (ints a))) (b1 : l.length ≤ 4000000) (b2 : a.length ≤ 4000000)  : Calls Try.prog 77 #[.slice A l.length c, .slice A2 a.length c2] w (Gives w (.bool (askB l a))) := by
  go_enter Try.func77, Try.ntmps77
  go_wp2
  go_loop [5] (fun iv => ∃ i : Nat, i ≤ a.length ∧ iv = .int .i64 i ∧ Hid (allN a 0 100060 i)) (fun iv => a.length - (intOf iv).toNat)
  case atStart => exact ⟨0, by omega, rfl, hide (fun j hj => absurd hj (by omega))⟩
  case round =>
    obtain ⟨i, hi2, rfl, H⟩ := hrel
    by_cases hlt : i < a.length
    rotate_left
    · have hia : i = a.length := by omega
      have HA := hide (show allW a 0 100060 = true from allW_yes (by rw [← hia]; exact H.out))
      clear hia
      rcases k1 : okS l with _ | _
      · have HF := hide (show askB l a = false from by simp [askB, k1])
        go_wp2_with (first | (go_at_call 70; refine (l10Good_c _ _ _ _ h1 b1).mono ?_; rintro e w1 ⟨rfl, hb⟩; have hT : Below w.heap.size w w1 := (fun W h hb => below_via h (hb) : ∀ W : World, (Below w.heap.size w W) → Below W.heap.size W w1 → (Below w.heap.size w w1)) _ (by first | (with_reducible assumption) | go_grown) hb; (try clear hS); have hS := hT; clear hT; have hB := hS; have hzw : w.heap.size ≤ w1.heap.size := hB.size; clear hb))
        go_returns
        exact ⟨ret_eq (by rw [HF.out]; simp), by go_grown⟩
      by_cases k2 : a.length = l.length
      · have k2b : ((a.length : Int) == (l.length : Int)) = true := by simp; omega
        have HF := hide (show askB l a = true from by simp [askB, k1, k2, HA.out])
        clear k2
        go_wp2_with (first | (go_at_call 70; refine (l10Good_c _ _ _ _ h1 b1).mono ?_; rintro e w1 ⟨rfl, hb⟩; have hT : Below w.heap.size w w1 := (fun W h hb => below_via h (hb) : ∀ W : World, (Below w.heap.size w W) → Below W.heap.size W w1 → (Below w.heap.size w w1)) _ (by first | (with_reducible assumption) | go_grown) hb; (try clear hS); have hS := hT; clear hT; have hB := hS; have hzw : w.heap.size ≤ w1.heap.size := hB.size; clear hb))
        go_returns
        exact ⟨ret_eq (by rw [HF.out]; simp), by go_grown⟩
      · have k2b : ((a.length : Int) == (l.length : Int)) = false := by simp; omega
        have HF := hide (show askB l a = false from by simp [askB, k2])
        clear k2
        go_wp2_with (first | (go_at_call 70; refine (l10Good_c _ _ _ _ h1 b1).mono ?_; rintro e w1 ⟨rfl, hb⟩; have hT : Below w.heap.size w w1 := (fun W h hb => below_via h (hb) : ∀ W : World, (Below w.heap.size w W) → Below W.heap.size W w1 → (Below w.heap.size w w1)) _ (by first | (with_reducible assumption) | go_grown) hb; (try clear hS); have hS := hT; clear hT; have hB := hS; have hzw : w.heap.size ≤ w1.heap.size := hB.size; clear hb))
        go_returns
        exact ⟨ret_eq (by rw [HF.out]; simp), by go_grown⟩
    obtain ⟨ad, rfl, hb, hc⟩ := h2.out.num hlt
    rcases hq : wi (nth a i) 0 100060 with _ | _
    · have HF := hide (show askB l a = false from by simp [askB, allW_no hlt hq])
      go_wp2_with (first | (go_at_call 96; refine (l1In_c _ _ _ _).mono ?_; rintro e w1 ⟨rfl, rfl⟩))
      go_returns
      exact ⟨ret_eq (by rw [HF.out]; simp), by go_grown⟩
    have HS := hide (allN_succ H.out hq)
    go_wp2_with (first | (go_at_call 96; refine (l1In_c _ _ _ _).mono ?_; rintro e w1 ⟨rfl, rfl⟩))
    go_round
    case rel => exact ⟨i + 1, by omega, by go_num, HS⟩
    case measure => simp [intOf]; omega
end Go.Proofs.Ytnocgcfepkdjeaa
