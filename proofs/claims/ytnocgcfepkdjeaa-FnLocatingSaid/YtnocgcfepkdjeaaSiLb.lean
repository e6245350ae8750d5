/- Contracts: first heard, possible arrivals. -/
import Derived.Test.YtnocgcfepkdjeaaSiE
namespace Go.Proofs.Ytnocgcfepkdjeaa
open Go.RowKit

theorem FirstHeard_c (A : Option Addr) (c : Nat) (l : List Pt) (A2 : Option Addr) (c2 : Nat) (a : List Int) (w : World) (h1 : Hid (Reads w w.heap.size 2 A l.length (flat l))) (h2 : Hid (Reads w w.heap.size 1 A2 a.length (ints a))) (b1 : l.length ≤ 4000000) (b2 : a.length ≤ 4000000) (hc : l.length ≤ c)  : Calls Try.prog 55 #[.slice A l.length c, .slice A2 a.length c2] w (Gives w (.tuple #[.int .i64 (argV l a), .bool (askB l a)])) := by
  rcases k0 : askB l a with _ | _
  · have HV := hide (show argV l a = 0 from by simp [argV, k0])
    have HK := hide k0
    go_enter Try.func55, Try.ntmps55
    go_wp2_with (first | (go_at_call 79; refine (asked_c A c l A2 c2 a _ (hide (reads_below h1.out (by go_grown))) (hide (reads_below h2.out (by go_grown))) b1 b2 hc).mono ?_; rintro e w1 ⟨rfl, hb⟩; have hT : Below w.heap.size w w1 := (fun W h hb => below_via h (hb) : ∀ W : World, (Below w.heap.size w W) → Below W.heap.size W w1 → (Below w.heap.size w w1)) _ (by first | (with_reducible assumption) | go_grown) hb; (try clear hS); have hS := hT; clear hT; have hB := hS; have hzw : w.heap.size ≤ w1.heap.size := hB.size; clear hb))
    go_returns
    exact ⟨ret_eq (by first | (rw [HV.out, HK.out]; simp; done) | (rw [HV.out]; simp; done) | (simp; done)), by go_grown⟩
  have HV := hide (show argV l a = (argN a a.length : Int) from by unfold argV; rw [if_pos k0])
  obtain ⟨k1, hal, _⟩ := askB_iff.1 k0
  obtain ⟨n1, n5⟩ := (okS_iff.1 k1).1
  have ha1 : 0 < a.length := by omega
  have HK := hide k0
  clear hal k1
  go_enter Try.func55, Try.ntmps55
  go_wp2_with (first | (go_at_call 79; refine (asked_c A c l A2 c2 a _ (hide (reads_below h1.out (by go_grown))) (hide (reads_below h2.out (by go_grown))) b1 b2 hc).mono ?_; rintro e w1 ⟨rfl, hb⟩; have hT : Below w.heap.size w w1 := (fun W h hb => below_via h (hb) : ∀ W : World, (Below w.heap.size w W) → Below W.heap.size W w1 → (Below w.heap.size w w1)) _ (by first | (with_reducible assumption) | go_grown) hb; (try clear hS); have hS := hT; clear hT; have hB := hS; have hzw : w.heap.size ≤ w1.heap.size := hB.size; clear hb))
  go_loopw [6, 15] (fun bv iv wr => ∃ i b : Nat, i ≤ a.length ∧ iv = .int .i64 i ∧ bv = .int .i64 b ∧ b < a.length ∧ Hid (b = argN a i) ∧ Below w.heap.size w wr) (fun _ iv _ => a.length - (intOf iv).toNat)
  case atStart => exact ⟨0, 0, by omega, rfl, rfl, ha1, hide rfl, by go_grown⟩
  case round =>
    obtain ⟨i, b, hi, rfl, rfl, hbi, H, hB⟩ := hrel
    by_cases hlt : i < a.length
    rotate_left
    · obtain rfl : i = a.length := by omega
      have HE := hide (show argV l a = (b : Int) from by rw [HV.out, ← H.out])
      go_wp2
      go_returns
      exact ⟨ret_eq (by first | (rw [HE.out, HK.out]; simp; done) | (rw [HE.out]; simp)), hB⟩
    have hba : b < a.length := by omega
    obtain ⟨a2, rfl, kb, cx⟩ := (h2.out.below hB).num (k := i) hlt
    obtain ⟨a3, ha3, kb2, cy⟩ := (h2.out.below hB).num (k := b) hba
    cases ha3
    by_cases hc2 : nth a i < nth a b
    · have HS := hide (show i = argN a (i + 1) from by rw [argN, ← H.out, if_pos hc2])
      go_wp2
      go_roundw
      case rel => exact ⟨i + 1, i, by omega, by go_num, rfl, by omega, HS, by go_grown⟩
      case measure => simp [intOf]; omega
    · have HS := hide (show b = argN a (i + 1) from by rw [argN, ← H.out, if_neg hc2])
      have hcb : decide (nth a i < nth a b) = false := decide_eq_false hc2
      clear hc2
      go_wp2
      go_roundw
      case rel => exact ⟨i + 1, b, by omega, by go_num, rfl, by omega, HS, by go_grown⟩
      case measure => simp [intOf]; omega

theorem sPossible_c (A : Option Addr) (c : Nat) (l : List Pt) (A2 : Option Addr) (c2 : Nat) (a : List Int) (w : World) (h1 : Hid (Reads w w.heap.size 2 A l.length (flat l))) (h2 : Hid (Reads w w.heap.size 1 A2 a.length (ints a))) (b1 : l.length ≤ 4000000) (b2 : a.length ≤ 4000000)  : Calls Try.prog 58 #[.slice A l.length c, .slice A2 a.length c2] w (Gives w (.tuple #[.bool (posV l a), .bool (askB l a)])) := by
  rcases k0 : askB l a with _ | _
  · have HV := hide (show posV l a = false from by simp [posV, k0])
    have HK := hide k0
    go_enter Try.func58, Try.ntmps58
    go_wp2_with (first | (go_at_call 77; refine (l10Asked_c A c l A2 c2 a _ (hide (reads_below h1.out (by go_grown))) (hide (reads_below h2.out (by go_grown))) b1 b2).mono ?_; rintro e w1 ⟨rfl, hb⟩; have hT : Below w.heap.size w w1 := (fun W h hb => below_via h (hb) : ∀ W : World, (Below w.heap.size w W) → Below W.heap.size W w1 → (Below w.heap.size w w1)) _ (by first | (with_reducible assumption) | go_grown) hb; (try clear hS); have hS := hT; clear hT; have hB := hS; have hzw : w.heap.size ≤ w1.heap.size := hB.size; clear hb))
    go_returns
    exact ⟨ret_eq (by first | (rw [HV.out, HK.out]; simp; done) | (rw [HV.out]; simp; done) | (simp; done)), by go_grown⟩
  have HV := hide (show posV l a = posB l a from by simp [posV, k0])
  obtain ⟨k1, hal, hall⟩ := askB_iff.1 k0
  have hsm := hide (okS_small k1)
  have hab := hide (askB_small k0)
  obtain ⟨n1, n5⟩ := (okS_iff.1 k1).1
  have HK := hide k0
  have HAL := hide hal
  clear hal k1 hall
  go_enter Try.func58, Try.ntmps58
  go_wp2_with (first | (go_at_call 77; refine (l10Asked_c A c l A2 c2 a _ (hide (reads_below h1.out (by go_grown))) (hide (reads_below h2.out (by go_grown))) b1 b2).mono ?_; rintro e w1 ⟨rfl, hb⟩; have hT : Below w.heap.size w w1 := (fun W h hb => below_via h (hb) : ∀ W : World, (Below w.heap.size w W) → Below W.heap.size W w1 → (Below w.heap.size w w1)) _ (by first | (with_reducible assumption) | go_grown) hb; (try clear hS); have hS := hT; clear hT; have hB := hS; have hzw : w.heap.size ≤ w1.heap.size := hB.size; clear hb))
  go_loopw [6] (fun iv wr => ∃ i : Nat, i ≤ l.length ∧ iv = .int .i64 i ∧ Hid (allOk l a (fun i => i) i) ∧ Below w.heap.size w wr) (fun iv _ => l.length - (intOf iv).toNat)
  case atStart => exact ⟨0, by omega, rfl, hide (fun j hj => absurd hj (by omega)), by go_grown⟩
  case round =>
    obtain ⟨i, hi, rfl, H, hB⟩ := hrel
    have hzw : w.heap.size ≤ wr.heap.size := hB.size
    by_cases hlt : i < l.length
    rotate_left
    · obtain rfl : i = l.length := by omega
      have HE := hide (show posV l a = true from by rw [HV.out]; exact posB_half (fun i hi k hk => H.out i hi k hk))
      go_wp2
      go_returns
      exact ⟨ret_eq (by first | (rw [HE.out, HK.out]; simp; done) | (rw [HE.out]; simp)), hB⟩
    obtain ⟨a1, rfl, kb, cx, cy⟩ := (h1.out.below hB).pt (k := i) (by omega)
    obtain ⟨⟨bx0, bx1⟩, by0, by1⟩ := hsm.out i hlt
    obtain ⟨m0, m1⟩ := hab.out i hlt
    go_wp2
    obtain ⟨wo, hwo⟩ : ∃ wo : World, wo = wr := ⟨_, rfl⟩
    rw [← hwo] at hB hzw cx cy ⊢
    clear hwo
    go_loopw [7] (fun kv wr => ∃ k : Nat, k ≤ i ∧ kv = .int .i64 k ∧ Hid (rowOk l a i k) ∧ (Below w.heap.size w wr)) (fun kv _ => i - (intOf kv).toNat)
    case atStart => exact ⟨0, by omega, rfl, hide (fun j hj => absurd hj (by omega)), by go_grown⟩
    case round =>
      obtain ⟨k, hk, rfl, HR, hS⟩ := hrel
      have hB := hS
      have hzw : w.heap.size ≤ wr.heap.size := hB.size
      by_cases hk2 : k < i
      rotate_left
      · obtain rfl : k = i := by omega
        have HG := hide (allOk_succ H.out (show rowOk l a k ((fun i => i) k) from HR.out))
        go_wp2
        go_roundw
        case rel => exact ⟨k + 1, by omega, by go_num, HG, by go_grown⟩
        case measure => simp [intOf]; omega
      have hkl : k < l.length := by omega
      obtain ⟨a5, ha5, kb5, cx2, cy2⟩ := (h1.out.below hB).pt (k := i) hlt
      cases ha5
      obtain ⟨a3, ha3, kb3, dx, dy⟩ := (h1.out.below hB).pt (k := k) hkl
      cases ha3
      obtain ⟨⟨ux0, ux1⟩, uy0, uy1⟩ := hsm.out k hkl
      obtain ⟨m2, m3⟩ := hab.out k hkl
      have hia : i < a.length := by have := HAL.out; omega
      have hka : k < a.length := by have := HAL.out; omega
      obtain ⟨a2, rfl, nkb, nx⟩ := (h2.out.below hB).num (k := i) hia
      obtain ⟨a4, ha4, nkb2, ny⟩ := (h2.out.below hB).num (k := k) hka
      cases ha4
      have nz := World.block_lt_of_cell? wr _ nx
      have nz2 := World.block_lt_of_cell? wr _ ny
      have ew : IntKind.i64.wrap (nth a i - nth a k) = nth a i - nth a k := IntWalk.i64_in _ (by omega)
      obtain ⟨d0, d1⟩ := dst_bd bx0 bx1 by0 by1 ux0 ux1 uy0 uy1
      by_cases hp : okPair l a i k
      · have HS := hide (rowOk_succ HR.out hp)
        have hcb : decide (dst (px l i, py l i) (px l k, py l k) < ab (nth a i - nth a k)) = false := decide_eq_false (by unfold okPair at hp; omega)
        clear hp
        go_wp2
        refine wp_region_det (fun w' => w'.cell? (a1.add (i * 2)) = some (.int .i64 (px l i)) ∧ w'.cell? ⟨(a1.add (i * 2)).block, (a1.add (i * 2)).off + 1, none⟩ = some (.int .i64 (py l i)) ∧ w'.cell? (a1.add (k * 2)) = some (.int .i64 (px l k)) ∧ w'.cell? ⟨(a1.add (k * 2)).block, (a1.add (k * 2)).off + 1, none⟩ = some (.int .i64 (py l k)) ∧ w'.cell? (a2.add i) = some (.int .i64 (nth a i)) ∧ w'.cell? (a2.add k) = some (.int .i64 (nth a k)) ∧ Below w.heap.size w w') (by kernel_rfl) (by kernel_rfl) (by first | (with_reducible assumption) | (exact hS) | (exact ⟨hS.1, hS.2.1, hS.2.2.1, hS.2.2.2.1, hS.2.2.2.2.1, hS.2.2.2.2.2.1, (by go_grown)⟩) | (exact ⟨(by first | (with_reducible assumption) | (simp [go_sem]; done) | ((simp only [go_sem]); (with_reducible assumption)) | ((refine keep_cell ?_ (by with_reducible assumption)); go_grown; done) | (simp [go_sem, *]; done)), (by first | (with_reducible assumption) | (simp [go_sem]; done) | ((simp only [go_sem]); (with_reducible assumption)) | ((refine keep_cell ?_ (by with_reducible assumption)); go_grown; done) | (simp [go_sem, *]; done)), (by first | (with_reducible assumption) | (simp [go_sem]; done) | ((simp only [go_sem]); (with_reducible assumption)) | ((refine keep_cell ?_ (by with_reducible assumption)); go_grown; done) | (simp [go_sem, *]; done)), (by first | (with_reducible assumption) | (simp [go_sem]; done) | ((simp only [go_sem]); (with_reducible assumption)) | ((refine keep_cell ?_ (by with_reducible assumption)); go_grown; done) | (simp [go_sem, *]; done)), (by first | (with_reducible assumption) | (simp [go_sem]; done) | ((simp only [go_sem]); (with_reducible assumption)) | ((refine keep_cell ?_ (by with_reducible assumption)); go_grown; done) | (simp [go_sem, *]; done)), (by first | (with_reducible assumption) | (simp [go_sem]; done) | ((simp only [go_sem]); (with_reducible assumption)) | ((refine keep_cell ?_ (by with_reducible assumption)); go_grown; done) | (simp [go_sem, *]; done)), (by go_grown)⟩)) ?_
        repeat (first
          | ((refine wpDet_skip (by rfl) ?_); simp only [Act.put, List.setIfInBounds_toArray, List.set_cons_zero, List.set_cons_succ])
          | ((refine wpDet_val (v := ?_) (by rfl) (fun w hS => ?_) ?_); rotate_left; (focus ((try dsimp only at hS); go_simp; (try (with_reducible rfl)); done)); simp only [Act.put, List.setIfInBounds_toArray, List.set_cons_zero, List.set_cons_succ])
          | ((refine wpDet_call (v := ?_) (f := ?_) (args := ?_) (by rfl) (fun w => ?_) (fun w hS => ?_) ?_); rotate_left; rotate_left; rotate_left; (focus (go_simp; (constructor <;> (with_reducible rfl)); done)); (focus (first | (go_at_call 103; refine (l7Abs_c _ (by omega) (by omega) _).mono ?_; intro e w' h; refine ⟨h.1.trans ?_, h.2 ▸ hS⟩; with_reducible rfl) | (go_at_call 104; refine (l10Dist_c _ _ _ _ (by omega) (by omega) (by omega) (by omega) (by omega) (by omega) (by omega) (by omega) _).mono ?_; intro e w' h; refine ⟨h.1.trans ?_, ⟨keep_cell (h.2) hS.1, keep_cell (h.2) hS.2.1, keep_cell (h.2) hS.2.2.1, keep_cell (h.2) hS.2.2.2.1, keep_cell (h.2) hS.2.2.2.2.1, keep_cell (h.2) hS.2.2.2.2.2.1, below_via hS.2.2.2.2.2.2 (h.2)⟩⟩; with_reducible rfl))); simp only [Act.put, List.setIfInBounds_toArray, List.set_cons_zero, List.set_cons_succ]))
        refine wpDet_nil ?_
        intro w1 hS
        have hT : w1.cell? (a1.add (i * 2)) = some (.int .i64 (px l i)) ∧ w1.cell? ⟨(a1.add (i * 2)).block, (a1.add (i * 2)).off + 1, none⟩ = some (.int .i64 (py l i)) ∧ w1.cell? (a1.add (k * 2)) = some (.int .i64 (px l k)) ∧ w1.cell? ⟨(a1.add (k * 2)).block, (a1.add (k * 2)).off + 1, none⟩ = some (.int .i64 (py l k)) ∧ w1.cell? (a2.add i) = some (.int .i64 (nth a i)) ∧ w1.cell? (a2.add k) = some (.int .i64 (nth a k)) ∧ Below w.heap.size w w1 := hS
        clear hS
        have hS := hT
        obtain ⟨c0, c1, c2, c3, c4, c5, hB⟩ := hT
        have hzw : w.heap.size ≤ w1.heap.size := hB.size
        go_wp2
        go_roundw
        case rel => exact ⟨k + 1, by omega, by go_num, HS, by go_grown⟩
        case measure => simp [intOf]; omega
      · have HE := hide (show posV l a = false from by rw [HV.out]; exact posB_no hlt hkl hp)
        have hcb : decide (dst (px l i, py l i) (px l k, py l k) < ab (nth a i - nth a k)) = true := decide_eq_true (by unfold okPair at hp; omega)
        clear hp
        go_wp2
        refine wp_region_det (fun w' => w'.cell? (a1.add (i * 2)) = some (.int .i64 (px l i)) ∧ w'.cell? ⟨(a1.add (i * 2)).block, (a1.add (i * 2)).off + 1, none⟩ = some (.int .i64 (py l i)) ∧ w'.cell? (a1.add (k * 2)) = some (.int .i64 (px l k)) ∧ w'.cell? ⟨(a1.add (k * 2)).block, (a1.add (k * 2)).off + 1, none⟩ = some (.int .i64 (py l k)) ∧ w'.cell? (a2.add i) = some (.int .i64 (nth a i)) ∧ w'.cell? (a2.add k) = some (.int .i64 (nth a k)) ∧ Below w.heap.size w w') (by kernel_rfl) (by kernel_rfl) (by first | (with_reducible assumption) | (exact hS) | (exact ⟨hS.1, hS.2.1, hS.2.2.1, hS.2.2.2.1, hS.2.2.2.2.1, hS.2.2.2.2.2.1, (by go_grown)⟩) | (exact ⟨(by first | (with_reducible assumption) | (simp [go_sem]; done) | ((simp only [go_sem]); (with_reducible assumption)) | ((refine keep_cell ?_ (by with_reducible assumption)); go_grown; done) | (simp [go_sem, *]; done)), (by first | (with_reducible assumption) | (simp [go_sem]; done) | ((simp only [go_sem]); (with_reducible assumption)) | ((refine keep_cell ?_ (by with_reducible assumption)); go_grown; done) | (simp [go_sem, *]; done)), (by first | (with_reducible assumption) | (simp [go_sem]; done) | ((simp only [go_sem]); (with_reducible assumption)) | ((refine keep_cell ?_ (by with_reducible assumption)); go_grown; done) | (simp [go_sem, *]; done)), (by first | (with_reducible assumption) | (simp [go_sem]; done) | ((simp only [go_sem]); (with_reducible assumption)) | ((refine keep_cell ?_ (by with_reducible assumption)); go_grown; done) | (simp [go_sem, *]; done)), (by first | (with_reducible assumption) | (simp [go_sem]; done) | ((simp only [go_sem]); (with_reducible assumption)) | ((refine keep_cell ?_ (by with_reducible assumption)); go_grown; done) | (simp [go_sem, *]; done)), (by first | (with_reducible assumption) | (simp [go_sem]; done) | ((simp only [go_sem]); (with_reducible assumption)) | ((refine keep_cell ?_ (by with_reducible assumption)); go_grown; done) | (simp [go_sem, *]; done)), (by go_grown)⟩)) ?_
        repeat (first
          | ((refine wpDet_skip (by rfl) ?_); simp only [Act.put, List.setIfInBounds_toArray, List.set_cons_zero, List.set_cons_succ])
          | ((refine wpDet_val (v := ?_) (by rfl) (fun w hS => ?_) ?_); rotate_left; (focus ((try dsimp only at hS); go_simp; (try (with_reducible rfl)); done)); simp only [Act.put, List.setIfInBounds_toArray, List.set_cons_zero, List.set_cons_succ])
          | ((refine wpDet_call (v := ?_) (f := ?_) (args := ?_) (by rfl) (fun w => ?_) (fun w hS => ?_) ?_); rotate_left; rotate_left; rotate_left; (focus (go_simp; (constructor <;> (with_reducible rfl)); done)); (focus (first | (go_at_call 103; refine (l7Abs_c _ (by omega) (by omega) _).mono ?_; intro e w' h; refine ⟨h.1.trans ?_, h.2 ▸ hS⟩; with_reducible rfl) | (go_at_call 104; refine (l10Dist_c _ _ _ _ (by omega) (by omega) (by omega) (by omega) (by omega) (by omega) (by omega) (by omega) _).mono ?_; intro e w' h; refine ⟨h.1.trans ?_, ⟨keep_cell (h.2) hS.1, keep_cell (h.2) hS.2.1, keep_cell (h.2) hS.2.2.1, keep_cell (h.2) hS.2.2.2.1, keep_cell (h.2) hS.2.2.2.2.1, keep_cell (h.2) hS.2.2.2.2.2.1, below_via hS.2.2.2.2.2.2 (h.2)⟩⟩; with_reducible rfl))); simp only [Act.put, List.setIfInBounds_toArray, List.set_cons_zero, List.set_cons_succ]))
        refine wpDet_nil ?_
        intro w1 hS
        have hT : w1.cell? (a1.add (i * 2)) = some (.int .i64 (px l i)) ∧ w1.cell? ⟨(a1.add (i * 2)).block, (a1.add (i * 2)).off + 1, none⟩ = some (.int .i64 (py l i)) ∧ w1.cell? (a1.add (k * 2)) = some (.int .i64 (px l k)) ∧ w1.cell? ⟨(a1.add (k * 2)).block, (a1.add (k * 2)).off + 1, none⟩ = some (.int .i64 (py l k)) ∧ w1.cell? (a2.add i) = some (.int .i64 (nth a i)) ∧ w1.cell? (a2.add k) = some (.int .i64 (nth a k)) ∧ Below w.heap.size w w1 := hS
        clear hS
        have hS := hT
        obtain ⟨c0, c1, c2, c3, c4, c5, hB⟩ := hT
        have hzw : w.heap.size ≤ w1.heap.size := hB.size
        go_wp2
        go_returns
        exact ⟨ret_eq (by first | (rw [HE.out, HK.out]; simp; done) | (rw [HE.out]; simp)), hB⟩

theorem Possible_c (A : Option Addr) (c : Nat) (l : List Pt) (A2 : Option Addr) (c2 : Nat) (a : List Int) (w : World) (h1 : Hid (Reads w w.heap.size 2 A l.length (flat l))) (h2 : Hid (Reads w w.heap.size 1 A2 a.length (ints a))) (b1 : l.length ≤ 4000000) (b2 : a.length ≤ 4000000) (hc : l.length ≤ c)  : Calls Try.prog 53 #[.slice A l.length c, .slice A2 a.length c2] w (Gives w (.tuple #[.bool (posV l a), .bool (askB l a)])) := by
  rcases k0 : askB l a with _ | _
  · have HV := hide (show posV l a = false from by simp [posV, k0])
    have HK := hide k0
    go_enter Try.func53, Try.ntmps53
    go_wp2_with (first | (go_at_call 79; refine (asked_c A c l A2 c2 a _ (hide (reads_below h1.out (by go_grown))) (hide (reads_below h2.out (by go_grown))) b1 b2 hc).mono ?_; rintro e w1 ⟨rfl, hb⟩; have hT : Below w.heap.size w w1 := (fun W h hb => below_via h (hb) : ∀ W : World, (Below w.heap.size w W) → Below W.heap.size W w1 → (Below w.heap.size w w1)) _ (by first | (with_reducible assumption) | go_grown) hb; (try clear hS); have hS := hT; clear hT; have hB := hS; have hzw : w.heap.size ≤ w1.heap.size := hB.size; clear hb))
    go_returns
    exact ⟨ret_eq (by first | (rw [HV.out, HK.out]; simp; done) | (rw [HV.out]; simp; done) | (simp; done)), by go_grown⟩
  have HV := hide (show posV l a = posB l a from by simp [posV, k0])
  obtain ⟨k1, hal, hall⟩ := askB_iff.1 k0
  have hsm := hide (okS_small k1)
  have hab := hide (askB_small k0)
  obtain ⟨n1, n5⟩ := (okS_iff.1 k1).1
  have HK := hide k0
  have HAL := hide hal
  clear hal k1 hall
  go_enter Try.func53, Try.ntmps53
  go_wp2_with (first | (go_at_call 79; refine (asked_c A c l A2 c2 a _ (hide (reads_below h1.out (by go_grown))) (hide (reads_below h2.out (by go_grown))) b1 b2 hc).mono ?_; rintro e w1 ⟨rfl, hb⟩; have hT : Below w.heap.size w w1 := (fun W h hb => below_via h (hb) : ∀ W : World, (Below w.heap.size w W) → Below W.heap.size W w1 → (Below w.heap.size w w1)) _ (by first | (with_reducible assumption) | go_grown) hb; (try clear hS); have hS := hT; clear hT; have hB := hS; have hzw : w.heap.size ≤ w1.heap.size := hB.size; clear hb))
  go_loopw [16] (fun iv wr => ∃ i : Nat, i ≤ l.length ∧ iv = .int .i64 i ∧ Hid (allOk l a (fun _ => l.length) i) ∧ Below w.heap.size w wr) (fun iv _ => l.length - (intOf iv).toNat)
  case atStart => exact ⟨0, by omega, rfl, hide (fun j hj => absurd hj (by omega)), by go_grown⟩
  case round =>
    obtain ⟨i, hi, rfl, H, hB⟩ := hrel
    have hzw : w.heap.size ≤ wr.heap.size := hB.size
    by_cases hlt : i < l.length
    rotate_left
    · obtain rfl : i = l.length := by omega
      have HE := hide (show posV l a = true from by rw [HV.out]; exact posB_yes (fun i hi k hk => H.out i hi k hk))
      go_wp2
      go_returns
      exact ⟨ret_eq (by first | (rw [HE.out, HK.out]; simp; done) | (rw [HE.out]; simp)), hB⟩
    obtain ⟨a1, rfl, kb, cx, cy⟩ := (h1.out.below hB).pt (k := i) (by omega)
    obtain ⟨⟨bx0, bx1⟩, by0, by1⟩ := hsm.out i hlt
    obtain ⟨m0, m1⟩ := hab.out i hlt
    obtain ⟨g, hg⟩ : ∃ g, wr.heap.size = g := ⟨_, rfl⟩
    go_wp2
    obtain ⟨wo, hwo⟩ : ∃ wo : World, wo = wr := ⟨_, rfl⟩
    rw [← hwo] at hB hzw cx cy hg ⊢
    clear hwo
    go_loopw [23] (fun kv wr => ∃ k : Nat, k ≤ l.length ∧ kv = .int .i64 k ∧ Hid (rowOk l a i k) ∧ (wr.cell? ⟨g, 0, none⟩ = some (.int .i64 (px l i)) ∧ wr.cell? ⟨g, 1, none⟩ = some (.int .i64 (py l i)) ∧ Below w.heap.size w wr)) (fun kv _ => l.length - (intOf kv).toNat)
    case atStart => exact ⟨0, by omega, rfl, hide (fun j hj => absurd hj (by omega)), (by first | (with_reducible assumption) | (exact hS) | (exact ⟨hS.1, hS.2.1, (by go_grown)⟩) | (exact ⟨(by first | (with_reducible assumption) | (simp [go_sem]; done) | ((simp only [go_sem]); (with_reducible assumption)) | ((refine keep_cell ?_ (by with_reducible assumption)); go_grown; done) | (simp [go_sem, *]; done)), (by first | (with_reducible assumption) | (simp [go_sem]; done) | ((simp only [go_sem]); (with_reducible assumption)) | ((refine keep_cell ?_ (by with_reducible assumption)); go_grown; done) | (simp [go_sem, *]; done)), (by go_grown)⟩))⟩
    case round =>
      obtain ⟨k, hk, rfl, HR, hS⟩ := hrel
      have hS2 := hS
      obtain ⟨e0, e1, hB⟩ := hS2
      have hgw : g < wr.heap.size := World.block_lt_of_cell? wr _ e0
      have hzw : w.heap.size ≤ wr.heap.size := hB.size
      by_cases hk2 : k < l.length
      rotate_left
      · obtain rfl : k = l.length := by omega
        have HG := hide (allOk_succ H.out (show rowOk l a i ((fun _ => l.length) i) from HR.out))
        go_wp2
        go_roundw
        case rel => exact ⟨i + 1, by omega, by go_num, HG, by go_grown⟩
        case measure => simp [intOf]; omega
      have hkl : k < l.length := by omega
      obtain ⟨a3, ha3, kb3, dx, dy⟩ := (h1.out.below hB).pt (k := k) hkl
      cases ha3
      obtain ⟨⟨ux0, ux1⟩, uy0, uy1⟩ := hsm.out k hkl
      obtain ⟨m2, m3⟩ := hab.out k hkl
      have hia : i < a.length := by have := HAL.out; omega
      have hka : k < a.length := by have := HAL.out; omega
      obtain ⟨a2, rfl, nkb, nx⟩ := (h2.out.below hB).num (k := i) hia
      obtain ⟨a4, ha4, nkb2, ny⟩ := (h2.out.below hB).num (k := k) hka
      cases ha4
      have nz := World.block_lt_of_cell? wr _ nx
      have nz2 := World.block_lt_of_cell? wr _ ny
      have ew : IntKind.i64.wrap (nth a i - nth a k) = nth a i - nth a k := IntWalk.i64_in _ (by omega)
      obtain ⟨d0, d1⟩ := dst_bd bx0 bx1 by0 by1 ux0 ux1 uy0 uy1
      by_cases hp : okPair l a i k
      · have HS := hide (rowOk_succ HR.out hp)
        have hcb : decide (dst (px l i, py l i) (px l k, py l k) < ab (nth a i - nth a k)) = false := decide_eq_false (by unfold okPair at hp; omega)
        clear hp
        obtain ⟨g2, hg2⟩ : ∃ g, wr.heap.size = g := ⟨_, rfl⟩
        go_wp2
        refine wp_region_det (fun w' => w'.cell? ⟨g, 0, none⟩ = some (.int .i64 (px l i)) ∧ w'.cell? ⟨g, 1, none⟩ = some (.int .i64 (py l i)) ∧ w'.cell? ⟨g2, 0, none⟩ = some (.int .i64 (px l k)) ∧ w'.cell? ⟨g2, 1, none⟩ = some (.int .i64 (py l k)) ∧ w'.cell? (a2.add i) = some (.int .i64 (nth a i)) ∧ w'.cell? (a2.add k) = some (.int .i64 (nth a k)) ∧ Below w.heap.size w w') (by kernel_rfl) (by kernel_rfl) (by first | (with_reducible assumption) | (exact hS) | (exact ⟨hS.1, hS.2.1, hS.2.2.1, hS.2.2.2.1, hS.2.2.2.2.1, hS.2.2.2.2.2.1, (by go_grown)⟩) | (exact ⟨(by first | (with_reducible assumption) | (simp [go_sem]; done) | ((simp only [go_sem]); (with_reducible assumption)) | ((refine keep_cell ?_ (by with_reducible assumption)); go_grown; done) | (simp [go_sem, *]; done)), (by first | (with_reducible assumption) | (simp [go_sem]; done) | ((simp only [go_sem]); (with_reducible assumption)) | ((refine keep_cell ?_ (by with_reducible assumption)); go_grown; done) | (simp [go_sem, *]; done)), (by first | (with_reducible assumption) | (simp [go_sem]; done) | ((simp only [go_sem]); (with_reducible assumption)) | ((refine keep_cell ?_ (by with_reducible assumption)); go_grown; done) | (simp [go_sem, *]; done)), (by first | (with_reducible assumption) | (simp [go_sem]; done) | ((simp only [go_sem]); (with_reducible assumption)) | ((refine keep_cell ?_ (by with_reducible assumption)); go_grown; done) | (simp [go_sem, *]; done)), (by first | (with_reducible assumption) | (simp [go_sem]; done) | ((simp only [go_sem]); (with_reducible assumption)) | ((refine keep_cell ?_ (by with_reducible assumption)); go_grown; done) | (simp [go_sem, *]; done)), (by first | (with_reducible assumption) | (simp [go_sem]; done) | ((simp only [go_sem]); (with_reducible assumption)) | ((refine keep_cell ?_ (by with_reducible assumption)); go_grown; done) | (simp [go_sem, *]; done)), (by go_grown)⟩)) ?_
        repeat (first
          | ((refine wpDet_skip (by rfl) ?_); simp only [Act.put, List.setIfInBounds_toArray, List.set_cons_zero, List.set_cons_succ])
          | ((refine wpDet_val (v := ?_) (by rfl) (fun w hS => ?_) ?_); rotate_left; (focus ((try dsimp only at hS); go_simp; (try (with_reducible rfl)); done)); simp only [Act.put, List.setIfInBounds_toArray, List.set_cons_zero, List.set_cons_succ])
          | ((refine wpDet_call (v := ?_) (f := ?_) (args := ?_) (by rfl) (fun w => ?_) (fun w hS => ?_) ?_); rotate_left; rotate_left; rotate_left; (focus (go_simp; (constructor <;> (with_reducible rfl)); done)); (focus (first | (go_at_call 100; refine (abs_c _ (by omega) (by omega) _).mono ?_; intro e w' h; refine ⟨h.1.trans ?_, h.2 ▸ hS⟩; with_reducible rfl) | (go_at_call 94; refine (siteDist_c _ _ _ _ (by omega) (by omega) (by omega) (by omega) (by omega) (by omega) (by omega) (by omega) _).mono ?_; intro e w' h; refine ⟨h.1.trans ?_, ⟨keep_cell (h.2) hS.1, keep_cell (h.2) hS.2.1, keep_cell (h.2) hS.2.2.1, keep_cell (h.2) hS.2.2.2.1, keep_cell (h.2) hS.2.2.2.2.1, keep_cell (h.2) hS.2.2.2.2.2.1, below_via hS.2.2.2.2.2.2 (h.2)⟩⟩; with_reducible rfl))); simp only [Act.put, List.setIfInBounds_toArray, List.set_cons_zero, List.set_cons_succ]))
        refine wpDet_nil ?_
        intro w1 hS
        have hT : w1.cell? ⟨g, 0, none⟩ = some (.int .i64 (px l i)) ∧ w1.cell? ⟨g, 1, none⟩ = some (.int .i64 (py l i)) ∧ w1.cell? ⟨g2, 0, none⟩ = some (.int .i64 (px l k)) ∧ w1.cell? ⟨g2, 1, none⟩ = some (.int .i64 (py l k)) ∧ w1.cell? (a2.add i) = some (.int .i64 (nth a i)) ∧ w1.cell? (a2.add k) = some (.int .i64 (nth a k)) ∧ Below w.heap.size w w1 := hS
        clear hS
        have hS := hT
        obtain ⟨c0, c1, c2, c3, c4, c5, hB⟩ := hT
        have hzw : w.heap.size ≤ w1.heap.size := hB.size
        have hz1 : g < w1.heap.size := World.block_lt_of_cell? w1 _ (hS.1)
        have hz2 : g2 < w1.heap.size := World.block_lt_of_cell? w1 _ (hS.2.2.1)
        go_wp2
        go_roundw
        case rel => exact ⟨k + 1, by omega, by go_num, HS, ⟨c0, c1, hB⟩⟩
        case measure => simp [intOf]; omega
      · have HE := hide (show posV l a = false from by rw [HV.out]; exact posB_no hlt hkl hp)
        have hcb : decide (dst (px l i, py l i) (px l k, py l k) < ab (nth a i - nth a k)) = true := decide_eq_true (by unfold okPair at hp; omega)
        clear hp
        obtain ⟨g2, hg2⟩ : ∃ g, wr.heap.size = g := ⟨_, rfl⟩
        go_wp2
        refine wp_region_det (fun w' => w'.cell? ⟨g, 0, none⟩ = some (.int .i64 (px l i)) ∧ w'.cell? ⟨g, 1, none⟩ = some (.int .i64 (py l i)) ∧ w'.cell? ⟨g2, 0, none⟩ = some (.int .i64 (px l k)) ∧ w'.cell? ⟨g2, 1, none⟩ = some (.int .i64 (py l k)) ∧ w'.cell? (a2.add i) = some (.int .i64 (nth a i)) ∧ w'.cell? (a2.add k) = some (.int .i64 (nth a k)) ∧ Below w.heap.size w w') (by kernel_rfl) (by kernel_rfl) (by first | (with_reducible assumption) | (exact hS) | (exact ⟨hS.1, hS.2.1, hS.2.2.1, hS.2.2.2.1, hS.2.2.2.2.1, hS.2.2.2.2.2.1, (by go_grown)⟩) | (exact ⟨(by first | (with_reducible assumption) | (simp [go_sem]; done) | ((simp only [go_sem]); (with_reducible assumption)) | ((refine keep_cell ?_ (by with_reducible assumption)); go_grown; done) | (simp [go_sem, *]; done)), (by first | (with_reducible assumption) | (simp [go_sem]; done) | ((simp only [go_sem]); (with_reducible assumption)) | ((refine keep_cell ?_ (by with_reducible assumption)); go_grown; done) | (simp [go_sem, *]; done)), (by first | (with_reducible assumption) | (simp [go_sem]; done) | ((simp only [go_sem]); (with_reducible assumption)) | ((refine keep_cell ?_ (by with_reducible assumption)); go_grown; done) | (simp [go_sem, *]; done)), (by first | (with_reducible assumption) | (simp [go_sem]; done) | ((simp only [go_sem]); (with_reducible assumption)) | ((refine keep_cell ?_ (by with_reducible assumption)); go_grown; done) | (simp [go_sem, *]; done)), (by first | (with_reducible assumption) | (simp [go_sem]; done) | ((simp only [go_sem]); (with_reducible assumption)) | ((refine keep_cell ?_ (by with_reducible assumption)); go_grown; done) | (simp [go_sem, *]; done)), (by first | (with_reducible assumption) | (simp [go_sem]; done) | ((simp only [go_sem]); (with_reducible assumption)) | ((refine keep_cell ?_ (by with_reducible assumption)); go_grown; done) | (simp [go_sem, *]; done)), (by go_grown)⟩)) ?_
        repeat (first
          | ((refine wpDet_skip (by rfl) ?_); simp only [Act.put, List.setIfInBounds_toArray, List.set_cons_zero, List.set_cons_succ])
          | ((refine wpDet_val (v := ?_) (by rfl) (fun w hS => ?_) ?_); rotate_left; (focus ((try dsimp only at hS); go_simp; (try (with_reducible rfl)); done)); simp only [Act.put, List.setIfInBounds_toArray, List.set_cons_zero, List.set_cons_succ])
          | ((refine wpDet_call (v := ?_) (f := ?_) (args := ?_) (by rfl) (fun w => ?_) (fun w hS => ?_) ?_); rotate_left; rotate_left; rotate_left; (focus (go_simp; (constructor <;> (with_reducible rfl)); done)); (focus (first | (go_at_call 100; refine (abs_c _ (by omega) (by omega) _).mono ?_; intro e w' h; refine ⟨h.1.trans ?_, h.2 ▸ hS⟩; with_reducible rfl) | (go_at_call 94; refine (siteDist_c _ _ _ _ (by omega) (by omega) (by omega) (by omega) (by omega) (by omega) (by omega) (by omega) _).mono ?_; intro e w' h; refine ⟨h.1.trans ?_, ⟨keep_cell (h.2) hS.1, keep_cell (h.2) hS.2.1, keep_cell (h.2) hS.2.2.1, keep_cell (h.2) hS.2.2.2.1, keep_cell (h.2) hS.2.2.2.2.1, keep_cell (h.2) hS.2.2.2.2.2.1, below_via hS.2.2.2.2.2.2 (h.2)⟩⟩; with_reducible rfl))); simp only [Act.put, List.setIfInBounds_toArray, List.set_cons_zero, List.set_cons_succ]))
        refine wpDet_nil ?_
        intro w1 hS
        have hT : w1.cell? ⟨g, 0, none⟩ = some (.int .i64 (px l i)) ∧ w1.cell? ⟨g, 1, none⟩ = some (.int .i64 (py l i)) ∧ w1.cell? ⟨g2, 0, none⟩ = some (.int .i64 (px l k)) ∧ w1.cell? ⟨g2, 1, none⟩ = some (.int .i64 (py l k)) ∧ w1.cell? (a2.add i) = some (.int .i64 (nth a i)) ∧ w1.cell? (a2.add k) = some (.int .i64 (nth a k)) ∧ Below w.heap.size w w1 := hS
        clear hS
        have hS := hT
        obtain ⟨c0, c1, c2, c3, c4, c5, hB⟩ := hT
        have hzw : w.heap.size ≤ w1.heap.size := hB.size
        have hz1 : g < w1.heap.size := World.block_lt_of_cell? w1 _ (hS.1)
        have hz2 : g2 < w1.heap.size := World.block_lt_of_cell? w1 _ (hS.2.2.1)
        go_wp2
        go_returns
        exact ⟨ret_eq (by first | (rw [HE.out, HK.out]; simp; done) | (rw [HE.out]; simp)), hB⟩
end Go.Proofs.Ytnocgcfepkdjeaa
