/- Contracts: lists of places. -/
import Derived.Test.YtpabfkodlgglcaaPwMath
import Derived.Test.YtpabfkodlgglcaaPoB
import Derived.Test.YtpabfkodlgglcaaFloat
namespace Go.Proofs.Ytpabfkodlgglcaa
open Go.RowKit

theorem infoPlace : (Try.prog.info? 25).map (fun i => (i.zero, i.size, i.bytes)) = some (some (.agg #[.int .i64 0, .int .i64 0]), 2, 16) := by kernel_rfl

theorem eqPlaces_c (x y u v : Int) (w : World) : Calls Try.prog 38 #[.agg #[.int .i64 x, .int .i64 y], .agg #[.int .i64 u, .int .i64 v]] w (Gives w (.bool (peq (x, y) (u, v)))) := by
  by_cases h : x = u <;> by_cases h2 : y = v
  all_goals
    go_enter Try.func38, Try.ntmps38
    go_wp2
    all_goals (go_returns; exact ⟨ret_eq (by simp [peq, h, h2]), by go_grown⟩)

theorem eqPlaceS_c (A1 A2 : Option Addr) (c1 c2 : Nat) (l1 l2 : List Pt) (w : World) (h1 : Hid (Reads w w.heap.size 2 A1 l1.length (flat l1))) (h2 : Hid (Reads w w.heap.size 2 A2 l2.length (flat l2))) (b1 : l1.length ≤ 4000000) (b2 : l2.length ≤ 4000000)  : Calls Try.prog 42 #[.slice A1 l1.length c1, .slice A2 l2.length c2] w (Gives w (.bool (decide (l1 = l2)))) := by
  by_cases he : l1.length = l2.length
  rotate_left
  · have HF := hide (show decide (l1 = l2) = false from decide_eq_false (len_ne he))
    have hb : ((l1.length : Int) != (l2.length : Int)) = true := by simp; omega
    go_enter Try.func42, Try.ntmps42
    go_wp2
    go_returns
    exact ⟨ret_eq (by rw [HF.out]; simp), by go_grown⟩
  obtain ⟨n, hn⟩ : ∃ n, l1.length = n := ⟨_, rfl⟩
  have hn2 : l2.length = n := by omega
  clear he
  rw [hn] at b1 h1 ⊢
  rw [hn2] at b2 h2 ⊢
  have Hn := hide hn
  have Hn2 := hide hn2
  clear hn hn2
  go_enter Try.func42, Try.ntmps42
  go_wp2
  go_loopw [5] (fun iv wr => ∃ (i : Nat), i ≤ n ∧ iv = .int .i64 i ∧ Hid (l1.take i = l2.take i) ∧ Below w.heap.size w wr) (fun iv _ => n - (intOf iv).toNat)
  case atStart => exact ⟨0, by omega, rfl, hide rfl, Below.refl _ _⟩
  case round =>
    obtain ⟨i, hi, rfl, H, hB⟩ := hrel
    by_cases hlt : i < n
    · have hl1 : i < l1.length := by have := Hn.out; omega
      have hl2 : i < l2.length := by have := Hn2.out; omega
      obtain ⟨a1, rfl, ekb, ex, ey⟩ := (h1.out.below hB).pt (k := i) (by omega)
      obtain ⟨a2, rfl, fkb, fx, fy⟩ := (h2.out.below hB).pt (k := i) (by omega)
      by_cases hc : (px l1 i, py l1 i) = (px l2 i, py l2 i)
      · have HS := hide (pts_step H.out hl1 hl2 hc)
        clear hl1 hl2
        have hcb : peq (px l1 i, py l1 i) (px l2 i, py l2 i) = true := by simp only [peq]; exact decide_eq_true hc
        clear hc
        go_wp2
        refine wp_region_det (fun w' => w'.cell? (a1.add (i * 2)) = some (.int .i64 (px l1 i)) ∧ w'.cell? ⟨(a1.add (i * 2)).block, (a1.add (i * 2)).off + 1, none⟩ = some (.int .i64 (py l1 i)) ∧ w'.cell? (a2.add (i * 2)) = some (.int .i64 (px l2 i)) ∧ w'.cell? ⟨(a2.add (i * 2)).block, (a2.add (i * 2)).off + 1, none⟩ = some (.int .i64 (py l2 i)) ∧ Below w.heap.size w w') (by kernel_rfl) (by kernel_rfl) (by first | (with_reducible assumption) | (exact hS) | (exact ⟨hS.1, hS.2.1, hS.2.2.1, hS.2.2.2.1, (by go_grown)⟩) | (exact ⟨(by first | (with_reducible assumption) | (simp [go_sem]; done) | ((simp only [go_sem]); (with_reducible assumption)) | ((refine keep_cell ?_ (by with_reducible assumption)); go_grown; done) | (simp [go_sem, *]; done)), (by first | (with_reducible assumption) | (simp [go_sem]; done) | ((simp only [go_sem]); (with_reducible assumption)) | ((refine keep_cell ?_ (by with_reducible assumption)); go_grown; done) | (simp [go_sem, *]; done)), (by first | (with_reducible assumption) | (simp [go_sem]; done) | ((simp only [go_sem]); (with_reducible assumption)) | ((refine keep_cell ?_ (by with_reducible assumption)); go_grown; done) | (simp [go_sem, *]; done)), (by first | (with_reducible assumption) | (simp [go_sem]; done) | ((simp only [go_sem]); (with_reducible assumption)) | ((refine keep_cell ?_ (by with_reducible assumption)); go_grown; done) | (simp [go_sem, *]; done)), (by go_grown)⟩)) ?_
        repeat (first
          | ((refine wpDet_skip (by rfl) ?_); simp only [Act.put, List.setIfInBounds_toArray, List.set_cons_zero, List.set_cons_succ])
          | ((refine wpDet_val (v := ?_) (by rfl) (fun w hS => ?_) ?_); rotate_left; (focus ((try dsimp only at hS); go_simp; (try (with_reducible rfl)); done)); simp only [Act.put, List.setIfInBounds_toArray, List.set_cons_zero, List.set_cons_succ])
          | ((refine wpDet_call (v := ?_) (f := ?_) (args := ?_) (by rfl) (fun w => ?_) (fun w hS => ?_) ?_); rotate_left; rotate_left; rotate_left; (focus (go_simp; (constructor <;> (with_reducible rfl)); done)); (focus (first | (go_at_call 38; refine (eqPlaces_c _ _ _ _ _).mono ?_; intro e w' h; refine ⟨h.1.trans ?_, ⟨keep_cell (h.2) hS.1, keep_cell (h.2) hS.2.1, keep_cell (h.2) hS.2.2.1, keep_cell (h.2) hS.2.2.2.1, below_via hS.2.2.2.2 (h.2)⟩⟩; with_reducible rfl))); simp only [Act.put, List.setIfInBounds_toArray, List.set_cons_zero, List.set_cons_succ]))
        refine wpDet_nil ?_
        intro w1 hS
        have hT : w1.cell? (a1.add (i * 2)) = some (.int .i64 (px l1 i)) ∧ w1.cell? ⟨(a1.add (i * 2)).block, (a1.add (i * 2)).off + 1, none⟩ = some (.int .i64 (py l1 i)) ∧ w1.cell? (a2.add (i * 2)) = some (.int .i64 (px l2 i)) ∧ w1.cell? ⟨(a2.add (i * 2)).block, (a2.add (i * 2)).off + 1, none⟩ = some (.int .i64 (py l2 i)) ∧ Below w.heap.size w w1 := hS
        clear hS
        have hS := hT
        obtain ⟨c0, c1, c2, c3, hB⟩ := hT
        have hzw : w.heap.size ≤ w1.heap.size := hB.size
        go_wp2
        go_roundw
        case rel => exact ⟨i + 1, by omega, by go_num, HS, by go_grown⟩
        case measure => simp [intOf]; omega
      have HF := hide (show decide (l1 = l2) = false from decide_eq_false (pts_ne hc))
      have hcb : peq (px l1 i, py l1 i) (px l2 i, py l2 i) = false := by simp only [peq]; exact decide_eq_false hc
      clear hc hl1 hl2
      go_wp2
      refine wp_region_det (fun w' => w'.cell? (a1.add (i * 2)) = some (.int .i64 (px l1 i)) ∧ w'.cell? ⟨(a1.add (i * 2)).block, (a1.add (i * 2)).off + 1, none⟩ = some (.int .i64 (py l1 i)) ∧ w'.cell? (a2.add (i * 2)) = some (.int .i64 (px l2 i)) ∧ w'.cell? ⟨(a2.add (i * 2)).block, (a2.add (i * 2)).off + 1, none⟩ = some (.int .i64 (py l2 i)) ∧ Below w.heap.size w w') (by kernel_rfl) (by kernel_rfl) (by first | (with_reducible assumption) | (exact hS) | (exact ⟨hS.1, hS.2.1, hS.2.2.1, hS.2.2.2.1, (by go_grown)⟩) | (exact ⟨(by first | (with_reducible assumption) | (simp [go_sem]; done) | ((simp only [go_sem]); (with_reducible assumption)) | ((refine keep_cell ?_ (by with_reducible assumption)); go_grown; done) | (simp [go_sem, *]; done)), (by first | (with_reducible assumption) | (simp [go_sem]; done) | ((simp only [go_sem]); (with_reducible assumption)) | ((refine keep_cell ?_ (by with_reducible assumption)); go_grown; done) | (simp [go_sem, *]; done)), (by first | (with_reducible assumption) | (simp [go_sem]; done) | ((simp only [go_sem]); (with_reducible assumption)) | ((refine keep_cell ?_ (by with_reducible assumption)); go_grown; done) | (simp [go_sem, *]; done)), (by first | (with_reducible assumption) | (simp [go_sem]; done) | ((simp only [go_sem]); (with_reducible assumption)) | ((refine keep_cell ?_ (by with_reducible assumption)); go_grown; done) | (simp [go_sem, *]; done)), (by go_grown)⟩)) ?_
      repeat (first
        | ((refine wpDet_skip (by rfl) ?_); simp only [Act.put, List.setIfInBounds_toArray, List.set_cons_zero, List.set_cons_succ])
        | ((refine wpDet_val (v := ?_) (by rfl) (fun w hS => ?_) ?_); rotate_left; (focus ((try dsimp only at hS); go_simp; (try (with_reducible rfl)); done)); simp only [Act.put, List.setIfInBounds_toArray, List.set_cons_zero, List.set_cons_succ])
        | ((refine wpDet_call (v := ?_) (f := ?_) (args := ?_) (by rfl) (fun w => ?_) (fun w hS => ?_) ?_); rotate_left; rotate_left; rotate_left; (focus (go_simp; (constructor <;> (with_reducible rfl)); done)); (focus (first | (go_at_call 38; refine (eqPlaces_c _ _ _ _ _).mono ?_; intro e w' h; refine ⟨h.1.trans ?_, ⟨keep_cell (h.2) hS.1, keep_cell (h.2) hS.2.1, keep_cell (h.2) hS.2.2.1, keep_cell (h.2) hS.2.2.2.1, below_via hS.2.2.2.2 (h.2)⟩⟩; with_reducible rfl))); simp only [Act.put, List.setIfInBounds_toArray, List.set_cons_zero, List.set_cons_succ]))
      refine wpDet_nil ?_
      intro w1 hS
      have hT : w1.cell? (a1.add (i * 2)) = some (.int .i64 (px l1 i)) ∧ w1.cell? ⟨(a1.add (i * 2)).block, (a1.add (i * 2)).off + 1, none⟩ = some (.int .i64 (py l1 i)) ∧ w1.cell? (a2.add (i * 2)) = some (.int .i64 (px l2 i)) ∧ w1.cell? ⟨(a2.add (i * 2)).block, (a2.add (i * 2)).off + 1, none⟩ = some (.int .i64 (py l2 i)) ∧ Below w.heap.size w w1 := hS
      clear hS
      have hS := hT
      obtain ⟨c0, c1, c2, c3, hB⟩ := hT
      have hzw : w.heap.size ≤ w1.heap.size := hB.size
      go_wp2
      go_returns
      exact ⟨ret_eq (by rw [HF.out]; simp), by go_grown⟩
    obtain rfl : i = n := by omega
    have HF := hide (show decide (l1 = l2) = true from decide_eq_true (pts_all (by rw [Hn.out]; exact H.out) (by rw [Hn.out, Hn2.out])))
    go_wp2
    go_returns
    exact ⟨ret_eq (by rw [HF.out]; simp), by go_grown⟩

theorem markPlaceS_c (A : Option Addr) (c n base : Nat) (xs : List Value) (k : Int) (w : World) (hown : Hid (w.ownsRow base 25 2 (.slice A n c) n xs)) (bn : n ≤ 4000000) (b2 : 0 ≤ k) (b3 : k ≤ 100000000)  : Calls Try.prog 43 #[.slice A n c, .int .i64 k] w (fun e w' => e = .returned (.int .i64 (k + ((n * 2) : Nat))) ∧ w'.ownsRow base 25 2 (.slice A n c) n (seqV (n * 2) k) ∧ w.grownBy w' (Value.ownBlock (.slice A n c))) := by
  have HX := hide (show xs.length = (n * 2) from by have := hown.out.1; omega)
  by_cases hz : n = 0
  · subst hz
    have HXN := hide (List.eq_nil_of_length_eq_zero (by have := HX.out; omega) : xs = [])
    go_enter Try.func43, Try.ntmps43
    go_wp2
    go_loop [1, 5] (fun kv iv => kv = .int .i64 k ∧ iv = .int .i64 0) (fun _ _ => 0)
    case atStart => exact ⟨rfl, rfl⟩
    case round =>
      obtain ⟨rfl, rfl⟩ := hrel
      go_wp2
      go_returns
      exact ⟨ret_eq (by simp), by have h9 := hown.out; rw [HXN.out] at h9; exact h9, World.grownBy.refl _ _⟩
  obtain ⟨g, rfl, hg0, hg1⟩ := own_at hown.out hz
  go_enter Try.func43, Try.ntmps43
  go_wp2
  go_loopw [1, 5] (fun kv iv wr => ∃ i : Nat, i ≤ n ∧ iv = .int .i64 i ∧ kv = .int .i64 (k + ((i * 2) : Nat)) ∧ Hid (wr.ownsRow base 25 2 (.slice (some ⟨g, 0, none⟩) n c) n (seqV (i * 2) k ++ xs.drop (i * 2))) ∧ Hid (w.grownBy wr (some g))) (fun _ iv _ => n - (intOf iv).toNat)
  case atStart => exact ⟨0, by omega, rfl, by go_num, hide (by simpa [seqV] using hown.out), hide (World.grownBy.refl _ _)⟩
  case round =>
    obtain ⟨i, hi, rfl, rfl, hw, hgr⟩ := hrel
    by_cases hlt : i < n
    · obtain ⟨⟨u, hcell⟩, hfr, H1, H2⟩ := mark_own2 (j := i * 2) hw.out (by omega) HX.out
      have H3 := H1
      have H4 := hide (grown_trans hgr.out H2)
      obtain ⟨⟨u2, hcell2⟩, hfr2, H5, H6⟩ := mark_own2 (j := i * 2 + 1) H3 (by omega) HX.out
      have H7 := hide H5
      have H8 := hide (grown_trans H4.out H6)
      have ek : k + ((i * 2 : Nat) : Int) + 1 = k + ((i * 2 + 1 : Nat) : Int) := by omega
      have e2 : (i + 1) * 2 = i * 2 + 1 + 1 := by omega
      clear H1 H2 H5 H6 H3
      obtain ⟨q, hq⟩ : ∃ q, k + ((i * 2 : Nat) : Int) = q := ⟨_, rfl⟩
      obtain ⟨q2, hq2⟩ : ∃ q2, k + ((i * 2 + 1 : Nat) : Int) = q2 := ⟨_, rfl⟩
      rw [hq] at hcell2 hfr2 H7 H8 H4 ek
      rw [hq2] at H7 H8 ek
      have q0 : 0 ≤ q := by omega
      have q1 : q ≤ 200000000 := by omega
      have HQ := hide hq
      have HQ2 := hide hq2
      have HE2 := hide e2
      rw [hq]
      clear hq hq2 e2
      go_wp2
      go_roundw
      case rel => exact ⟨i + 1, by omega, by go_num, int_eq (by have := HQ2.out; omega), by rw [HE2.out]; exact H7, H8⟩
      case measure => simp [intOf]; omega
    obtain rfl : i = n := by omega
    have HD := hide (show xs.drop (i * 2) = [] from List.drop_eq_nil_of_le (by have := HX.out; omega))
    go_wp2
    go_returns
    exact ⟨rfl, by have h9 := hw.out; rw [HD.out, List.append_nil] at h9; exact h9, hgr.out⟩

theorem heldPlaceS_c (A : Option Addr) (c n : Nat) (k : Int) (w : World) (h1 : Hid (Reads w w.heap.size 2 A n (seqV (n * 2) k))) (bn : n ≤ 4000000) (b2 : 0 ≤ k) (b3 : k ≤ 100000000)  : Calls Try.prog 44 #[.slice A n c, .int .i64 k] w (fun e w' => e = .returned (.int .i64 (k + ((n * 2) : Nat))) ∧ w = w') := by
  go_enter Try.func44, Try.ntmps44
  go_wp2
  go_loop [1, 5] (fun kv iv => ∃ i : Nat, i ≤ n ∧ iv = .int .i64 i ∧ kv = .int .i64 (k + ((i * 2) : Nat))) (fun _ iv => n - (intOf iv).toNat)
  case atStart => exact ⟨0, by omega, rfl, by go_num⟩
  case round =>
    obtain ⟨i, hi, rfl, rfl⟩ := hrel
    obtain ⟨q, hq⟩ : ∃ q, k + ((i * 2) : Nat) = q := ⟨_, rfl⟩
    rw [hq]
    have q0 : 0 ≤ q := by omega
    have q1 : q ≤ 200000000 := by omega
    by_cases hlt : i < n
    · obtain ⟨ad, rfl, hb, hc, hc2⟩ := h1.out.two hlt (seqV_at k (by omega)) (seqV_at k (by omega))
      rw [hq] at hc
      have e1 : k + ((i * 2 + 1 : Nat) : Int) = q + 1 := by omega
      rw [e1] at hc2
      clear e1
      have HQ := hide hq
      clear hq
      go_wp2
      go_round
      case rel => exact ⟨i + 1, by omega, by go_num, int_eq (by have := HQ.out; omega)⟩
      case measure => simp [intOf]; omega
    obtain rfl : i = n := by omega
    have HQ := hide hq
    clear hq
    go_wp2
    go_returns
    exact ⟨ret_eq (int_eq (by have := HQ.out; omega)), rfl⟩
end Go.Proofs.Ytpabfkodlgglcaa
