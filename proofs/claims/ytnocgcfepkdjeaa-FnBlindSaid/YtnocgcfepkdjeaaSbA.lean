/- Contracts: points that fit. -/
import Derived.Test.YtnocgcfepkdjeaaSiH
namespace Go.Proofs.Ytnocgcfepkdjeaa
open Go.RowKit

theorem own_fin {w : World} {B : Nat} {E : Nat} {L : List Pt} {A : Option Addr} {c m : Nat} (h : w.ownsRow B E 2 (.slice A m c) m (flat L)) : m = L.length := by
  have hk := h.1
  rw [flat_len] at hk
  omega

theorem isTol_c (n : Int) (w : World) : Calls Try.prog 83 #[.int .i64 n] w fun e w' => e = .returned (.bool (wi n 0 5)) ∧ w = w' := by
  go_enter Try.func83, Try.ntmps83
  go_wp2_with (first | (go_at_call 95; refine (within_c _ _ _ _).mono ?_; rintro e w1 ⟨rfl, rfl⟩))
  all_goals (go_returns; exact ⟨ret_eq (by rfl), rfl⟩)

set_option maxHeartbeats 2000000 in
theorem l11Fitting_c (w : World) (A : Option Addr) (c : Nat) (l : List Pt) (A2 : Option Addr) (c2 : Nat) (a : List Int) (tol : Int) (h1 : Hid (Reads w w.heap.size 2 A l.length (flat l))) (hn : l.length ≤ 1000) (hsm : Hid (small l)) (h2 : Hid (Reads w w.heap.size 1 A2 a.length (ints a))) (HAL : Hid (a.length = l.length)) (hab : Hid (smallN a l.length)) (hl1 : 1 ≤ l.length)  : Calls Try.prog 82 #[.slice A l.length c, .slice A2 a.length c2, .int .i64 tol] w (GivesS w 32 2 (fitN l a tol 961).length (flat (fitN l a tol 961)) id) := by
  obtain ⟨i0, hi0, iz0, iy0, ix0⟩ := info_parts infoSite
  go_enter Try.func82, Try.ntmps82
  go_wp2
  go_loopw [7, 8] (fun ov yv wr => ∃ (y m : Nat) (B : Option Addr) (d : Nat), y ≤ 31 ∧ yv = .int .i64 y ∧ ov = .slice B m d ∧ m ≤ 31 * y ∧ Hid (wr.ownsRow w.heap.size 32 2 (.slice B m d) m (flat (fitN l a tol (31 * y)))) ∧ Below w.heap.size w wr) (fun _ yv _ => 31 - (intOf yv).toNat)
  case atStart =>
    refine ⟨0, 0, _, _, by omega, rfl, rfl, by omega, hide ?_, ?_⟩
    · exact own_empty _ (by first | rfl | simp) (by omega)
    · go_grown
  case round =>
    obtain ⟨y, m, B, d, hy, rfl, rfl, hmk, hown, hB⟩ := hrel
    have hzw : w.heap.size ≤ wr.heap.size := hB.size
    by_cases hlt : y < 31
    rotate_left
    · obtain rfl : y = 31 := by omega
      have h9 := hown.out
      rw [show (31 : Nat) * 31 = 961 from rfl] at h9
      obtain ⟨F, hF⟩ : ∃ F, fitN l a tol 961 = F := ⟨_, rfl⟩
      rw [hF] at h9
      have hm := own_fin h9
      subst hm
      go_wp2
      go_returns
      rw [hF]
      exact ⟨_, _, rfl, h9, hB⟩
    have hy30 : (y : Int) ≤ 30 := by omega
    go_wp2
    obtain ⟨wo, hwo⟩ : ∃ wo : World, wo = wr := ⟨_, rfl⟩
    rw [← hwo] at hown hB hzw ⊢
    clear hwo
    go_loopw [7, 9] (fun ov xv wr => ∃ (x m : Nat) (B : Option Addr) (d : Nat), x ≤ 31 ∧ xv = .int .i64 x ∧ ov = .slice B m d ∧ m ≤ 31 * y + x ∧ Hid (wr.ownsRow w.heap.size 32 2 (.slice B m d) m (flat (fitN l a tol (31 * y + x)))) ∧ Below w.heap.size w wr) (fun _ xv _ => 31 - (intOf xv).toNat)
    case atStart => exact ⟨0, m, _, _, by omega, rfl, rfl, by omega, hown, hB⟩
    case round =>
      obtain ⟨x, m, B, d, hx, rfl, rfl, hmk, hown, hB⟩ := hrel
      have hzw : w.heap.size ≤ wr.heap.size := hB.size
      by_cases hltx : x < 31
      rotate_left
      · obtain rfl : x = 31 := by omega
        go_wp2
        go_roundw
        case rel => exact ⟨y + 1, m, _, _, by omega, by go_num, rfl, by omega, by rw [show 31 * (y + 1) = 31 * y + 31 from by omega]; exact hown, hB⟩
        case measure => simp [intOf]; omega
      have hx30 : (x : Int) ≤ 30 := by omega
      have HP := hide (gpt_at (y := y) hltx)
      have hrow := hown.out
      obtain ⟨g, hg⟩ : ∃ g, wr.heap.size = g := ⟨_, rfl⟩
      obtain ⟨D, hD⟩ : ∃ D, spread l a ((x : Int), (y : Int)) = D := ⟨_, rfl⟩
      have HD := hide (show spread l a (gpt (31 * y + x)) = D from by rw [HP.out]; exact hD)
      have Hd := hide hD
      clear hD
      by_cases hd : D ≤ tol
      · go_wp2_with (first | (go_at_call 78; refine (l11Spread_c _ A c l x y A2 c2 a (hide (reads_below h1.out (by go_grown))) (by omega) hsm (hide (reads_below h2.out (by go_grown))) HAL hab hl1 (by omega) (by omega) (by omega) (by omega)).mono ?_; rw [Hd.out]; rintro e w1 ⟨rfl, hb⟩; have hT : w1.cell? ⟨g, 0, none⟩ = some (.int .i64 (x : Int)) ∧ w1.cell? ⟨g, 1, none⟩ = some (.int .i64 (y : Int)) ∧ w1.ownsRow (w.heap.size) 32 2 (.slice B m d) (m) (flat (fitN l a tol (31 * y + x))) ∧ Below w.heap.size w w1 := (fun W h hb => ⟨keep_cell (hb) h.1, keep_cell (hb) h.2.1, own_below h.2.2.1 (hb), below_via h.2.2.2 (hb)⟩ : ∀ W : World, (W.cell? ⟨g, 0, none⟩ = some (.int .i64 (x : Int)) ∧ W.cell? ⟨g, 1, none⟩ = some (.int .i64 (y : Int)) ∧ W.ownsRow (w.heap.size) 32 2 (.slice B m d) (m) (flat (fitN l a tol (31 * y + x))) ∧ Below w.heap.size w W) → Below W.heap.size W w1 → (w1.cell? ⟨g, 0, none⟩ = some (.int .i64 (x : Int)) ∧ w1.cell? ⟨g, 1, none⟩ = some (.int .i64 (y : Int)) ∧ w1.ownsRow (w.heap.size) 32 2 (.slice B m d) (m) (flat (fitN l a tol (31 * y + x))) ∧ Below w.heap.size w w1)) _ (by first | (with_reducible assumption) | (exact hS) | (exact ⟨hS.1, hS.2.1, hS.2.2.1, (by go_grown)⟩) | (exact ⟨(by first | (with_reducible assumption) | (simp [go_sem]; done) | ((simp only [go_sem]); (with_reducible assumption)) | ((refine keep_cell ?_ (by with_reducible assumption)); go_grown; done) | (simp [go_sem, *]; done)), (by first | (with_reducible assumption) | (simp [go_sem]; done) | ((simp only [go_sem]); (with_reducible assumption)) | ((refine keep_cell ?_ (by with_reducible assumption)); go_grown; done) | (simp [go_sem, *]; done)), (by first | (with_reducible assumption) | (exact World.ownsRow.alloc (by with_reducible assumption) _) | ((refine own_below (by with_reducible assumption) ?_); go_grown)), (by go_grown)⟩)) hb; (try clear hS); have hS := hT; clear hT; have hB := hS.2.2.2; have hzw : w.heap.size ≤ w1.heap.size := hB.size; have hz1 : g < w1.heap.size := World.block_lt_of_cell? w1 _ (hS.1); clear hb) | (at_builtin; refine wpList_append_lies _ rfl _ _ 26 rfl (w.heap.size) 32 i0 (.agg #[.int .i64 0, .int .i64 0]) 2 16 Try.underlying26 hi0 iz0 iy0 ix0 rfl (by decide) _ m _ rfl (hS.2.2.1.alloc _) ⟨w1.heap.size, 0, none⟩ 1 1 [.int .i64 (x : Int), .int .i64 (y : Int)] rfl rfl (news_two (by simp [go_sem]) (by simp [go_sem])) (by intro u hu; simp at hu; rcases hu with rfl | rfl <;> rfl) (by decide) (by unfold maxLen; omega) (by omega) (by first | (simp [go_sem]; done) | (simp [go_sem]; omega)) _ rfl ?_; intro g cap w2 hown2 hgrow _ _; have hT : Below w.heap.size w w2 := own_grown (a := w) (B := w.heap.size) ((hS.2.2.1.alloc _)) hgrow (by go_grown) (by first | (simp [go_sem]; done) | (simp [go_sem]; omega)) (by omega); (try clear hS hB hzw hgrow); have hS := hT; clear hT; have hB := hS; have hzw : w.heap.size ≤ w2.heap.size := hB.size))
        go_wp2
        go_roundw
        case rel => exact ⟨x + 1, m + 1, _, _, by omega, by go_num, rfl, by omega, hide (by rw [show 31 * y + (x + 1) = 31 * y + x + 1 from by omega, fitN_yes (by rw [HD.out]; exact hd), flat_snoc, HP.out]; exact hown2), hB⟩
        case measure => simp [intOf]; omega
      · have hdb : decide (D ≤ tol) = false := decide_eq_false hd
        have HN := hide (show fitN l a tol (31 * y + x + 1) = fitN l a tol (31 * y + x) from fitN_no (by rw [HD.out]; exact hd))
        clear hd
        go_wp2_with (first | (go_at_call 78; refine (l11Spread_c _ A c l x y A2 c2 a (hide (reads_below h1.out (by go_grown))) (by omega) hsm (hide (reads_below h2.out (by go_grown))) HAL hab hl1 (by omega) (by omega) (by omega) (by omega)).mono ?_; rw [Hd.out]; rintro e w1 ⟨rfl, hb⟩; have hT : w1.cell? ⟨g, 0, none⟩ = some (.int .i64 (x : Int)) ∧ w1.cell? ⟨g, 1, none⟩ = some (.int .i64 (y : Int)) ∧ w1.ownsRow (w.heap.size) 32 2 (.slice B m d) (m) (flat (fitN l a tol (31 * y + x))) ∧ Below w.heap.size w w1 := (fun W h hb => ⟨keep_cell (hb) h.1, keep_cell (hb) h.2.1, own_below h.2.2.1 (hb), below_via h.2.2.2 (hb)⟩ : ∀ W : World, (W.cell? ⟨g, 0, none⟩ = some (.int .i64 (x : Int)) ∧ W.cell? ⟨g, 1, none⟩ = some (.int .i64 (y : Int)) ∧ W.ownsRow (w.heap.size) 32 2 (.slice B m d) (m) (flat (fitN l a tol (31 * y + x))) ∧ Below w.heap.size w W) → Below W.heap.size W w1 → (w1.cell? ⟨g, 0, none⟩ = some (.int .i64 (x : Int)) ∧ w1.cell? ⟨g, 1, none⟩ = some (.int .i64 (y : Int)) ∧ w1.ownsRow (w.heap.size) 32 2 (.slice B m d) (m) (flat (fitN l a tol (31 * y + x))) ∧ Below w.heap.size w w1)) _ (by first | (with_reducible assumption) | (exact hS) | (exact ⟨hS.1, hS.2.1, hS.2.2.1, (by go_grown)⟩) | (exact ⟨(by first | (with_reducible assumption) | (simp [go_sem]; done) | ((simp only [go_sem]); (with_reducible assumption)) | ((refine keep_cell ?_ (by with_reducible assumption)); go_grown; done) | (simp [go_sem, *]; done)), (by first | (with_reducible assumption) | (simp [go_sem]; done) | ((simp only [go_sem]); (with_reducible assumption)) | ((refine keep_cell ?_ (by with_reducible assumption)); go_grown; done) | (simp [go_sem, *]; done)), (by first | (with_reducible assumption) | (exact World.ownsRow.alloc (by with_reducible assumption) _) | ((refine own_below (by with_reducible assumption) ?_); go_grown)), (by go_grown)⟩)) hb; (try clear hS); have hS := hT; clear hT; have hB := hS.2.2.2; have hzw : w.heap.size ≤ w1.heap.size := hB.size; have hz1 : g < w1.heap.size := World.block_lt_of_cell? w1 _ (hS.1); clear hb))
        go_roundw
        case rel => exact ⟨x + 1, m, _, _, by omega, by go_num, rfl, by omega, hide (by rw [show 31 * y + (x + 1) = 31 * y + x + 1 from by omega, HN.out]; exact hS.2.2.1), hB⟩
        case measure => simp [intOf]; omega

set_option maxHeartbeats 2000000 in
theorem fitting_c (w : World) (A : Option Addr) (c : Nat) (l : List Pt) (A2 : Option Addr) (c2 : Nat) (a : List Int) (tol : Int) (h1 : Hid (Reads w w.heap.size 2 A l.length (flat l))) (hn : l.length ≤ 1000) (hsm : Hid (small l)) (h2 : Hid (Reads w w.heap.size 1 A2 a.length (ints a))) (HAL : Hid (a.length = l.length)) (hab : Hid (smallN a l.length)) (hl1 : 1 ≤ l.length)  : Calls Try.prog 75 #[.slice A l.length c, .slice A2 a.length c2, .int .i64 tol] w (GivesS w 32 2 (fitN l a tol 961).length (flat (fitN l a tol 961)) id) := by
  obtain ⟨i0, hi0, iz0, iy0, ix0⟩ := info_parts infoSite
  go_enter Try.func75, Try.ntmps75
  go_wp2_with (first | (go_at_call 74; refine (ground_c _).mono ?_; rintro e wG ⟨G, cG, rfl, hG, hbG⟩))
  have hB0 : Below w.heap.size w wG := below_via (by go_grown) hbG
  have h1g := hide (reads_below h1.out hB0)
  have h2g := hide (reads_below h2.out hB0)
  obtain ⟨gg, rfl, hgg0, hgg1⟩ := own_at hG (by omega)
  have HG := hide hG
  clear hG hbG
  go_loopw [7, 12] (fun ov iv wr => ∃ (k m : Nat) (B : Option Addr) (d : Nat), k ≤ 961 ∧ iv = .int .i64 k ∧ ov = .slice B m d ∧ m ≤ k ∧ Hid (wr.ownsRow wG.heap.size 32 2 (.slice B m d) m (flat (fitN l a tol k))) ∧ Below wG.heap.size wG wr) (fun _ iv _ => 961 - (intOf iv).toNat)
  case atStart =>
    refine ⟨0, 0, _, _, by omega, rfl, rfl, by omega, hide ?_, Below.refl _ _⟩
    exact World.ownsRow_nil _ _ _ _
  case round =>
    obtain ⟨k, m, B, d, hk, rfl, rfl, hmk, hown, hB⟩ := hrel
    have hzw : wG.heap.size ≤ wr.heap.size := hB.size
    by_cases hlt : k < 961
    rotate_left
    · obtain rfl : k = 961 := by omega
      have h9 := hown.out
      obtain ⟨F, hF⟩ : ∃ F, fitN l a tol 961 = F := ⟨_, rfl⟩
      rw [hF] at h9
      have hm := own_fin h9
      subst hm
      go_wp2
      go_returns
      rw [hF]
      exact ⟨_, _, rfl, own_mono h9 (by omega), below_via hB0 hB⟩
    have hki : (k : Int) < 961 := by omega
    have hrow0 := own_below HG.out hB
    obtain ⟨cx, cy⟩ := own_pt (l := groundN 961) (k := k) hrow0 (by rw [groundN_len]; exact hlt)
    clear hrow0
    have hgw : gg < wr.heap.size := World.block_lt_of_cell? wr _ cx
    obtain ⟨⟨gx0, gx1⟩, gy0, gy1⟩ := groundN_small (n := 961) hlt (by omega)
    have HP := hide (gpt_of (n := 961) hlt)
    obtain ⟨X, hX⟩ : ∃ X, px (groundN 961) k = X := ⟨_, rfl⟩
    obtain ⟨Y, hY⟩ : ∃ Y, py (groundN 961) k = Y := ⟨_, rfl⟩
    rw [hX] at cx gx0 gx1 HP
    rw [hY] at cy gy0 gy1 HP
    clear hX hY
    have hrow := hown.out
    obtain ⟨g, hg⟩ : ∃ g, wr.heap.size = g := ⟨_, rfl⟩
    obtain ⟨D, hD⟩ : ∃ D, spread l a (X, Y) = D := ⟨_, rfl⟩
    have HD := hide (show spread l a (gpt k) = D from by rw [HP.out]; exact hD)
    have Hd := hide hD
    clear hD
    by_cases hd : D ≤ tol
    · go_wp2_with (first | (go_at_call 80; refine (spread_c _ A c l X Y A2 c2 a (hide (reads_below h1g.out (by go_grown))) (by omega) hsm (hide (reads_below h2g.out (by go_grown))) HAL hab hl1 (by omega) (by omega) (by omega) (by omega)).mono ?_; rw [Hd.out]; rintro e w1 ⟨rfl, hb⟩; have hT : w1.cell? ⟨g, 0, none⟩ = some (.int .i64 X) ∧ w1.cell? ⟨g, 1, none⟩ = some (.int .i64 Y) ∧ w1.ownsRow (wG.heap.size) 32 2 (.slice B m d) (m) (flat (fitN l a tol k)) ∧ Below wG.heap.size wG w1 := (fun W h hb => ⟨keep_cell (hb) h.1, keep_cell (hb) h.2.1, own_below h.2.2.1 (hb), below_via h.2.2.2 (hb)⟩ : ∀ W : World, (W.cell? ⟨g, 0, none⟩ = some (.int .i64 X) ∧ W.cell? ⟨g, 1, none⟩ = some (.int .i64 Y) ∧ W.ownsRow (wG.heap.size) 32 2 (.slice B m d) (m) (flat (fitN l a tol k)) ∧ Below wG.heap.size wG W) → Below W.heap.size W w1 → (w1.cell? ⟨g, 0, none⟩ = some (.int .i64 X) ∧ w1.cell? ⟨g, 1, none⟩ = some (.int .i64 Y) ∧ w1.ownsRow (wG.heap.size) 32 2 (.slice B m d) (m) (flat (fitN l a tol k)) ∧ Below wG.heap.size wG w1)) _ (by first | (with_reducible assumption) | (exact hS) | (exact ⟨hS.1, hS.2.1, hS.2.2.1, (by go_grown)⟩) | (exact ⟨(by first | (with_reducible assumption) | (simp [go_sem]; done) | ((simp only [go_sem]); (with_reducible assumption)) | ((refine keep_cell ?_ (by with_reducible assumption)); go_grown; done) | (simp [go_sem, *]; done)), (by first | (with_reducible assumption) | (simp [go_sem]; done) | ((simp only [go_sem]); (with_reducible assumption)) | ((refine keep_cell ?_ (by with_reducible assumption)); go_grown; done) | (simp [go_sem, *]; done)), (by first | (with_reducible assumption) | (exact World.ownsRow.alloc (by with_reducible assumption) _) | ((refine own_below (by with_reducible assumption) ?_); go_grown)), (by go_grown)⟩)) hb; (try clear hS); have hS := hT; clear hT; have hB := hS.2.2.2; have hzw : wG.heap.size ≤ w1.heap.size := hB.size; have hz1 : g < w1.heap.size := World.block_lt_of_cell? w1 _ (hS.1); clear hb) | (at_builtin; refine wpList_append_lies _ rfl _ _ 26 rfl (wG.heap.size) 32 i0 (.agg #[.int .i64 0, .int .i64 0]) 2 16 Try.underlying26 hi0 iz0 iy0 ix0 rfl (by decide) _ m _ rfl (hS.2.2.1.alloc _) ⟨w1.heap.size, 0, none⟩ 1 1 [.int .i64 X, .int .i64 Y] rfl rfl (news_two (by simp [go_sem]) (by simp [go_sem])) (by intro u hu; simp at hu; rcases hu with rfl | rfl <;> rfl) (by decide) (by unfold maxLen; omega) (by omega) (by first | (simp [go_sem]; done) | (simp [go_sem]; omega)) _ rfl ?_; intro g cap w2 hown2 hgrow _ _; have hT : Below wG.heap.size wG w2 := own_grown (a := wG) (B := wG.heap.size) ((hS.2.2.1.alloc _)) hgrow (by go_grown) (by first | (simp [go_sem]; done) | (simp [go_sem]; omega)) (by omega); (try clear hS hB hzw hgrow); have hS := hT; clear hT; have hB := hS; have hzw : wG.heap.size ≤ w2.heap.size := hB.size))
      go_wp2
      go_roundw
      case rel => exact ⟨k + 1, m + 1, _, _, by omega, by go_num, rfl, by omega, hide (by rw [fitN_yes (by rw [HD.out]; exact hd), flat_snoc, HP.out]; exact hown2), hB⟩
      case measure => simp [intOf]; omega
    · have hdb : decide (D ≤ tol) = false := decide_eq_false hd
      have HN := hide (show fitN l a tol (k + 1) = fitN l a tol k from fitN_no (by rw [HD.out]; exact hd))
      clear hd
      go_wp2_with (first | (go_at_call 80; refine (spread_c _ A c l X Y A2 c2 a (hide (reads_below h1g.out (by go_grown))) (by omega) hsm (hide (reads_below h2g.out (by go_grown))) HAL hab hl1 (by omega) (by omega) (by omega) (by omega)).mono ?_; rw [Hd.out]; rintro e w1 ⟨rfl, hb⟩; have hT : w1.cell? ⟨g, 0, none⟩ = some (.int .i64 X) ∧ w1.cell? ⟨g, 1, none⟩ = some (.int .i64 Y) ∧ w1.ownsRow (wG.heap.size) 32 2 (.slice B m d) (m) (flat (fitN l a tol k)) ∧ Below wG.heap.size wG w1 := (fun W h hb => ⟨keep_cell (hb) h.1, keep_cell (hb) h.2.1, own_below h.2.2.1 (hb), below_via h.2.2.2 (hb)⟩ : ∀ W : World, (W.cell? ⟨g, 0, none⟩ = some (.int .i64 X) ∧ W.cell? ⟨g, 1, none⟩ = some (.int .i64 Y) ∧ W.ownsRow (wG.heap.size) 32 2 (.slice B m d) (m) (flat (fitN l a tol k)) ∧ Below wG.heap.size wG W) → Below W.heap.size W w1 → (w1.cell? ⟨g, 0, none⟩ = some (.int .i64 X) ∧ w1.cell? ⟨g, 1, none⟩ = some (.int .i64 Y) ∧ w1.ownsRow (wG.heap.size) 32 2 (.slice B m d) (m) (flat (fitN l a tol k)) ∧ Below wG.heap.size wG w1)) _ (by first | (with_reducible assumption) | (exact hS) | (exact ⟨hS.1, hS.2.1, hS.2.2.1, (by go_grown)⟩) | (exact ⟨(by first | (with_reducible assumption) | (simp [go_sem]; done) | ((simp only [go_sem]); (with_reducible assumption)) | ((refine keep_cell ?_ (by with_reducible assumption)); go_grown; done) | (simp [go_sem, *]; done)), (by first | (with_reducible assumption) | (simp [go_sem]; done) | ((simp only [go_sem]); (with_reducible assumption)) | ((refine keep_cell ?_ (by with_reducible assumption)); go_grown; done) | (simp [go_sem, *]; done)), (by first | (with_reducible assumption) | (exact World.ownsRow.alloc (by with_reducible assumption) _) | ((refine own_below (by with_reducible assumption) ?_); go_grown)), (by go_grown)⟩)) hb; (try clear hS); have hS := hT; clear hT; have hB := hS.2.2.2; have hzw : wG.heap.size ≤ w1.heap.size := hB.size; have hz1 : g < w1.heap.size := World.block_lt_of_cell? w1 _ (hS.1); clear hb))
      go_roundw
      case rel => exact ⟨k + 1, m, _, _, by omega, by go_num, rfl, by omega, hide (by rw [HN.out]; exact hS.2.2.1), hB⟩
      case measure => simp [intOf]; omega
end Go.Proofs.Ytnocgcfepkdjeaa
