/- Contracts: lists of sites that are drawn. -/
import Derived.Test.YtnocgcfepkdjeaaCurS
import Derived.Test.YtnocgcfepkdjeaaApp
namespace Go.Proofs.Ytnocgcfepkdjeaa
open Go.RowKit

set_option maxRecDepth 100000 in
set_option maxHeartbeats 4000000 in
theorem sites_c (g k : Nat) (w : World) (hc : Hid (Cur w g k)) (hk : k ≤ 1000)  : Calls Try.prog 85 #[.pointer (some ⟨g, 0, none⟩)] w (CurG w g (k + 30) (IsPts 32 w.heap.size 6)) := by
  have hgw : g < w.heap.size := hc.out.lt
  obtain ⟨i0, hi0, iz0, iy0, ix0⟩ := info_parts infoSite
  go_enter Try.func85, Try.ntmps85
  go_wp2_with fail
  refine (pick_c 4 (by omega) g k _ (hide (by repeat' (first | (with_reducible exact hc.out) | (with_reducible refine Cur.drew ?_) | (with_reducible refine Cur.alloc ?_ _) | (with_reducible refine Cur.setc ?_ (by first | omega | (simp; done) | (simp; omega)) _)))) (by omega)).mono ?_
  rintro e w1 ⟨_, rfl, ⟨x, rfl, x0, x1⟩, hc1, hg1⟩
  have hr1 := World.ownsRow.kept (own_empty w (e := 32) (size := 2) (H := w.heap.size) (base := w.heap.size) rfl (Nat.le_refl _)) hg1 (own_far (own_empty w (e := 32) (size := 2) (H := w.heap.size) (base := w.heap.size) rfl (Nat.le_refl _)) hgw)
  have hG1 : w.grownBy w1 (some g) := grown_trans (gb_alloc (gb_refl _ _) _) hg1
  obtain ⟨j0, rfl⟩ := Int.eq_ofNat_of_zero_le x0
  have hj0 : j0 ≤ 3 := by omega
  have HR1 := hide hr1
  have HC1 := hide hc1
  have HG1 := hide hG1
  clear hr1 hc1 hG1 hg1
  go_wp2
  go_loopw [3, 4] (fun lv nv wr => ∃ (l : List Pt) (j : Nat) (A : Option Addr) (c : Nat), j ≤ 4 ∧ nv = .int .i64 j ∧ lv = .slice A l.length c ∧ l.length + j = j0 + 1 ∧ Hid (∀ p ∈ l, (-1000 ≤ p.1 ∧ p.1 ≤ 1000) ∧ -1000 ≤ p.2 ∧ p.2 ≤ 1000) ∧ Hid (wr.ownsRow w.heap.size 32 2 (.slice A l.length c) l.length (flat l)) ∧ Hid (Cur wr g (k + 2 + 4 * (4 - j))) ∧ Hid (w.grownBy wr (some g))) (fun _ nv _ => (intOf nv).toNat)
  case atStart => exact ⟨[], j0 + 1, _, _, by omega, by go_num, rfl, by simp, hide (by simp), HR1, hide (HC1.out.more (by omega)), HG1⟩
  case round =>
    obtain ⟨l, j, A, c, hj4, rfl, rfl, hlj, HP, HR, HC, HG⟩ := hrel
    have hgz : g < wr.heap.size := HC.out.lt
    by_cases hj : j = 0
    rotate_left
    · obtain ⟨m, rfl⟩ : ∃ m, j = m + 1 := ⟨j - 1, by omega⟩
      go_wp2_with fail
      refine (point_c g _ _ (hide (by repeat' (first | (with_reducible exact HC.out) | (with_reducible refine Cur.drew ?_) | (with_reducible refine Cur.alloc ?_ _) | (with_reducible refine Cur.setc ?_ (by first | omega | (simp; done) | (simp; omega)) _)))) (by omega)).mono ?_
      rintro e w2 ⟨_, rfl, ⟨a, b, rfl, ⟨a0, a1⟩, b0, b1⟩, hc2, hg2⟩
      have hr2 := World.ownsRow.kept HR.out hg2 (own_far HR.out hgw)
      have hG2 := grown_trans HG.out hg2
      have hz2 := hG2.size
      go_wp2_with (first | (at_builtin; refine wpList_append_lies _ rfl _ _ 26 rfl w.heap.size 32 i0 (.agg #[.int .i64 0, .int .i64 0]) 2 16 Try.underlying26 hi0 iz0 iy0 ix0 rfl (by decide) _ (l).length (flat (l)) rfl (hr2.alloc _) ⟨w2.heap.size, 0, none⟩ 1 1 [.int .i64 a, .int .i64 b] rfl rfl (news_two (by simp [go_sem]) (by simp [go_sem])) (by intro u hu; simp at hu; rcases hu with rfl | rfl <;> rfl) (by decide) (by unfold maxLen; omega) (by omega) (by first | (simp [go_sem]; done) | (simp [go_sem]; omega)) _ rfl ?_; intro g9 cap9 w9 hown9 hgrow9 _ _; have hC9 := cur_row (hc2.alloc _) (hr2.alloc _) hgrow9 hgw; have hG9 := gb_row (gb_alloc hG2 _) (hr2.alloc _) hgrow9 (Nat.le_refl _)))
      go_roundw
      case rel => exact ⟨l ++ [(a, b)], m, some ⟨g9, 0, none⟩, cap9, by omega, by go_num, by simp, by simp; omega, hide (fun p hp => by rcases List.mem_append.1 hp with hp | hp; exact HP.out p hp; simp at hp; subst hp; exact ⟨⟨by show -1000 ≤ a; omega, by show a ≤ 1000; omega⟩, by show -1000 ≤ b; omega, by show b ≤ 1000; omega⟩), hide (by simpa [flat_snoc] using hown9), hide (hC9.more (by omega)), hide hG9⟩
      case measure => first | (simp [intOf]; done) | (simp [intOf]; omega)
    subst hj
    have hl4 : l.length ≤ 4 := by omega
    have hl1 : 1 ≤ l.length := by omega
    go_wp2_with fail
    refine (pick_c 24 (by omega) g _ _ (hide (by repeat' (first | (with_reducible exact HC.out) | (with_reducible refine Cur.drew ?_) | (with_reducible refine Cur.alloc ?_ _) | (with_reducible refine Cur.setc ?_ (by first | omega | (simp; done) | (simp; omega)) _)))) (by omega)).mono ?_
    rintro e w3 ⟨_, rfl, ⟨p, rfl, p0, p1⟩, hc3, hg3⟩
    have hr3 := World.ownsRow.kept HR.out hg3 (own_far HR.out hgw)
    have hG3 := grown_trans HG.out hg3
    have hgz3 : g < w3.heap.size := hc3.lt
    have hz3 := hG3.size
    by_cases hp0 : p = 0
    · subst hp0
      go_wp2_with fail
      refine (anyPoint_c g _ _ (hide (by repeat' (first | (with_reducible exact hc3) | (with_reducible refine Cur.drew ?_) | (with_reducible refine Cur.alloc ?_ _) | (with_reducible refine Cur.setc ?_ (by first | omega | (simp; done) | (simp; omega)) _)))) (by omega)).mono ?_
      rintro e w4 ⟨_, rfl, ⟨a, b, rfl, ⟨a0, a1⟩, b0, b1⟩, hc4, hg4⟩
      have hr4 := World.ownsRow.kept hr3 hg4 (own_far hr3 hgw)
      have hG4 := grown_trans hG3 hg4
      have hz4 := hG4.size
      go_wp2_with (first | (at_builtin; refine wpList_append_lies _ rfl _ _ 26 rfl w.heap.size 32 i0 (.agg #[.int .i64 0, .int .i64 0]) 2 16 Try.underlying26 hi0 iz0 iy0 ix0 rfl (by decide) _ (l).length (flat (l)) rfl (hr4.alloc _) ⟨w4.heap.size, 0, none⟩ 1 1 [.int .i64 a, .int .i64 b] rfl rfl (news_two (by simp [go_sem]) (by simp [go_sem])) (by intro u hu; simp at hu; rcases hu with rfl | rfl <;> rfl) (by decide) (by unfold maxLen; omega) (by omega) (by first | (simp [go_sem]; done) | (simp [go_sem]; omega)) _ rfl ?_; intro g9 cap9 w9 hown9 hgrow9 _ _; have hC9 := cur_row (hc4.alloc _) (hr4.alloc _) hgrow9 hgw; have hG9 := gb_row (gb_alloc hG4 _) (hr4.alloc _) hgrow9 (Nat.le_refl _)))
      go_wp2
      go_returns
      exact ⟨_, rfl, ⟨l ++ [(a, b)], some ⟨g9, 0, none⟩, cap9, by simp, by simpa [flat_snoc] using hown9, by simp; omega, fun p hp => by rcases List.mem_append.1 hp with hp | hp; exact HP.out p hp; simp at hp; subst hp; exact ⟨⟨by show -1000 ≤ a; omega, by show a ≤ 1000; omega⟩, by show -1000 ≤ b; omega, by show b ≤ 1000; omega⟩⟩, hC9.more (by omega), hG9⟩
    by_cases hp1 : p = 1
    · subst hp1
      obtain ⟨b9, rfl, hb0, hb1⟩ := own_at hr3 (by omega)
      obtain ⟨cx, cy⟩ := own_pt hr3 (k := 0) (by omega)
      obtain ⟨X, hX⟩ : ∃ X, px l 0 = X := ⟨_, rfl⟩
      obtain ⟨Y, hY⟩ : ∃ Y, py l 0 = Y := ⟨_, rfl⟩
      rw [hX] at cx
      rw [hY] at cy
      have hXY := hide (HP.out _ (px_mem (l := l) (k := 0) (by omega)))
      rw [hX, hY] at hXY
      clear hX hY
      go_wp2_with (first | (at_builtin; refine wpList_append_lies _ rfl _ _ 26 rfl w.heap.size 32 i0 (.agg #[.int .i64 0, .int .i64 0]) 2 16 Try.underlying26 hi0 iz0 iy0 ix0 rfl (by decide) _ (l).length (flat (l)) rfl (hr3.alloc _) ⟨w3.heap.size, 0, none⟩ 1 1 [.int .i64 X, .int .i64 Y] rfl rfl (news_two (by simp [go_sem]) (by simp [go_sem])) (by intro u hu; simp at hu; rcases hu with rfl | rfl <;> rfl) (by decide) (by unfold maxLen; omega) (by omega) (by first | (simp [go_sem]; done) | (simp [go_sem]; omega)) _ rfl ?_; intro g9 cap9 w9 hown9 hgrow9 _ _; have hC9 := cur_row (hc3.alloc _) (hr3.alloc _) hgrow9 hgw; have hG9 := gb_row (gb_alloc hG3 _) (hr3.alloc _) hgrow9 (Nat.le_refl _)))
      go_wp2
      go_returns
      exact ⟨_, rfl, ⟨l ++ [(X, Y)], some ⟨g9, 0, none⟩, cap9, by simp, by simpa [flat_snoc] using hown9, by simp; omega, fun p hp => by rcases List.mem_append.1 hp with hp | hp; exact HP.out p hp; simp at hp; subst hp; exact hXY.out⟩, hC9.more (by omega), hG9⟩
    by_cases hp2 : p = 2
    · subst hp2
      go_wp2
      go_returns
      exact ⟨_, rfl, ⟨[], _, _, rfl, own_empty _ (by first | rfl | simp) (by first | exact hG3.size | (simp; exact hG3.size)), by simp, by simp⟩, (hc3.alloc _).more (by omega), gb_alloc hG3 _⟩
    by_cases hp3 : p = 3
    · subst hp3
      go_wp2_with fail
      refine (pick_c 2 (by omega) g (k + 2 + 4 * (4 - 0) + 2) _ (hide (by repeat' (first | (with_reducible exact hc3) | (with_reducible refine Cur.drew ?_) | (with_reducible refine Cur.alloc ?_ _) | (with_reducible refine Cur.setc ?_ (by first | omega | (simp; done) | (simp; omega)) _)))) (by omega)).mono ?_
      rintro e w4 ⟨_, rfl, ⟨q, rfl, q0, q1⟩, hc4, hg4⟩
      by_cases hq : q = 0
      · subst hq
        have hrl := World.ownsRow.kept (own_lit (w := w3) (base := w.heap.size) (H := w3.heap.size) (cap := 6) (size := 2) (n := 5) (e := 32) (xs := (flat [((0 : Int), (0 : Int)), (30, 0), (0, 30), (30, 30), (15, 15), (3, 4)]).toArray) (ys := flat ([((0 : Int), (0 : Int)), (30, 0), (0, 30), (30, 30), (15, 15)] : List Pt)) rfl hG3.size (by omega) (by unfold maxLen; omega) rfl rfl rfl) hg4 (own_far (own_lit (w := w3) (base := w.heap.size) (H := w3.heap.size) (cap := 6) (size := 2) (n := 5) (e := 32) (xs := (flat [((0 : Int), (0 : Int)), (30, 0), (0, 30), (30, 30), (15, 15), (3, 4)]).toArray) (ys := flat ([((0 : Int), (0 : Int)), (30, 0), (0, 30), (30, 30), (15, 15)] : List Pt)) rfl hG3.size (by omega) (by unfold maxLen; omega) rfl rfl rfl) hgw)
        go_wp2
        go_returns
        exact ⟨_, rfl, ⟨[((0 : Int), (0 : Int)), (30, 0), (0, 30), (30, 30), (15, 15)], _, _, rfl, hrl, by simp, by decide⟩, hc4.more (by omega), grown_trans (gb_alloc hG3 _) hg4⟩
      obtain rfl : q = 1 := by omega
      have hrl := World.ownsRow.kept (own_lit (w := w3) (base := w.heap.size) (H := w3.heap.size) (cap := 6) (size := 2) (n := 6) (e := 32) (xs := (flat [((0 : Int), (0 : Int)), (30, 0), (0, 30), (30, 30), (15, 15), (3, 4)]).toArray) (ys := flat ([((0 : Int), (0 : Int)), (30, 0), (0, 30), (30, 30), (15, 15), (3, 4)] : List Pt)) rfl hG3.size (by omega) (by unfold maxLen; omega) rfl rfl rfl) hg4 (own_far (own_lit (w := w3) (base := w.heap.size) (H := w3.heap.size) (cap := 6) (size := 2) (n := 6) (e := 32) (xs := (flat [((0 : Int), (0 : Int)), (30, 0), (0, 30), (30, 30), (15, 15), (3, 4)]).toArray) (ys := flat ([((0 : Int), (0 : Int)), (30, 0), (0, 30), (30, 30), (15, 15), (3, 4)] : List Pt)) rfl hG3.size (by omega) (by unfold maxLen; omega) rfl rfl rfl) hgw)
      go_wp2
      go_returns
      exact ⟨_, rfl, ⟨[((0 : Int), (0 : Int)), (30, 0), (0, 30), (30, 30), (15, 15), (3, 4)], _, _, rfl, hrl, by simp, by decide⟩, hc4.more (by omega), grown_trans (gb_alloc hG3 _) hg4⟩
    have hb0 : (p == 0) = false := by simp [hp0]
    have hb1 : (p == 1) = false := by simp [hp1]
    have hb2 : (p == 2) = false := by simp [hp2]
    have hb3 : (p == 3) = false := by simp [hp3]
    clear hp0 hp1 hp2 hp3
    go_wp2
    go_returns
    exact ⟨_, rfl, ⟨l, _, _, rfl, hr3, by omega, HP.out⟩, hc3.more (by omega), hG3⟩
end Go.Proofs.Ytnocgcfepkdjeaa
