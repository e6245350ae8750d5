/- Contracts: arrivals that are drawn. -/
import Derived.Deep.RegionWith
import Derived.Test.YtnocgcfepkdjeaaDrA
import Derived.Test.YtnocgcfepkdjeaaSiF
import Derived.Test.YtnocgcfepkdjeaaSbMath
namespace Go.Proofs.Ytnocgcfepkdjeaa
open Go.RowKit

/-- A list of numbers of the call's own. -/
def IsNums (E : TypeId) (base m : Nat) (v : Value) (w' : World) : Prop := ∃ (a : List Int) (A : Option Addr) (c : Nat), v = .slice A a.length c ∧ w'.ownsRow base E 1 (.slice A a.length c) a.length (ints a) ∧ a.length ≤ m

theorem own_gd {w w' : World} {base g : Nat} {e : TypeId} {size : Nat} {v : Value} {n : Nat} {xs : List Value} (h : w.ownsRow base e size v n xs) (hg : w.drew.grownBy w' (some g)) (hb : g < base) : w'.ownsRow base e size v n xs :=
  World.ownsRow.kept (w := w.drew) h hg (own_far h hb)
theorem own_gb {w w' : World} {o : Obj} {base g : Nat} {e : TypeId} {size : Nat} {v : Value} {n : Nat} {xs : List Value} (h : w.ownsRow base e size v n xs) (hg : (w.alloc o).grownBy w' (some g)) (hb : g < base) : w'.ownsRow base e size v n xs :=
  World.ownsRow.kept (h.alloc o) hg (own_far (h.alloc o) hb)
theorem arrL_nth {l : List Pt} {p : Pt} {t : Int} {i : Nat} (h : i < l.length) : nth (arrL l p t) i = t + dst (px l i, py l i) p := by
  unfold nth arrL px py
  simp [List.getElem?_map, List.getElem?_eq_getElem h]
theorem ints_set (a : List Int) (i : Nat) (x : Int) : (ints a).set i (.int .i64 x) = ints (a.set i x) := by simp [ints, List.map_set]

set_option maxRecDepth 100000 in
set_option maxHeartbeats 4000000 in
theorem arrivalsD_c (A : Option Addr) (c bs : Nat) (l : List Pt) (g k : Nat) (w : World) (hc : Hid (Cur w g k)) (hk : k ≤ 1000) (ho : Hid (w.ownsRow bs 32 2 (.slice A l.length c) l.length (flat l))) (hbs : g < bs) (hl6 : l.length ≤ 6) (hp6 : Hid (∀ p ∈ l, (-1000 ≤ p.1 ∧ p.1 ≤ 1000) ∧ -1000 ≤ p.2 ∧ p.2 ≤ 1000))  : Calls Try.prog 105 #[.pointer (some ⟨g, 0, none⟩), .slice A l.length c] w (CurG w g (k + 14) (IsNums 3 w.heap.size 7)) := by
  have hgw : g < w.heap.size := hc.out.lt
  obtain ⟨i0, hi0, iz0, iy0, ix0⟩ := info_parts infoInt
  have hsm : Hid (small l) := hide (fun k hk => by have := hp6.out _ (px_mem hk); simp only at this; omega)
  go_enter Try.func105, Try.ntmps105
  go_wp2_with fail
  refine (point_c g k _ (hide (by repeat' (first | (with_reducible exact hc.out) | (with_reducible refine Cur.drew ?_) | (with_reducible refine Cur.alloc ?_ _) | (with_reducible refine Cur.setc ?_ (by first | omega | (simp; done) | (simp; omega)) _)))) (by omega)).mono ?_
  rintro e w1 ⟨_, rfl, ⟨x, y, rfl, ⟨x0, x1⟩, y0, y1⟩, hc1, hg1⟩
  have hr1 := World.ownsRow.kept ho.out hg1 (own_far ho.out hbs)
  have hgl1 : g < w1.heap.size := hc1.lt
  go_wp2_with fail
  refine (among_c 0 100000 [0, 50, 1000, 100000] _ _ g (k + 4) _ (hide (by repeat' (first | (with_reducible exact hc1) | (with_reducible refine Cur.drew ?_) | (with_reducible refine Cur.alloc ?_ _) | (with_reducible refine Cur.setc ?_ (by first | omega | (simp; done) | (simp; omega)) _)))) (by omega) (hide (lit_at (by rfl) (by simp))) (by intro e; (try dsimp only at e); omega) ⟨by decide, by decide⟩ (hide (by decide))).mono ?_
  rintro e w2 ⟨_, rfl, ⟨t, rfl, t0, t1⟩, hc2, hg2⟩
  have hr2 := own_gb hr1 hg2 hbs
  have hG2 : w.grownBy w2 (some g) := grown_trans (gb_alloc hg1 _) hg2
  have hz2 := hG2.size
  go_wp2_with fail
  refine (l10Arrivals_c _ A c l x y t (hide (own_reads hr2)) (by omega) hsm (by omega) (by omega) (by omega) (by omega) (by omega) (by omega)).mono ?_
  rintro e w3 ⟨A3, c3, rfl, ho3, hb3⟩
  have hc3 := hc2.below hb3
  have hG3 := gb_below hG2 hb3
  have hr3 := own_mono ho3 (base' := w.heap.size) hz2
  have hbd : ∀ i, i < l.length → -1000000 ≤ nth (arrL l (x, y) t) i ∧ nth (arrL l (x, y) t) i ≤ 1000000 := fun i hi => by
    rw [arrL_nth hi]
    have h1 := hp6.out _ (px_mem hi)
    simp only at h1
    obtain ⟨d0, d1⟩ := dst_bd (x := px l i) (y := py l i) (u := x) (v := y) (m := 1000) (by omega) (by omega) (by omega) (by omega) (by omega) (by omega) (by omega) (by omega)
    omega
  have hal := arrL_len l (x, y) t
  obtain ⟨a, ha⟩ : ∃ a, arrL l (x, y) t = a := ⟨_, rfl⟩
  rw [ha] at hr3 hbd hal
  rw [← hal] at hr3 hbd ⊢
  have ha6 : a.length ≤ 6 := by omega
  have HBD := hide hbd
  clear ha hal hbd ho3 hr1 hr2 hg1 hg2 hb3 hG2
  by_cases hz : a.length = 0
  · have hza : a = [] := List.eq_nil_of_length_eq_zero hz
    subst hza
    go_wp2_with fail
    refine (one_c 24 (by omega) g (k + 6) _ (hide (by repeat' (first | (with_reducible exact hc3) | (with_reducible refine Cur.drew ?_) | (with_reducible refine Cur.alloc ?_ _) | (with_reducible refine Cur.setc ?_ (by first | omega | (simp; done) | (simp; omega)) _)))) (by omega)).mono ?_
    rintro e w8 ⟨_, rfl, ⟨o2, rfl⟩, hc8, hg8⟩
    have hr8 := World.ownsRow.kept (hr3) hg8 (own_far (hr3) hgw)
    have hG8 := grown_trans (hG3) hg8
    have hz8 := hG8.size
    cases o2
    · go_wp2
      go_returns
      exact ⟨_, rfl, ⟨([] : List Int), _, _, by simp, hr8, by simp⟩, hc8.more (by omega), hG8⟩
    · go_wp2_with (first | (at_builtin; refine wpList_append_lies _ rfl _ _ 30 rfl w.heap.size 3 i0 (.int .i64 0) 1 8 Try.underlying30 hi0 iz0 iy0 ix0 rfl (by decide) _ (([] : List Int)).length (ints (([] : List Int))) rfl (hr8.alloc _) ⟨w8.heap.size, 0, none⟩ 1 1 [.int .i64 5] rfl rfl (news_one (by simp [go_sem])) (by intro u hu; simp at hu; subst hu; rfl) (by decide) (by unfold maxLen; omega) (by omega) (by first | (simp [go_sem]; done) | (simp [go_sem]; omega)) _ rfl ?_; intro g9 cap9 w9 hown9 hgrow9 _ _; have hC9 := cur_row (hc8.alloc _) (hr8.alloc _) hgrow9 hgw; have hG9 := gb_row (gb_alloc hG8 _) (hr8.alloc _) hgrow9 (Nat.le_refl _)))
      go_wp2
      go_returns
      exact ⟨_, rfl, ⟨([] : List Int) ++ [5], some ⟨g9, 0, none⟩, cap9, by simp, by simpa [ints] using hown9, by first | (simp; done) | (simp; omega)⟩, hC9.more (by omega), hG9⟩
  obtain ⟨b9, rfl, hb90, hb91⟩ := own_at hr3 hz
  have hpl : (0 : Int) < (a.length : Int) := by omega
  go_wp2_with fail
  refine (one_c 4 (by omega) g (k + 6) _ (hide (by repeat' (first | (with_reducible exact hc3) | (with_reducible refine Cur.drew ?_) | (with_reducible refine Cur.alloc ?_ _) | (with_reducible refine Cur.setc ?_ (by first | omega | (simp; done) | (simp; omega)) _)))) (by omega)).mono ?_
  rintro e w4 ⟨_, rfl, ⟨o1, rfl⟩, hc4, hg4⟩
  have hr4 := World.ownsRow.kept hr3 hg4 (own_far hr3 hgw)
  have hG4 := grown_trans hG3 hg4
  cases o1
  · go_wp2_with fail
    refine (one_c 24 (by omega) g (k + 8) _ (hide (by repeat' (first | (with_reducible exact hc4) | (with_reducible refine Cur.drew ?_) | (with_reducible refine Cur.alloc ?_ _) | (with_reducible refine Cur.setc ?_ (by first | omega | (simp; done) | (simp; omega)) _)))) (by omega)).mono ?_
    rintro e w8 ⟨_, rfl, ⟨o2, rfl⟩, hc8, hg8⟩
    have hr8 := World.ownsRow.kept (hr4) hg8 (own_far (hr4) hgw)
    have hG8 := grown_trans (hG4) hg8
    have hz8 := hG8.size
    cases o2
    · go_wp2
      go_returns
      exact ⟨_, rfl, ⟨a, _, _, rfl, hr8, by omega⟩, hc8.more (by omega), hG8⟩
    · go_wp2_with (first | (at_builtin; refine wpList_append_lies _ rfl _ _ 30 rfl w.heap.size 3 i0 (.int .i64 0) 1 8 Try.underlying30 hi0 iz0 iy0 ix0 rfl (by decide) _ (a).length (ints (a)) rfl (hr8.alloc _) ⟨w8.heap.size, 0, none⟩ 1 1 [.int .i64 5] rfl rfl (news_one (by simp [go_sem])) (by intro u hu; simp at hu; subst hu; rfl) (by decide) (by unfold maxLen; omega) (by omega) (by first | (simp [go_sem]; done) | (simp [go_sem]; omega)) _ rfl ?_; intro g9 cap9 w9 hown9 hgrow9 _ _; have hC9 := cur_row (hc8.alloc _) (hr8.alloc _) hgrow9 hgw; have hG9 := gb_row (gb_alloc hG8 _) (hr8.alloc _) hgrow9 (Nat.le_refl _)))
      go_wp2
      go_returns
      exact ⟨_, rfl, ⟨a ++ [5], some ⟨g9, 0, none⟩, cap9, by simp, by simpa [ints] using hown9, by first | (simp; done) | (simp; omega)⟩, hC9.more (by omega), hG9⟩
  go_wp2_with fail
  refine (pick_c (a.length : Int) (by omega) g (k + 8) _ (hide (by repeat' (first | (with_reducible exact hc4) | (with_reducible refine Cur.drew ?_) | (with_reducible refine Cur.alloc ?_ _) | (with_reducible refine Cur.setc ?_ (by first | omega | (simp; done) | (simp; omega)) _)))) (by omega)).mono ?_
  rintro e w5 ⟨_, rfl, ⟨i5, rfl, i50, i51⟩, hc5, hg5⟩
  have hr5 := World.ownsRow.kept hr4 hg5 (own_far hr4 hgw)
  have hG5 := grown_trans hG4 hg5
  obtain ⟨i, rfl⟩ := Int.eq_ofNat_of_zero_le i50
  have hi : i < a.length := by omega
  have hcell : w5.cell? ⟨b9, i, none⟩ = some (.int .i64 (nth a i)) := by rw [hr5.cellAt i (by omega)]; exact ints_at a i hi
  obtain ⟨n0, n1⟩ := HBD.out i hi
  have hfr5 := hr5.frozenAt i
  have hgl5 := hc5.lt
  have hb9w : b9 < w5.heap.size := World.block_lt_of_cell? w5 _ hcell
  go_wp2
  go_region_with (go_at_call 97; go_loud (refine (pick_c 5 (by decide) g (k + 10) _ (hide (by repeat' (first | (with_reducible exact hc5) | (with_reducible refine Cur.drew ?_) | (with_reducible refine Cur.alloc ?_ _) | (with_reducible refine Cur.setc ?_ (by first | omega | (simp; done) | (simp; omega)) _)))) (by omega)).mono ?_; rintro e w6 ⟨_, rfl, ⟨q, rfl, q0, q1⟩, hc6, hg6⟩; have hq5 : q ≤ 4 := (by omega); have hr6 := own_gd hr5 hg6 hgw; have hcell6 := hg6.cell (a := ⟨b9, i, none⟩) hcell (by intro e; injection e with e; (try dsimp only at e); omega); have hfr6 := hr6.frozenAt i; have hG6 := grown_trans (gb_drew hG5) hg6))
  all_goals
    have hst := (hr6.stored i (.int .i64 (IntKind.i64.wrap (IntKind.i64.wrap (nth a i + q) - 2)))).1
    have hc7 := hc6.setc (a := ⟨b9, i, none⟩) (by show g < b9; omega) (.int .i64 (IntKind.i64.wrap (IntKind.i64.wrap (nth a i + q) - 2)))
    have hG7 := gb_seta hG6 (a := ⟨b9, i, none⟩) (by show w.heap.size ≤ b9; omega) (.int .i64 (IntKind.i64.wrap (IntKind.i64.wrap (nth a i + q) - 2)))
    rw [ints_set] at hst
    generalize World.setCell w6 _ _ = w7 at hst hc7 hG7 ⊢
    generalize IntKind.i64.wrap (IntKind.i64.wrap (nth a i + q) - 2) = V at hst ⊢
    have hl2 : (a.set i V).length = a.length := by simp
    generalize a.set i V = a2 at hst hl2
    rw [← hl2] at hst ⊢
    have ha62 : a2.length ≤ 6 := by omega
    clear hl2
    (try clear hcell hcell6 hfr5 hfr6 hr5 hr6 hc5 hc6)
    go_wp2_with fail
    refine (one_c 24 (by omega) g (k + 12) _ (hide (by repeat' (first | (with_reducible exact hc7) | (with_reducible refine Cur.drew ?_) | (with_reducible refine Cur.alloc ?_ _) | (with_reducible refine Cur.setc ?_ (by first | omega | (simp; done) | (simp; omega)) _)))) (by omega)).mono ?_
    rintro e w8 ⟨_, rfl, ⟨o2, rfl⟩, hc8, hg8⟩
    have hr8 := World.ownsRow.kept (hst) hg8 (own_far (hst) hgw)
    have hG8 := grown_trans (hG7) hg8
    have hz8 := hG8.size
    cases o2
    · go_wp2
      go_returns
      exact ⟨_, rfl, ⟨a2, _, _, rfl, hr8, by omega⟩, hc8.more (by omega), hG8⟩
    · go_wp2_with (first | (at_builtin; refine wpList_append_lies _ rfl _ _ 30 rfl w.heap.size 3 i0 (.int .i64 0) 1 8 Try.underlying30 hi0 iz0 iy0 ix0 rfl (by decide) _ (a2).length (ints (a2)) rfl (hr8.alloc _) ⟨w8.heap.size, 0, none⟩ 1 1 [.int .i64 5] rfl rfl (news_one (by simp [go_sem])) (by intro u hu; simp at hu; subst hu; rfl) (by decide) (by unfold maxLen; omega) (by omega) (by first | (simp [go_sem]; done) | (simp [go_sem]; omega)) _ rfl ?_; intro g9 cap9 w9 hown9 hgrow9 _ _; have hC9 := cur_row (hc8.alloc _) (hr8.alloc _) hgrow9 hgw; have hG9 := gb_row (gb_alloc hG8 _) (hr8.alloc _) hgrow9 (Nat.le_refl _)))
      go_wp2
      go_returns
      exact ⟨_, rfl, ⟨a2 ++ [5], some ⟨g9, 0, none⟩, cap9, by simp, by simpa [ints] using hown9, by first | (simp; done) | (simp; omega)⟩, hC9.more (by omega), hG9⟩
end Go.Proofs.Ytnocgcfepkdjeaa
