/- Law: locating. -/
import Derived.Deep.DeepCutAuto
import Derived.Test.YtnocgcfepkdjeaaLocA
import Derived.Test.YtnocgcfepkdjeaaLocMath
import Derived.Test.YtnocgcfepkdjeaaSbL
import Derived.Test.YtnocgcfepkdjeaaSbC
import Derived.Test.YtnocgcfepkdjeaaSbF
import Derived.Test.YtnocgcfepkdjeaaSiM
import Derived.Test.YtnocgcfepkdjeaaLwA
import Derived.Test.YtnocgcfepkdjeaaArA
namespace Go.Proofs.Ytnocgcfepkdjeaa
open Go.RowKit

set_option maxRecDepth 100000 in
set_option maxHeartbeats 8000000 in
theorem fnLocating (A : Option Addr) (n c : Nat) (w : World) (h1 : Hid (CodeOk w A n))  : Calls Try.prog 11 #[.slice A n c] w (Gives w (.bool true)) := by
  rcases kb : bigB n with _ | _
  rotate_left
  · have HKB := hide kb
    clear kb
    go_enter Try.func11, Try.ntmps11
    go_wp2_with (first | (go_at_call 27; refine (vBig_c _ _ _ _).mono ?_; rintro e w1 ⟨rfl, rfl⟩; rw [HKB.out]))
    go_returns
    exact ⟨ret_eq rfl, by go_grown⟩
  have HKB := hide kb
  have HN := hide (bigB_no kb)
  clear kb
  go_enter Try.func11, Try.ntmps11
  go_wp2_with fail
  refine (vBig_c _ _ _ _).mono ?_
  rintro e wz ⟨rfl, rfl⟩
  rw [HKB.out]
  go_wp2_with fail
  refine (drawArr_c A n c _ (hide (h1.out.below (by go_grown))) HN.out).mono ?_
  rintro e w1 ⟨l, A1, c1, x, y, t, rfl, ho1, hl6, hp6, ⟨⟨hx0, hx1⟩, ⟨hy0, hy1⟩, ht0, ht1⟩, hb⟩
  obtain ⟨b1, ho1, hbk1⟩ := own_based ho1 (m := w.heap.size) (by first | omega | (simp; done) | (simp; omega))
  have hT : w1.ownsRow (b1) 32 2 (.slice A1 l.length c1) (l.length) (flat l) ∧ Below w.heap.size w w1 := ⟨ho1, (fun W h hb => below_via h (hb) : ∀ W : World, (Below w.heap.size w W) → Below W.heap.size W w1 → (Below w.heap.size w w1)) _ (by first | (with_reducible assumption) | go_grown) hb⟩
  (try clear hS)
  have hS := hT
  clear hT
  have hB := hS.2
  have hzw : w.heap.size ≤ w1.heap.size := hB.size
  clear hb
  go_wp2_with fail
  obtain ⟨w2, hww2⟩ : ∃ W, W = w1.alloc (.cells #[.int .i64 (x), .int .i64 (y)] 32) := ⟨_, rfl⟩
  have hT : w2.cell? ⟨w1.heap.size, 0, none⟩ = some (.int .i64 (x)) ∧ w2.cell? ⟨w1.heap.size, 1, none⟩ = some (.int .i64 (y)) ∧ w2.ownsRow (b1) 32 2 (.slice A1 l.length c1) (l.length) (flat l) ∧ Below w.heap.size w w2 := by
    rw [hww2]
    exact ⟨by simp [go_sem], by simp [go_sem], own_below hS.1 (by go_grown), below_via hS.2 (by go_grown)⟩
  rw [← hww2]
  clear hS hww2
  have hS := hT
  clear hT
  (try clear hB hzw)
  have hB := hS.2.2.2
  have hzw : w.heap.size ≤ w2.heap.size := hB.size
  have hz1 : w1.heap.size < w2.heap.size := World.block_lt_of_cell? w2 _ (hS.1)
  have hvl := arrV_len l (x, y) t
  obtain ⟨K, HK0⟩ : ∃ q, (arrK l (x, y) t) = q := ⟨_, rfl⟩
  have HK := hide HK0
  clear HK0
  obtain ⟨a, ha0⟩ : ∃ q, arrV l (x, y) t = q := ⟨_, rfl⟩
  have HA := hide ha0
  rw [ha0] at hvl
  clear ha0
  have hP := hS
  go_wp2_with fail
  refine (ArrivalsOf_c _ _ _ l x y t (hide (own_reads (hS.2.2.1))) (by omega) (own_cap (hS.2.2.1))).mono ?_
  rw [HA.out, HK.out]
  rintro e w3 ⟨A2, c2, rfl, ho2, hb⟩
  obtain ⟨b2, ho2, hbk2⟩ := own_based ho2 (m := w2.heap.size) (by first | omega | (simp; done) | (simp; omega))
  have ne1_2 := own_ne (hP.2.2.1) ho2 hbk2
  clear hP
  have hT : w3.ownsRow (b2) 3 1 (.slice A2 a.length c2) (a.length) (ints a) ∧ w3.cell? ⟨w1.heap.size, 0, none⟩ = some (.int .i64 (x)) ∧ w3.cell? ⟨w1.heap.size, 1, none⟩ = some (.int .i64 (y)) ∧ w3.ownsRow (b1) 32 2 (.slice A1 l.length c1) (l.length) (flat l) ∧ Below w.heap.size w w3 := ⟨ho2, (fun W h hb => ⟨keep_cell (hb) h.1, keep_cell (hb) h.2.1, own_below h.2.2.1 (hb), below_via h.2.2.2 (hb)⟩ : ∀ W : World, (W.cell? ⟨w1.heap.size, 0, none⟩ = some (.int .i64 (x)) ∧ W.cell? ⟨w1.heap.size, 1, none⟩ = some (.int .i64 (y)) ∧ W.ownsRow (b1) 32 2 (.slice A1 l.length c1) (l.length) (flat l) ∧ Below w.heap.size w W) → Below W.heap.size W w3 → (w3.cell? ⟨w1.heap.size, 0, none⟩ = some (.int .i64 (x)) ∧ w3.cell? ⟨w1.heap.size, 1, none⟩ = some (.int .i64 (y)) ∧ w3.ownsRow (b1) 32 2 (.slice A1 l.length c1) (l.length) (flat l) ∧ Below w.heap.size w w3)) _ (by first | (with_reducible assumption) | (exact hS) | (exact ⟨hS.1, hS.2.1, hS.2.2.1, (by go_grown)⟩) | (exact ⟨(by first | (with_reducible assumption) | (simp [go_sem]; done) | ((simp only [go_sem]); (with_reducible assumption)) | ((refine keep_cell ?_ (by with_reducible assumption)); go_grown; done) | (simp [go_sem, *]; done)), (by first | (with_reducible assumption) | (simp [go_sem]; done) | ((simp only [go_sem]); (with_reducible assumption)) | ((refine keep_cell ?_ (by with_reducible assumption)); go_grown; done) | (simp [go_sem, *]; done)), (by first | (with_reducible assumption) | (exact World.ownsRow.alloc (by with_reducible assumption) _) | ((refine own_below (by with_reducible assumption) ?_); go_grown)), (by go_grown)⟩)) hb⟩
  (try clear hS)
  have hS := hT
  clear hT
  have hB := hS.2.2.2.2
  have hzw : w.heap.size ≤ w3.heap.size := hB.size
  have hz1 : w1.heap.size < w3.heap.size := World.block_lt_of_cell? w3 _ (hS.2.1)
  clear hb
  go_upto_if 53 with fail
  go_cut [] (fun wx => Below w.heap.size w wx)
  case first =>
    cases K
    · go_wp2_with fail
      go_meet
      case rel => go_grown
    have HF : Hid (ArrFacts l (x, y) t a) := hide (by have h := arr_facts HK.out; have e := HA.out; unfold arrV at e; rw [if_pos HK.out] at e; rwa [e] at h)
    have hsk : spK l a (x, y) = true := by have h := HF.out.sndk; unfold sndK at h; exact h
    have hpt : pt (x, y) = true := (Bool.and_eq_true_iff.1 hsk).2
    obtain ⟨bz1, bz2, bz3⟩ := best_zero hpt HF.out.spr
    have hbv : bstV l a = bestN l a 961 := by unfold bstV; rw [if_pos HF.out.ask]
    obtain ⟨u, hu⟩ : ∃ u, (bestN l a 961).1.1 = u := ⟨_, rfl⟩
    obtain ⟨v, hv⟩ : ∃ v, (bestN l a 961).1.2 = v := ⟨_, rfl⟩
    have huv : (bestN l a 961).1 = (u, v) := by rw [← hu, ← hv]
    rw [huv] at bz2 bz3
    have HB1 := hide (show (bstV l a).1.1 = u from by rw [hbv, hu])
    have HB2 := hide (show (bstV l a).1.2 = v from by rw [hbv, hv])
    have HB3 := hide (show (bstV l a).2 = 0 from by rw [hbv, bz1])
    have HB4 := hide HF.out.ask
    have HP1 := hide (show spV l a (x, y) = 0 from by unfold spV; rw [if_pos hsk, HF.out.spr])
    have HP2 := hide hsk
    have hsk2 : spK l a (u, v) = true := by unfold spK; rw [HB4.out, bz2]; rfl
    have HQ1 := hide (show spV l a (u, v) = 0 from by unfold spV; rw [if_pos hsk2, bz3])
    have HQ2 := hide hsk2
    clear hsk hsk2 hpt bz1 bz2 bz3 hbv hu hv huv
    go_wp2_with fail
    refine (Best_c _ _ l _ _ a _ (hide (own_reads (hS.2.2.2.1))) (hide (own_reads (hS.1))) (by omega) (by omega) (own_cap (hS.2.2.2.1))).mono ?_
    rw [HB1.out, HB2.out, HB3.out, HB4.out]
    rintro e w4 ⟨rfl, hb⟩
    have hT : w4.ownsRow (b2) 3 1 (.slice A2 a.length c2) (a.length) (ints a) ∧ w4.cell? ⟨w1.heap.size, 0, none⟩ = some (.int .i64 (x)) ∧ w4.cell? ⟨w1.heap.size, 1, none⟩ = some (.int .i64 (y)) ∧ w4.ownsRow (b1) 32 2 (.slice A1 l.length c1) (l.length) (flat l) ∧ Below w.heap.size w w4 := (fun W h hb => ⟨own_below h.1 (hb), keep_cell (hb) h.2.1, keep_cell (hb) h.2.2.1, own_below h.2.2.2.1 (hb), below_via h.2.2.2.2 (hb)⟩ : ∀ W : World, (W.ownsRow (b2) 3 1 (.slice A2 a.length c2) (a.length) (ints a) ∧ W.cell? ⟨w1.heap.size, 0, none⟩ = some (.int .i64 (x)) ∧ W.cell? ⟨w1.heap.size, 1, none⟩ = some (.int .i64 (y)) ∧ W.ownsRow (b1) 32 2 (.slice A1 l.length c1) (l.length) (flat l) ∧ Below w.heap.size w W) → Below W.heap.size W w4 → (w4.ownsRow (b2) 3 1 (.slice A2 a.length c2) (a.length) (ints a) ∧ w4.cell? ⟨w1.heap.size, 0, none⟩ = some (.int .i64 (x)) ∧ w4.cell? ⟨w1.heap.size, 1, none⟩ = some (.int .i64 (y)) ∧ w4.ownsRow (b1) 32 2 (.slice A1 l.length c1) (l.length) (flat l) ∧ Below w.heap.size w w4)) _ (by first | (with_reducible assumption) | (exact hS) | (exact ⟨hS.1, hS.2.1, hS.2.2.1, hS.2.2.2.1, (by go_grown)⟩) | (exact ⟨(by first | (with_reducible assumption) | (exact World.ownsRow.alloc (by with_reducible assumption) _) | ((refine own_below (by with_reducible assumption) ?_); go_grown)), (by first | (with_reducible assumption) | (simp [go_sem]; done) | ((simp only [go_sem]); (with_reducible assumption)) | ((refine keep_cell ?_ (by with_reducible assumption)); go_grown; done) | (simp [go_sem, *]; done)), (by first | (with_reducible assumption) | (simp [go_sem]; done) | ((simp only [go_sem]); (with_reducible assumption)) | ((refine keep_cell ?_ (by with_reducible assumption)); go_grown; done) | (simp [go_sem, *]; done)), (by first | (with_reducible assumption) | (exact World.ownsRow.alloc (by with_reducible assumption) _) | ((refine own_below (by with_reducible assumption) ?_); go_grown)), (by go_grown)⟩)) hb
    (try clear hS)
    have hS := hT
    clear hT
    have hB := hS.2.2.2.2
    have hzw : w.heap.size ≤ w4.heap.size := hB.size
    have hz1 : w1.heap.size < w4.heap.size := World.block_lt_of_cell? w4 _ (hS.2.1)
    clear hb
    go_wp2_with fail
    obtain ⟨w5, hww5⟩ : ∃ W, W = w4.alloc (.cells #[.int .i64 (u), .int .i64 (v)] 32) := ⟨_, rfl⟩
    have hT : w5.cell? ⟨w4.heap.size, 0, none⟩ = some (.int .i64 (u)) ∧ w5.cell? ⟨w4.heap.size, 1, none⟩ = some (.int .i64 (v)) ∧ w5.ownsRow (b2) 3 1 (.slice A2 a.length c2) (a.length) (ints a) ∧ w5.cell? ⟨w1.heap.size, 0, none⟩ = some (.int .i64 (x)) ∧ w5.cell? ⟨w1.heap.size, 1, none⟩ = some (.int .i64 (y)) ∧ w5.ownsRow (b1) 32 2 (.slice A1 l.length c1) (l.length) (flat l) ∧ Below w.heap.size w w5 := by
      rw [hww5]
      exact ⟨by simp [go_sem], by simp [go_sem], own_below hS.1 (by go_grown), keep_cell (by go_grown) hS.2.1, keep_cell (by go_grown) hS.2.2.1, own_below hS.2.2.2.1 (by go_grown), below_via hS.2.2.2.2 (by go_grown)⟩
    rw [← hww5]
    clear hS hww5
    have hS := hT
    clear hT
    (try clear hB hzw)
    have hB := hS.2.2.2.2.2.2
    have hzw : w.heap.size ≤ w5.heap.size := hB.size
    have hz1 : w4.heap.size < w5.heap.size := World.block_lt_of_cell? w5 _ (hS.1)
    have hz2 : w1.heap.size < w5.heap.size := World.block_lt_of_cell? w5 _ (hS.2.2.2.1)
    go_wp2_with fail
    refine (SpreadAt_c _ _ l _ _ a x y _ (hide (own_reads (hS.2.2.2.2.2.1))) (hide (own_reads (hS.2.2.1))) (by omega) (by omega) (own_cap (hS.2.2.2.2.2.1))).mono ?_
    rw [HP1.out, HP2.out]
    rintro e w6 ⟨rfl, hb⟩
    have hT : w6.cell? ⟨w4.heap.size, 0, none⟩ = some (.int .i64 (u)) ∧ w6.cell? ⟨w4.heap.size, 1, none⟩ = some (.int .i64 (v)) ∧ w6.ownsRow (b2) 3 1 (.slice A2 a.length c2) (a.length) (ints a) ∧ w6.cell? ⟨w1.heap.size, 0, none⟩ = some (.int .i64 (x)) ∧ w6.cell? ⟨w1.heap.size, 1, none⟩ = some (.int .i64 (y)) ∧ w6.ownsRow (b1) 32 2 (.slice A1 l.length c1) (l.length) (flat l) ∧ Below w.heap.size w w6 := (fun W h hb => ⟨keep_cell (hb) h.1, keep_cell (hb) h.2.1, own_below h.2.2.1 (hb), keep_cell (hb) h.2.2.2.1, keep_cell (hb) h.2.2.2.2.1, own_below h.2.2.2.2.2.1 (hb), below_via h.2.2.2.2.2.2 (hb)⟩ : ∀ W : World, (W.cell? ⟨w4.heap.size, 0, none⟩ = some (.int .i64 (u)) ∧ W.cell? ⟨w4.heap.size, 1, none⟩ = some (.int .i64 (v)) ∧ W.ownsRow (b2) 3 1 (.slice A2 a.length c2) (a.length) (ints a) ∧ W.cell? ⟨w1.heap.size, 0, none⟩ = some (.int .i64 (x)) ∧ W.cell? ⟨w1.heap.size, 1, none⟩ = some (.int .i64 (y)) ∧ W.ownsRow (b1) 32 2 (.slice A1 l.length c1) (l.length) (flat l) ∧ Below w.heap.size w W) → Below W.heap.size W w6 → (w6.cell? ⟨w4.heap.size, 0, none⟩ = some (.int .i64 (u)) ∧ w6.cell? ⟨w4.heap.size, 1, none⟩ = some (.int .i64 (v)) ∧ w6.ownsRow (b2) 3 1 (.slice A2 a.length c2) (a.length) (ints a) ∧ w6.cell? ⟨w1.heap.size, 0, none⟩ = some (.int .i64 (x)) ∧ w6.cell? ⟨w1.heap.size, 1, none⟩ = some (.int .i64 (y)) ∧ w6.ownsRow (b1) 32 2 (.slice A1 l.length c1) (l.length) (flat l) ∧ Below w.heap.size w w6)) _ (by first | (with_reducible assumption) | (exact hS) | (exact ⟨hS.1, hS.2.1, hS.2.2.1, hS.2.2.2.1, hS.2.2.2.2.1, hS.2.2.2.2.2.1, (by go_grown)⟩) | (exact ⟨(by first | (with_reducible assumption) | (simp [go_sem]; done) | ((simp only [go_sem]); (with_reducible assumption)) | ((refine keep_cell ?_ (by with_reducible assumption)); go_grown; done) | (simp [go_sem, *]; done)), (by first | (with_reducible assumption) | (simp [go_sem]; done) | ((simp only [go_sem]); (with_reducible assumption)) | ((refine keep_cell ?_ (by with_reducible assumption)); go_grown; done) | (simp [go_sem, *]; done)), (by first | (with_reducible assumption) | (exact World.ownsRow.alloc (by with_reducible assumption) _) | ((refine own_below (by with_reducible assumption) ?_); go_grown)), (by first | (with_reducible assumption) | (simp [go_sem]; done) | ((simp only [go_sem]); (with_reducible assumption)) | ((refine keep_cell ?_ (by with_reducible assumption)); go_grown; done) | (simp [go_sem, *]; done)), (by first | (with_reducible assumption) | (simp [go_sem]; done) | ((simp only [go_sem]); (with_reducible assumption)) | ((refine keep_cell ?_ (by with_reducible assumption)); go_grown; done) | (simp [go_sem, *]; done)), (by first | (with_reducible assumption) | (exact World.ownsRow.alloc (by with_reducible assumption) _) | ((refine own_below (by with_reducible assumption) ?_); go_grown)), (by go_grown)⟩)) hb
    (try clear hS)
    have hS := hT
    clear hT
    have hB := hS.2.2.2.2.2.2
    have hzw : w.heap.size ≤ w6.heap.size := hB.size
    have hz1 : w4.heap.size < w6.heap.size := World.block_lt_of_cell? w6 _ (hS.1)
    have hz2 : w1.heap.size < w6.heap.size := World.block_lt_of_cell? w6 _ (hS.2.2.2.1)
    clear hb
    go_wp2_with fail
    refine (SpreadAt_c _ _ l _ _ a u v _ (hide (own_reads (hS.2.2.2.2.2.1))) (hide (own_reads (hS.2.2.1))) (by omega) (by omega) (own_cap (hS.2.2.2.2.2.1))).mono ?_
    rw [HQ1.out, HQ2.out]
    rintro e w7 ⟨rfl, hb⟩
    have hT : w7.cell? ⟨w4.heap.size, 0, none⟩ = some (.int .i64 (u)) ∧ w7.cell? ⟨w4.heap.size, 1, none⟩ = some (.int .i64 (v)) ∧ w7.ownsRow (b2) 3 1 (.slice A2 a.length c2) (a.length) (ints a) ∧ w7.cell? ⟨w1.heap.size, 0, none⟩ = some (.int .i64 (x)) ∧ w7.cell? ⟨w1.heap.size, 1, none⟩ = some (.int .i64 (y)) ∧ w7.ownsRow (b1) 32 2 (.slice A1 l.length c1) (l.length) (flat l) ∧ Below w.heap.size w w7 := (fun W h hb => ⟨keep_cell (hb) h.1, keep_cell (hb) h.2.1, own_below h.2.2.1 (hb), keep_cell (hb) h.2.2.2.1, keep_cell (hb) h.2.2.2.2.1, own_below h.2.2.2.2.2.1 (hb), below_via h.2.2.2.2.2.2 (hb)⟩ : ∀ W : World, (W.cell? ⟨w4.heap.size, 0, none⟩ = some (.int .i64 (u)) ∧ W.cell? ⟨w4.heap.size, 1, none⟩ = some (.int .i64 (v)) ∧ W.ownsRow (b2) 3 1 (.slice A2 a.length c2) (a.length) (ints a) ∧ W.cell? ⟨w1.heap.size, 0, none⟩ = some (.int .i64 (x)) ∧ W.cell? ⟨w1.heap.size, 1, none⟩ = some (.int .i64 (y)) ∧ W.ownsRow (b1) 32 2 (.slice A1 l.length c1) (l.length) (flat l) ∧ Below w.heap.size w W) → Below W.heap.size W w7 → (w7.cell? ⟨w4.heap.size, 0, none⟩ = some (.int .i64 (u)) ∧ w7.cell? ⟨w4.heap.size, 1, none⟩ = some (.int .i64 (v)) ∧ w7.ownsRow (b2) 3 1 (.slice A2 a.length c2) (a.length) (ints a) ∧ w7.cell? ⟨w1.heap.size, 0, none⟩ = some (.int .i64 (x)) ∧ w7.cell? ⟨w1.heap.size, 1, none⟩ = some (.int .i64 (y)) ∧ w7.ownsRow (b1) 32 2 (.slice A1 l.length c1) (l.length) (flat l) ∧ Below w.heap.size w w7)) _ (by first | (with_reducible assumption) | (exact hS) | (exact ⟨hS.1, hS.2.1, hS.2.2.1, hS.2.2.2.1, hS.2.2.2.2.1, hS.2.2.2.2.2.1, (by go_grown)⟩) | (exact ⟨(by first | (with_reducible assumption) | (simp [go_sem]; done) | ((simp only [go_sem]); (with_reducible assumption)) | ((refine keep_cell ?_ (by with_reducible assumption)); go_grown; done) | (simp [go_sem, *]; done)), (by first | (with_reducible assumption) | (simp [go_sem]; done) | ((simp only [go_sem]); (with_reducible assumption)) | ((refine keep_cell ?_ (by with_reducible assumption)); go_grown; done) | (simp [go_sem, *]; done)), (by first | (with_reducible assumption) | (exact World.ownsRow.alloc (by with_reducible assumption) _) | ((refine own_below (by with_reducible assumption) ?_); go_grown)), (by first | (with_reducible assumption) | (simp [go_sem]; done) | ((simp only [go_sem]); (with_reducible assumption)) | ((refine keep_cell ?_ (by with_reducible assumption)); go_grown; done) | (simp [go_sem, *]; done)), (by first | (with_reducible assumption) | (simp [go_sem]; done) | ((simp only [go_sem]); (with_reducible assumption)) | ((refine keep_cell ?_ (by with_reducible assumption)); go_grown; done) | (simp [go_sem, *]; done)), (by first | (with_reducible assumption) | (exact World.ownsRow.alloc (by with_reducible assumption) _) | ((refine own_below (by with_reducible assumption) ?_); go_grown)), (by go_grown)⟩)) hb
    (try clear hS)
    have hS := hT
    clear hT
    have hB := hS.2.2.2.2.2.2
    have hzw : w.heap.size ≤ w7.heap.size := hB.size
    have hz1 : w4.heap.size < w7.heap.size := World.block_lt_of_cell? w7 _ (hS.1)
    have hz2 : w1.heap.size < w7.heap.size := World.block_lt_of_cell? w7 _ (hS.2.2.2.1)
    clear hb
    go_wp2_with fail
    go_meet
    case rel => go_grown
  have hB : Below w.heap.size w wc := hcut
  clear hcut
  (try clear hS)
  have hzw : w.heap.size ≤ wc.heap.size := hB.size
  go_wp2_with fail
  refine (drawFit_c A n c _ (hide (h1.out.below (by go_grown))) HN.out).mono ?_
  rintro e w4 ⟨l4, A4, c4, a4, A5, c5, tol, rfl, ho4, ho5, hl46, ha47, hp46, ⟨htl0, htl1⟩, hb⟩
  obtain ⟨b4, ho4, hbk4⟩ := own_based ho4 (m := wc.heap.size) (by first | omega | (simp; done) | (simp; omega))
  obtain ⟨b5, ho5, hbk5⟩ := own_based ho5 (m := wc.heap.size) (by first | omega | (simp; done) | (simp; omega))
  have hT : w4.ownsRow (b4) 32 2 (.slice A4 l4.length c4) (l4.length) (flat l4) ∧ w4.ownsRow (b5) 3 1 (.slice A5 a4.length c5) (a4.length) (ints a4) ∧ Below w.heap.size w w4 := ⟨ho4, ho5, (fun W h hb => below_via h (hb) : ∀ W : World, (Below w.heap.size w W) → Below W.heap.size W w4 → (Below w.heap.size w w4)) _ (by first | (with_reducible assumption) | go_grown) hb⟩
  (try clear hS)
  have hS := hT
  clear hT
  have hB := hS.2.2
  have hzw : w.heap.size ≤ w4.heap.size := hB.size
  clear hb
  obtain ⟨F, hF0⟩ : ∃ q, fitV l4 a4 tol = q := ⟨_, rfl⟩
  have HFV := hide hF0
  have hFl := fitV_len l4 a4 tol
  obtain ⟨ll1, ll2⟩ := loc_len l4 a4 tol
  have HMEM := hide (fun i (h : i < (fitV l4 a4 tol).length) => (fit_mem h).2)
  have HBOX := hide (fun i (h : i < (fitV l4 a4 tol).length) => fit_box h)
  rw [hF0] at hFl ll1 ll2 HMEM HBOX
  clear hF0
  obtain ⟨K4, HK40⟩ : ∃ q, (fitK l4 a4 tol) = q := ⟨_, rfl⟩
  have HK4 := hide HK40
  clear HK40
  obtain ⟨LV, HLV0⟩ : ∃ q, (locV l4 a4 tol) = q := ⟨_, rfl⟩
  have HLV := hide HLV0
  rw [HLV0] at ll1
  clear HLV0
  obtain ⟨BK, HBK0⟩ : ∃ q, (boxK l4 a4 tol) = q := ⟨_, rfl⟩
  have HBK := hide HBK0
  rw [HBK0] at ll2
  clear HBK0
  have hLV : ((F.length : Int) == 1) = LV := by rw [ll1]; by_cases h : F.length = 1 <;> simp [h]; omega
  have hBK : decide (0 < F.length) = BK := ll2.symm
  clear ll1 ll2
  obtain ⟨v1, HX10⟩ : ∃ q, ((boxV l4 a4 tol).1.1) = q := ⟨_, rfl⟩
  have HX1 := hide HX10
  rw [HX10] at HBOX
  clear HX10
  obtain ⟨v2, HX20⟩ : ∃ q, ((boxV l4 a4 tol).1.2) = q := ⟨_, rfl⟩
  have HX2 := hide HX20
  rw [HX20] at HBOX
  clear HX20
  obtain ⟨v3, HX30⟩ : ∃ q, ((boxV l4 a4 tol).2.1) = q := ⟨_, rfl⟩
  have HX3 := hide HX30
  rw [HX30] at HBOX
  clear HX30
  obtain ⟨v4, HX40⟩ : ∃ q, ((boxV l4 a4 tol).2.2) = q := ⟨_, rfl⟩
  have HX4 := hide HX40
  rw [HX40] at HBOX
  clear HX40
  have hP := hS
  go_wp2_with fail
  refine (Fitting_c _ _ _ l4 _ _ a4 tol (hide (own_reads (hS.1))) (by omega) (hide (own_reads (hS.2.1))) (by omega) (own_cap (hS.1))).mono ?_
  rw [HFV.out, HK4.out]
  rintro e w5 ⟨A6, c6, rfl, ho6, hb⟩
  obtain ⟨b6, ho6, hbk6⟩ := own_based ho6 (m := w4.heap.size) (by first | omega | (simp; done) | (simp; omega))
  have ne4_6 := own_ne (hP.1) ho6 hbk6
  have ne5_6 := own_ne (hP.2.1) ho6 hbk6
  clear hP
  have hT : w5.ownsRow (b6) 32 2 (.slice A6 F.length c6) (F.length) (flat F) ∧ w5.ownsRow (b4) 32 2 (.slice A4 l4.length c4) (l4.length) (flat l4) ∧ w5.ownsRow (b5) 3 1 (.slice A5 a4.length c5) (a4.length) (ints a4) ∧ Below w.heap.size w w5 := ⟨ho6, (fun W h hb => ⟨own_below h.1 (hb), own_below h.2.1 (hb), below_via h.2.2 (hb)⟩ : ∀ W : World, (W.ownsRow (b4) 32 2 (.slice A4 l4.length c4) (l4.length) (flat l4) ∧ W.ownsRow (b5) 3 1 (.slice A5 a4.length c5) (a4.length) (ints a4) ∧ Below w.heap.size w W) → Below W.heap.size W w5 → (w5.ownsRow (b4) 32 2 (.slice A4 l4.length c4) (l4.length) (flat l4) ∧ w5.ownsRow (b5) 3 1 (.slice A5 a4.length c5) (a4.length) (ints a4) ∧ Below w.heap.size w w5)) _ (by first | (with_reducible assumption) | (exact hS) | (exact ⟨hS.1, hS.2.1, (by go_grown)⟩) | (exact ⟨(by first | (with_reducible assumption) | (exact World.ownsRow.alloc (by with_reducible assumption) _) | ((refine own_below (by with_reducible assumption) ?_); go_grown)), (by first | (with_reducible assumption) | (exact World.ownsRow.alloc (by with_reducible assumption) _) | ((refine own_below (by with_reducible assumption) ?_); go_grown)), (by go_grown)⟩)) hb⟩
  (try clear hS)
  have hS := hT
  clear hT
  have hB := hS.2.2.2
  have hzw : w.heap.size ≤ w5.heap.size := hB.size
  clear hb
  have hP := hS
  go_wp2_with fail
  refine (sFitting_c _ _ _ l4 _ _ a4 tol (hide (own_reads (hS.2.1))) (by omega) (hide (own_reads (hS.2.2.1))) (by omega)).mono ?_
  rw [HFV.out, HK4.out]
  rintro e w6 ⟨A7, c7, rfl, ho7, hb⟩
  obtain ⟨b7, ho7, hbk7⟩ := own_based ho7 (m := w5.heap.size) (by first | omega | (simp; done) | (simp; omega))
  have ne4_7 := own_ne (hP.2.1) ho7 hbk7
  have ne5_7 := own_ne (hP.2.2.1) ho7 hbk7
  have ne6_7 := own_ne (hP.1) ho7 hbk7
  clear hP
  have hT : w6.ownsRow (b7) 32 2 (.slice A7 F.length c7) (F.length) (flat F) ∧ w6.ownsRow (b6) 32 2 (.slice A6 F.length c6) (F.length) (flat F) ∧ w6.ownsRow (b4) 32 2 (.slice A4 l4.length c4) (l4.length) (flat l4) ∧ w6.ownsRow (b5) 3 1 (.slice A5 a4.length c5) (a4.length) (ints a4) ∧ Below w.heap.size w w6 := ⟨ho7, (fun W h hb => ⟨own_below h.1 (hb), own_below h.2.1 (hb), own_below h.2.2.1 (hb), below_via h.2.2.2 (hb)⟩ : ∀ W : World, (W.ownsRow (b6) 32 2 (.slice A6 F.length c6) (F.length) (flat F) ∧ W.ownsRow (b4) 32 2 (.slice A4 l4.length c4) (l4.length) (flat l4) ∧ W.ownsRow (b5) 3 1 (.slice A5 a4.length c5) (a4.length) (ints a4) ∧ Below w.heap.size w W) → Below W.heap.size W w6 → (w6.ownsRow (b6) 32 2 (.slice A6 F.length c6) (F.length) (flat F) ∧ w6.ownsRow (b4) 32 2 (.slice A4 l4.length c4) (l4.length) (flat l4) ∧ w6.ownsRow (b5) 3 1 (.slice A5 a4.length c5) (a4.length) (ints a4) ∧ Below w.heap.size w w6)) _ (by first | (with_reducible assumption) | (exact hS) | (exact ⟨hS.1, hS.2.1, hS.2.2.1, (by go_grown)⟩) | (exact ⟨(by first | (with_reducible assumption) | (exact World.ownsRow.alloc (by with_reducible assumption) _) | ((refine own_below (by with_reducible assumption) ?_); go_grown)), (by first | (with_reducible assumption) | (exact World.ownsRow.alloc (by with_reducible assumption) _) | ((refine own_below (by with_reducible assumption) ?_); go_grown)), (by first | (with_reducible assumption) | (exact World.ownsRow.alloc (by with_reducible assumption) _) | ((refine own_below (by with_reducible assumption) ?_); go_grown)), (by go_grown)⟩)) hb⟩
  (try clear hS)
  have hS := hT
  clear hT
  have hB := hS.2.2.2.2
  have hzw : w.heap.size ≤ w6.heap.size := hB.size
  clear hb
  go_wp2_with fail
  refine (vSites_c _ _ _ _ F F _ (hide (own_reads (hS.2.1))) (hide (own_reads (hS.1))) (by omega) (by omega)).mono ?_
  rw [decide_eq_true (show F = F from rfl)]
  rintro e w7 ⟨rfl, hb⟩
  have hT : w7.ownsRow (b7) 32 2 (.slice A7 F.length c7) (F.length) (flat F) ∧ w7.ownsRow (b6) 32 2 (.slice A6 F.length c6) (F.length) (flat F) ∧ w7.ownsRow (b4) 32 2 (.slice A4 l4.length c4) (l4.length) (flat l4) ∧ w7.ownsRow (b5) 3 1 (.slice A5 a4.length c5) (a4.length) (ints a4) ∧ Below w.heap.size w w7 := (fun W h hb => ⟨own_below h.1 (hb), own_below h.2.1 (hb), own_below h.2.2.1 (hb), own_below h.2.2.2.1 (hb), below_via h.2.2.2.2 (hb)⟩ : ∀ W : World, (W.ownsRow (b7) 32 2 (.slice A7 F.length c7) (F.length) (flat F) ∧ W.ownsRow (b6) 32 2 (.slice A6 F.length c6) (F.length) (flat F) ∧ W.ownsRow (b4) 32 2 (.slice A4 l4.length c4) (l4.length) (flat l4) ∧ W.ownsRow (b5) 3 1 (.slice A5 a4.length c5) (a4.length) (ints a4) ∧ Below w.heap.size w W) → Below W.heap.size W w7 → (w7.ownsRow (b7) 32 2 (.slice A7 F.length c7) (F.length) (flat F) ∧ w7.ownsRow (b6) 32 2 (.slice A6 F.length c6) (F.length) (flat F) ∧ w7.ownsRow (b4) 32 2 (.slice A4 l4.length c4) (l4.length) (flat l4) ∧ w7.ownsRow (b5) 3 1 (.slice A5 a4.length c5) (a4.length) (ints a4) ∧ Below w.heap.size w w7)) _ (by first | (with_reducible assumption) | (exact hS) | (exact ⟨hS.1, hS.2.1, hS.2.2.1, hS.2.2.2.1, (by go_grown)⟩) | (exact ⟨(by first | (with_reducible assumption) | (exact World.ownsRow.alloc (by with_reducible assumption) _) | ((refine own_below (by with_reducible assumption) ?_); go_grown)), (by first | (with_reducible assumption) | (exact World.ownsRow.alloc (by with_reducible assumption) _) | ((refine own_below (by with_reducible assumption) ?_); go_grown)), (by first | (with_reducible assumption) | (exact World.ownsRow.alloc (by with_reducible assumption) _) | ((refine own_below (by with_reducible assumption) ?_); go_grown)), (by first | (with_reducible assumption) | (exact World.ownsRow.alloc (by with_reducible assumption) _) | ((refine own_below (by with_reducible assumption) ?_); go_grown)), (by go_grown)⟩)) hb
  (try clear hS)
  have hS := hT
  clear hT
  have hB := hS.2.2.2.2
  have hzw : w.heap.size ≤ w7.heap.size := hB.size
  clear hb
  go_wp2_with fail
  refine (Located_c _ _ l4 _ _ a4 tol _ (hide (own_reads (hS.2.2.1))) (hide (own_reads (hS.2.2.2.1))) (by omega) (by omega) (own_cap (hS.2.2.1))).mono ?_
  rw [HLV.out, HK4.out]
  rintro e w8 ⟨rfl, hb⟩
  have hT : w8.ownsRow (b7) 32 2 (.slice A7 F.length c7) (F.length) (flat F) ∧ w8.ownsRow (b6) 32 2 (.slice A6 F.length c6) (F.length) (flat F) ∧ w8.ownsRow (b4) 32 2 (.slice A4 l4.length c4) (l4.length) (flat l4) ∧ w8.ownsRow (b5) 3 1 (.slice A5 a4.length c5) (a4.length) (ints a4) ∧ Below w.heap.size w w8 := (fun W h hb => ⟨own_below h.1 (hb), own_below h.2.1 (hb), own_below h.2.2.1 (hb), own_below h.2.2.2.1 (hb), below_via h.2.2.2.2 (hb)⟩ : ∀ W : World, (W.ownsRow (b7) 32 2 (.slice A7 F.length c7) (F.length) (flat F) ∧ W.ownsRow (b6) 32 2 (.slice A6 F.length c6) (F.length) (flat F) ∧ W.ownsRow (b4) 32 2 (.slice A4 l4.length c4) (l4.length) (flat l4) ∧ W.ownsRow (b5) 3 1 (.slice A5 a4.length c5) (a4.length) (ints a4) ∧ Below w.heap.size w W) → Below W.heap.size W w8 → (w8.ownsRow (b7) 32 2 (.slice A7 F.length c7) (F.length) (flat F) ∧ w8.ownsRow (b6) 32 2 (.slice A6 F.length c6) (F.length) (flat F) ∧ w8.ownsRow (b4) 32 2 (.slice A4 l4.length c4) (l4.length) (flat l4) ∧ w8.ownsRow (b5) 3 1 (.slice A5 a4.length c5) (a4.length) (ints a4) ∧ Below w.heap.size w w8)) _ (by first | (with_reducible assumption) | (exact hS) | (exact ⟨hS.1, hS.2.1, hS.2.2.1, hS.2.2.2.1, (by go_grown)⟩) | (exact ⟨(by first | (with_reducible assumption) | (exact World.ownsRow.alloc (by with_reducible assumption) _) | ((refine own_below (by with_reducible assumption) ?_); go_grown)), (by first | (with_reducible assumption) | (exact World.ownsRow.alloc (by with_reducible assumption) _) | ((refine own_below (by with_reducible assumption) ?_); go_grown)), (by first | (with_reducible assumption) | (exact World.ownsRow.alloc (by with_reducible assumption) _) | ((refine own_below (by with_reducible assumption) ?_); go_grown)), (by first | (with_reducible assumption) | (exact World.ownsRow.alloc (by with_reducible assumption) _) | ((refine own_below (by with_reducible assumption) ?_); go_grown)), (by go_grown)⟩)) hb
  (try clear hS)
  have hS := hT
  clear hT
  have hB := hS.2.2.2.2
  have hzw : w.heap.size ≤ w8.heap.size := hB.size
  clear hb
  go_wp2_with fail
  refine (Box_c _ _ l4 _ _ a4 tol _ (hide (own_reads (hS.2.2.1))) (hide (own_reads (hS.2.2.2.1))) (by omega) (by omega) (own_cap (hS.2.2.1))).mono ?_
  rw [HX1.out, HX2.out, HX3.out, HX4.out, HBK.out]
  rintro e w9 ⟨rfl, hb⟩
  have hT : w9.ownsRow (b7) 32 2 (.slice A7 F.length c7) (F.length) (flat F) ∧ w9.ownsRow (b6) 32 2 (.slice A6 F.length c6) (F.length) (flat F) ∧ w9.ownsRow (b4) 32 2 (.slice A4 l4.length c4) (l4.length) (flat l4) ∧ w9.ownsRow (b5) 3 1 (.slice A5 a4.length c5) (a4.length) (ints a4) ∧ Below w.heap.size w w9 := (fun W h hb => ⟨own_below h.1 (hb), own_below h.2.1 (hb), own_below h.2.2.1 (hb), own_below h.2.2.2.1 (hb), below_via h.2.2.2.2 (hb)⟩ : ∀ W : World, (W.ownsRow (b7) 32 2 (.slice A7 F.length c7) (F.length) (flat F) ∧ W.ownsRow (b6) 32 2 (.slice A6 F.length c6) (F.length) (flat F) ∧ W.ownsRow (b4) 32 2 (.slice A4 l4.length c4) (l4.length) (flat l4) ∧ W.ownsRow (b5) 3 1 (.slice A5 a4.length c5) (a4.length) (ints a4) ∧ Below w.heap.size w W) → Below W.heap.size W w9 → (w9.ownsRow (b7) 32 2 (.slice A7 F.length c7) (F.length) (flat F) ∧ w9.ownsRow (b6) 32 2 (.slice A6 F.length c6) (F.length) (flat F) ∧ w9.ownsRow (b4) 32 2 (.slice A4 l4.length c4) (l4.length) (flat l4) ∧ w9.ownsRow (b5) 3 1 (.slice A5 a4.length c5) (a4.length) (ints a4) ∧ Below w.heap.size w w9)) _ (by first | (with_reducible assumption) | (exact hS) | (exact ⟨hS.1, hS.2.1, hS.2.2.1, hS.2.2.2.1, (by go_grown)⟩) | (exact ⟨(by first | (with_reducible assumption) | (exact World.ownsRow.alloc (by with_reducible assumption) _) | ((refine own_below (by with_reducible assumption) ?_); go_grown)), (by first | (with_reducible assumption) | (exact World.ownsRow.alloc (by with_reducible assumption) _) | ((refine own_below (by with_reducible assumption) ?_); go_grown)), (by first | (with_reducible assumption) | (exact World.ownsRow.alloc (by with_reducible assumption) _) | ((refine own_below (by with_reducible assumption) ?_); go_grown)), (by first | (with_reducible assumption) | (exact World.ownsRow.alloc (by with_reducible assumption) _) | ((refine own_below (by with_reducible assumption) ?_); go_grown)), (by go_grown)⟩)) hb
  (try clear hS)
  have hS := hT
  clear hT
  have hB := hS.2.2.2.2
  have hzw : w.heap.size ≤ w9.heap.size := hB.size
  clear hb
  go_wp2_with fail
  obtain ⟨w10, hww10⟩ : ∃ W, W = (w9.alloc (.cells #[.int .i64 (v1), .int .i64 (v2)] 32)).alloc (.cells #[.int .i64 (v3), .int .i64 (v4)] 32) := ⟨_, rfl⟩
  have hT : w10.cell? ⟨w9.heap.size, 0, none⟩ = some (.int .i64 (v1)) ∧ w10.cell? ⟨w9.heap.size, 1, none⟩ = some (.int .i64 (v2)) ∧ w10.cell? ⟨w9.heap.size + 1, 0, none⟩ = some (.int .i64 (v3)) ∧ w10.cell? ⟨w9.heap.size + 1, 1, none⟩ = some (.int .i64 (v4)) ∧ w10.ownsRow (b7) 32 2 (.slice A7 F.length c7) (F.length) (flat F) ∧ w10.ownsRow (b6) 32 2 (.slice A6 F.length c6) (F.length) (flat F) ∧ w10.ownsRow (b4) 32 2 (.slice A4 l4.length c4) (l4.length) (flat l4) ∧ w10.ownsRow (b5) 3 1 (.slice A5 a4.length c5) (a4.length) (ints a4) ∧ Below w.heap.size w w10 := by
    rw [hww10]
    exact ⟨by simp [go_sem], by simp [go_sem], by simp [go_sem], by simp [go_sem], own_below hS.1 (by go_grown), own_below hS.2.1 (by go_grown), own_below hS.2.2.1 (by go_grown), own_below hS.2.2.2.1 (by go_grown), below_via hS.2.2.2.2 (by go_grown)⟩
  rw [← hww10]
  clear hS hww10
  have hS := hT
  clear hT
  (try clear hB hzw)
  have hB := hS.2.2.2.2.2.2.2.2
  have hzw : w.heap.size ≤ w10.heap.size := hB.size
  have hz1 : w9.heap.size < w10.heap.size := World.block_lt_of_cell? w10 _ (hS.1)
  have hz2 : w9.heap.size + 1 < w10.heap.size := World.block_lt_of_cell? w10 _ (hS.2.2.1)
  have hS3 : w10.cell? ⟨w9.heap.size, 0, none⟩ = some (.int .i64 (v1)) ∧ w10.cell? ⟨w9.heap.size, 1, none⟩ = some (.int .i64 (v2)) ∧ w10.cell? ⟨w9.heap.size + 1, 0, none⟩ = some (.int .i64 (v3)) ∧ w10.cell? ⟨w9.heap.size + 1, 1, none⟩ = some (.int .i64 (v4)) ∧ w10.ownsRow (b6) 32 2 (.slice A6 F.length c6) (F.length) (flat F) ∧ w10.ownsRow (b4) 32 2 (.slice A4 l4.length c4) (l4.length) (flat l4) ∧ w10.ownsRow (b5) 3 1 (.slice A5 a4.length c5) (a4.length) (ints a4) ∧ Below w.heap.size w w10 := ⟨hS.1, hS.2.1, hS.2.2.1, hS.2.2.2.1, hS.2.2.2.2.2.1, hS.2.2.2.2.2.2.1, hS.2.2.2.2.2.2.2.1, hS.2.2.2.2.2.2.2.2⟩
  clear hS
  have hS := hS3
  clear hS3
  go_upto_region 20 with fail
  go_wp2
  go_loopw [27] (fun iv wr => ∃ i : Nat, i ≤ F.length ∧ iv = .int .i64 i ∧ (wr.cell? ⟨w9.heap.size, 0, none⟩ = some (.int .i64 (v1)) ∧ wr.cell? ⟨w9.heap.size, 1, none⟩ = some (.int .i64 (v2)) ∧ wr.cell? ⟨w9.heap.size + 1, 0, none⟩ = some (.int .i64 (v3)) ∧ wr.cell? ⟨w9.heap.size + 1, 1, none⟩ = some (.int .i64 (v4)) ∧ wr.ownsRow (b6) 32 2 (.slice A6 F.length c6) (F.length) (flat F) ∧ wr.ownsRow (b4) 32 2 (.slice A4 l4.length c4) (l4.length) (flat l4) ∧ wr.ownsRow (b5) 3 1 (.slice A5 a4.length c5) (a4.length) (ints a4) ∧ Below w.heap.size w wr)) (fun iv _ => F.length - (intOf iv).toNat)
  case atStart => exact ⟨0, by omega, rfl, (by first | (with_reducible assumption) | (exact hS) | (exact ⟨hS.1, hS.2.1, hS.2.2.1, hS.2.2.2.1, hS.2.2.2.2.1, hS.2.2.2.2.2.1, hS.2.2.2.2.2.2.1, (by go_grown)⟩) | (exact ⟨(by first | (with_reducible assumption) | (simp [go_sem]; done) | ((simp only [go_sem]); (with_reducible assumption)) | ((refine keep_cell ?_ (by with_reducible assumption)); go_grown; done) | (simp [go_sem, *]; done)), (by first | (with_reducible assumption) | (simp [go_sem]; done) | ((simp only [go_sem]); (with_reducible assumption)) | ((refine keep_cell ?_ (by with_reducible assumption)); go_grown; done) | (simp [go_sem, *]; done)), (by first | (with_reducible assumption) | (simp [go_sem]; done) | ((simp only [go_sem]); (with_reducible assumption)) | ((refine keep_cell ?_ (by with_reducible assumption)); go_grown; done) | (simp [go_sem, *]; done)), (by first | (with_reducible assumption) | (simp [go_sem]; done) | ((simp only [go_sem]); (with_reducible assumption)) | ((refine keep_cell ?_ (by with_reducible assumption)); go_grown; done) | (simp [go_sem, *]; done)), (by first | (with_reducible assumption) | (exact World.ownsRow.alloc (by with_reducible assumption) _) | ((refine own_below (by with_reducible assumption) ?_); go_grown)), (by first | (with_reducible assumption) | (exact World.ownsRow.alloc (by with_reducible assumption) _) | ((refine own_below (by with_reducible assumption) ?_); go_grown)), (by first | (with_reducible assumption) | (exact World.ownsRow.alloc (by with_reducible assumption) _) | ((refine own_below (by with_reducible assumption) ?_); go_grown)), (by go_grown)⟩))⟩
  case round =>
    obtain ⟨i, hi, rfl, hS⟩ := hrel
    have hB := hS.2.2.2.2.2.2.2
    have hzw : w.heap.size ≤ wr.heap.size := hB.size
    have hz1 : w9.heap.size < wr.heap.size := World.block_lt_of_cell? wr _ (hS.1)
    have hz2 : w9.heap.size + 1 < wr.heap.size := World.block_lt_of_cell? wr _ (hS.2.2.1)
    by_cases hlt : i < F.length
    rotate_left
    · (try clear hS)
      go_wp2_with fail
      refine (drawBest_c A n c _ (hide (h1.out.below (by go_grown))) HN.out).mono ?_
      rintro e w41 ⟨l8, A8, c8, a8, A9, c9, rfl, ho8, ho9, hl86, ha87, hp86, hb⟩
      obtain ⟨b8, ho8, hbk8⟩ := own_based ho8 (m := wr.heap.size) (by first | omega | (simp; done) | (simp; omega))
      obtain ⟨b9, ho9, hbk9⟩ := own_based ho9 (m := wr.heap.size) (by first | omega | (simp; done) | (simp; omega))
      have hT : w41.ownsRow (b8) 32 2 (.slice A8 l8.length c8) (l8.length) (flat l8) ∧ w41.ownsRow (b9) 3 1 (.slice A9 a8.length c9) (a8.length) (ints a8) ∧ Below w.heap.size w w41 := ⟨ho8, ho9, (fun W h hb => below_via h (hb) : ∀ W : World, (Below w.heap.size w W) → Below W.heap.size W w41 → (Below w.heap.size w w41)) _ (by first | (with_reducible assumption) | go_grown) hb⟩
      (try clear hS)
      have hS := hT
      clear hT
      have hB := hS.2.2
      have hzw : w.heap.size ≤ w41.heap.size := hB.size
      clear hb
      obtain ⟨u, HU0⟩ : ∃ q, ((bstV l8 a8).1.1) = q := ⟨_, rfl⟩
      have HU := hide HU0
      obtain ⟨v, HV0⟩ : ∃ q, ((bstV l8 a8).1.2) = q := ⟨_, rfl⟩
      have HV := hide HV0
      obtain ⟨n8, HN80⟩ : ∃ q, ((bstV l8 a8).2) = q := ⟨_, rfl⟩
      have HN8 := hide HN80
      obtain ⟨K8, HK80⟩ : ∃ q, (askB l8 a8) = q := ⟨_, rfl⟩
      have HK8 := hide HK80
      clear HU0 HV0 HN80 HK80
      go_wp2_with fail
      refine (Best_c _ _ l8 _ _ a8 _ (hide (own_reads (hS.1))) (hide (own_reads (hS.2.1))) (by omega) (by omega) (own_cap (hS.1))).mono ?_
      rw [HU.out, HV.out, HN8.out, HK8.out]
      rintro e w42 ⟨rfl, hb⟩
      have hT : w42.ownsRow (b8) 32 2 (.slice A8 l8.length c8) (l8.length) (flat l8) ∧ w42.ownsRow (b9) 3 1 (.slice A9 a8.length c9) (a8.length) (ints a8) ∧ Below w.heap.size w w42 := (fun W h hb => ⟨own_below h.1 (hb), own_below h.2.1 (hb), below_via h.2.2 (hb)⟩ : ∀ W : World, (W.ownsRow (b8) 32 2 (.slice A8 l8.length c8) (l8.length) (flat l8) ∧ W.ownsRow (b9) 3 1 (.slice A9 a8.length c9) (a8.length) (ints a8) ∧ Below w.heap.size w W) → Below W.heap.size W w42 → (w42.ownsRow (b8) 32 2 (.slice A8 l8.length c8) (l8.length) (flat l8) ∧ w42.ownsRow (b9) 3 1 (.slice A9 a8.length c9) (a8.length) (ints a8) ∧ Below w.heap.size w w42)) _ (by first | (with_reducible assumption) | (exact hS) | (exact ⟨hS.1, hS.2.1, (by go_grown)⟩) | (exact ⟨(by first | (with_reducible assumption) | (exact World.ownsRow.alloc (by with_reducible assumption) _) | ((refine own_below (by with_reducible assumption) ?_); go_grown)), (by first | (with_reducible assumption) | (exact World.ownsRow.alloc (by with_reducible assumption) _) | ((refine own_below (by with_reducible assumption) ?_); go_grown)), (by go_grown)⟩)) hb
      (try clear hS)
      have hS := hT
      clear hT
      have hB := hS.2.2
      have hzw : w.heap.size ≤ w42.heap.size := hB.size
      clear hb
      go_wp2_with fail
      obtain ⟨w43, hww43⟩ : ∃ W, W = w42.alloc (.cells #[.int .i64 (u), .int .i64 (v)] 32) := ⟨_, rfl⟩
      have hT : w43.cell? ⟨w42.heap.size, 0, none⟩ = some (.int .i64 (u)) ∧ w43.cell? ⟨w42.heap.size, 1, none⟩ = some (.int .i64 (v)) ∧ w43.ownsRow (b8) 32 2 (.slice A8 l8.length c8) (l8.length) (flat l8) ∧ w43.ownsRow (b9) 3 1 (.slice A9 a8.length c9) (a8.length) (ints a8) ∧ Below w.heap.size w w43 := by
        rw [hww43]
        exact ⟨by simp [go_sem], by simp [go_sem], own_below hS.1 (by go_grown), own_below hS.2.1 (by go_grown), below_via hS.2.2 (by go_grown)⟩
      rw [← hww43]
      clear hS hww43
      have hS := hT
      clear hT
      (try clear hB hzw)
      have hB := hS.2.2.2.2
      have hzw : w.heap.size ≤ w43.heap.size := hB.size
      have hz1 : w42.heap.size < w43.heap.size := World.block_lt_of_cell? w43 _ (hS.1)
      go_wp2_with fail
      refine (sBest_c _ _ l8 _ _ a8 _ (hide (own_reads (hS.2.2.1))) (hide (own_reads (hS.2.2.2.1))) (by omega) (by omega)).mono ?_
      rw [HU.out, HV.out, HN8.out, HK8.out]
      rintro e w44 ⟨rfl, hb⟩
      have hT : w44.cell? ⟨w42.heap.size, 0, none⟩ = some (.int .i64 (u)) ∧ w44.cell? ⟨w42.heap.size, 1, none⟩ = some (.int .i64 (v)) ∧ w44.ownsRow (b8) 32 2 (.slice A8 l8.length c8) (l8.length) (flat l8) ∧ w44.ownsRow (b9) 3 1 (.slice A9 a8.length c9) (a8.length) (ints a8) ∧ Below w.heap.size w w44 := (fun W h hb => ⟨keep_cell (hb) h.1, keep_cell (hb) h.2.1, own_below h.2.2.1 (hb), own_below h.2.2.2.1 (hb), below_via h.2.2.2.2 (hb)⟩ : ∀ W : World, (W.cell? ⟨w42.heap.size, 0, none⟩ = some (.int .i64 (u)) ∧ W.cell? ⟨w42.heap.size, 1, none⟩ = some (.int .i64 (v)) ∧ W.ownsRow (b8) 32 2 (.slice A8 l8.length c8) (l8.length) (flat l8) ∧ W.ownsRow (b9) 3 1 (.slice A9 a8.length c9) (a8.length) (ints a8) ∧ Below w.heap.size w W) → Below W.heap.size W w44 → (w44.cell? ⟨w42.heap.size, 0, none⟩ = some (.int .i64 (u)) ∧ w44.cell? ⟨w42.heap.size, 1, none⟩ = some (.int .i64 (v)) ∧ w44.ownsRow (b8) 32 2 (.slice A8 l8.length c8) (l8.length) (flat l8) ∧ w44.ownsRow (b9) 3 1 (.slice A9 a8.length c9) (a8.length) (ints a8) ∧ Below w.heap.size w w44)) _ (by first | (with_reducible assumption) | (exact hS) | (exact ⟨hS.1, hS.2.1, hS.2.2.1, hS.2.2.2.1, (by go_grown)⟩) | (exact ⟨(by first | (with_reducible assumption) | (simp [go_sem]; done) | ((simp only [go_sem]); (with_reducible assumption)) | ((refine keep_cell ?_ (by with_reducible assumption)); go_grown; done) | (simp [go_sem, *]; done)), (by first | (with_reducible assumption) | (simp [go_sem]; done) | ((simp only [go_sem]); (with_reducible assumption)) | ((refine keep_cell ?_ (by with_reducible assumption)); go_grown; done) | (simp [go_sem, *]; done)), (by first | (with_reducible assumption) | (exact World.ownsRow.alloc (by with_reducible assumption) _) | ((refine own_below (by with_reducible assumption) ?_); go_grown)), (by first | (with_reducible assumption) | (exact World.ownsRow.alloc (by with_reducible assumption) _) | ((refine own_below (by with_reducible assumption) ?_); go_grown)), (by go_grown)⟩)) hb
      (try clear hS)
      have hS := hT
      clear hT
      have hB := hS.2.2.2.2
      have hzw : w.heap.size ≤ w44.heap.size := hB.size
      have hz1 : w42.heap.size < w44.heap.size := World.block_lt_of_cell? w44 _ (hS.1)
      clear hb
      go_wp2_with fail
      obtain ⟨w45, hww45⟩ : ∃ W, W = w44.alloc (.cells #[.int .i64 (u), .int .i64 (v)] 32) := ⟨_, rfl⟩
      have hT : w45.cell? ⟨w44.heap.size, 0, none⟩ = some (.int .i64 (u)) ∧ w45.cell? ⟨w44.heap.size, 1, none⟩ = some (.int .i64 (v)) ∧ w45.cell? ⟨w42.heap.size, 0, none⟩ = some (.int .i64 (u)) ∧ w45.cell? ⟨w42.heap.size, 1, none⟩ = some (.int .i64 (v)) ∧ w45.ownsRow (b8) 32 2 (.slice A8 l8.length c8) (l8.length) (flat l8) ∧ w45.ownsRow (b9) 3 1 (.slice A9 a8.length c9) (a8.length) (ints a8) ∧ Below w.heap.size w w45 := by
        rw [hww45]
        exact ⟨by simp [go_sem], by simp [go_sem], keep_cell (by go_grown) hS.1, keep_cell (by go_grown) hS.2.1, own_below hS.2.2.1 (by go_grown), own_below hS.2.2.2.1 (by go_grown), below_via hS.2.2.2.2 (by go_grown)⟩
      rw [← hww45]
      clear hS hww45
      have hS := hT
      clear hT
      (try clear hB hzw)
      have hB := hS.2.2.2.2.2.2
      have hzw : w.heap.size ≤ w45.heap.size := hB.size
      have hz1 : w44.heap.size < w45.heap.size := World.block_lt_of_cell? w45 _ (hS.1)
      have hz2 : w42.heap.size < w45.heap.size := World.block_lt_of_cell? w45 _ (hS.2.2.1)
      go_wp2
      go_returns
      exact ⟨ret_eq (by simp), by go_grown⟩
    obtain ⟨g9, hA6, hg90, hg91⟩ := own_at (hS.2.2.2.2.1) (by omega)
    subst hA6
    obtain ⟨ux, uy⟩ := own_pt (hS.2.2.2.2.1) hlt
    obtain ⟨f1, f2⟩ := HMEM.out i hlt
    obtain ⟨⟨x0, x1⟩, y0, y1⟩ := HBOX.out i hlt
    obtain ⟨fx, hfx⟩ : ∃ q, px F i = q := ⟨_, rfl⟩
    obtain ⟨fy, hfy⟩ : ∃ q, py F i = q := ⟨_, rfl⟩
    rw [hfx, hfy] at f1 f2
    rw [hfx] at ux x0 x1
    rw [hfy] at uy y0 y1
    clear hfx hfy
    obtain ⟨q, HQ0⟩ : ∃ q, (spV l4 a4 (fx, fy)) = q := ⟨_, rfl⟩
    have HQ := hide HQ0
    rw [HQ0] at f2
    clear HQ0
    have HQK := hide f1
    clear f1
    have d1 : decide (q > tol) = false := decide_eq_false (by omega)
    have d2 : decide (fx < v1) = false := decide_eq_false (by omega)
    have d3 : decide (fx > v3) = false := decide_eq_false (by omega)
    have d4 : decide (fy < v2) = false := decide_eq_false (by omega)
    have d5 : decide (fy > v4) = false := decide_eq_false (by omega)
    have hS4 : wr.cell? ⟨g9, i * 2, none⟩ = some (.int .i64 (fx)) ∧ wr.cell? ⟨g9, i * 2 + 1, none⟩ = some (.int .i64 (fy)) ∧ wr.cell? ⟨w9.heap.size, 0, none⟩ = some (.int .i64 (v1)) ∧ wr.cell? ⟨w9.heap.size, 1, none⟩ = some (.int .i64 (v2)) ∧ wr.cell? ⟨w9.heap.size + 1, 0, none⟩ = some (.int .i64 (v3)) ∧ wr.cell? ⟨w9.heap.size + 1, 1, none⟩ = some (.int .i64 (v4)) ∧ wr.ownsRow (b6) 32 2 (.slice (some ⟨g9, 0, none⟩) F.length c6) (F.length) (flat F) ∧ wr.ownsRow (b4) 32 2 (.slice A4 l4.length c4) (l4.length) (flat l4) ∧ wr.ownsRow (b5) 3 1 (.slice A5 a4.length c5) (a4.length) (ints a4) ∧ Below w.heap.size w wr := ⟨ux, uy, hS⟩
    clear hS ux uy
    have hS := hS4
    clear hS4
    obtain ⟨k0, k1, k2, k3, k4, k5, k6, hB9⟩ := hS.2.2
    have c0 := hS.1
    have c1 := hS.2.1
    go_wp2_with fail
    refine (SpreadAt_c _ _ l4 _ _ a4 fx fy _ (hide (own_reads (hS.2.2.2.2.2.2.2.1))) (hide (own_reads (hS.2.2.2.2.2.2.2.2.1))) (by omega) (by omega) (own_cap (hS.2.2.2.2.2.2.2.1))).mono ?_
    rw [HQ.out, HQK.out]
    rintro e w61 ⟨rfl, hb⟩
    have hT : w61.cell? ⟨g9, i * 2, none⟩ = some (.int .i64 (fx)) ∧ w61.cell? ⟨g9, i * 2 + 1, none⟩ = some (.int .i64 (fy)) ∧ w61.cell? ⟨w9.heap.size, 0, none⟩ = some (.int .i64 (v1)) ∧ w61.cell? ⟨w9.heap.size, 1, none⟩ = some (.int .i64 (v2)) ∧ w61.cell? ⟨w9.heap.size + 1, 0, none⟩ = some (.int .i64 (v3)) ∧ w61.cell? ⟨w9.heap.size + 1, 1, none⟩ = some (.int .i64 (v4)) ∧ w61.ownsRow (b6) 32 2 (.slice (some ⟨g9, 0, none⟩) F.length c6) (F.length) (flat F) ∧ w61.ownsRow (b4) 32 2 (.slice A4 l4.length c4) (l4.length) (flat l4) ∧ w61.ownsRow (b5) 3 1 (.slice A5 a4.length c5) (a4.length) (ints a4) ∧ Below w.heap.size w w61 := (fun W h hb => ⟨keep_cell (hb) h.1, keep_cell (hb) h.2.1, keep_cell (hb) h.2.2.1, keep_cell (hb) h.2.2.2.1, keep_cell (hb) h.2.2.2.2.1, keep_cell (hb) h.2.2.2.2.2.1, own_below h.2.2.2.2.2.2.1 (hb), own_below h.2.2.2.2.2.2.2.1 (hb), own_below h.2.2.2.2.2.2.2.2.1 (hb), below_via h.2.2.2.2.2.2.2.2.2 (hb)⟩ : ∀ W : World, (W.cell? ⟨g9, i * 2, none⟩ = some (.int .i64 (fx)) ∧ W.cell? ⟨g9, i * 2 + 1, none⟩ = some (.int .i64 (fy)) ∧ W.cell? ⟨w9.heap.size, 0, none⟩ = some (.int .i64 (v1)) ∧ W.cell? ⟨w9.heap.size, 1, none⟩ = some (.int .i64 (v2)) ∧ W.cell? ⟨w9.heap.size + 1, 0, none⟩ = some (.int .i64 (v3)) ∧ W.cell? ⟨w9.heap.size + 1, 1, none⟩ = some (.int .i64 (v4)) ∧ W.ownsRow (b6) 32 2 (.slice (some ⟨g9, 0, none⟩) F.length c6) (F.length) (flat F) ∧ W.ownsRow (b4) 32 2 (.slice A4 l4.length c4) (l4.length) (flat l4) ∧ W.ownsRow (b5) 3 1 (.slice A5 a4.length c5) (a4.length) (ints a4) ∧ Below w.heap.size w W) → Below W.heap.size W w61 → (w61.cell? ⟨g9, i * 2, none⟩ = some (.int .i64 (fx)) ∧ w61.cell? ⟨g9, i * 2 + 1, none⟩ = some (.int .i64 (fy)) ∧ w61.cell? ⟨w9.heap.size, 0, none⟩ = some (.int .i64 (v1)) ∧ w61.cell? ⟨w9.heap.size, 1, none⟩ = some (.int .i64 (v2)) ∧ w61.cell? ⟨w9.heap.size + 1, 0, none⟩ = some (.int .i64 (v3)) ∧ w61.cell? ⟨w9.heap.size + 1, 1, none⟩ = some (.int .i64 (v4)) ∧ w61.ownsRow (b6) 32 2 (.slice (some ⟨g9, 0, none⟩) F.length c6) (F.length) (flat F) ∧ w61.ownsRow (b4) 32 2 (.slice A4 l4.length c4) (l4.length) (flat l4) ∧ w61.ownsRow (b5) 3 1 (.slice A5 a4.length c5) (a4.length) (ints a4) ∧ Below w.heap.size w w61)) _ (by first | (with_reducible assumption) | (exact hS) | (exact ⟨hS.1, hS.2.1, hS.2.2.1, hS.2.2.2.1, hS.2.2.2.2.1, hS.2.2.2.2.2.1, hS.2.2.2.2.2.2.1, hS.2.2.2.2.2.2.2.1, hS.2.2.2.2.2.2.2.2.1, (by go_grown)⟩) | (exact ⟨(by first | (with_reducible assumption) | (simp [go_sem]; done) | ((simp only [go_sem]); (with_reducible assumption)) | ((refine keep_cell ?_ (by with_reducible assumption)); go_grown; done) | (simp [go_sem, *]; done)), (by first | (with_reducible assumption) | (simp [go_sem]; done) | ((simp only [go_sem]); (with_reducible assumption)) | ((refine keep_cell ?_ (by with_reducible assumption)); go_grown; done) | (simp [go_sem, *]; done)), (by first | (with_reducible assumption) | (simp [go_sem]; done) | ((simp only [go_sem]); (with_reducible assumption)) | ((refine keep_cell ?_ (by with_reducible assumption)); go_grown; done) | (simp [go_sem, *]; done)), (by first | (with_reducible assumption) | (simp [go_sem]; done) | ((simp only [go_sem]); (with_reducible assumption)) | ((refine keep_cell ?_ (by with_reducible assumption)); go_grown; done) | (simp [go_sem, *]; done)), (by first | (with_reducible assumption) | (simp [go_sem]; done) | ((simp only [go_sem]); (with_reducible assumption)) | ((refine keep_cell ?_ (by with_reducible assumption)); go_grown; done) | (simp [go_sem, *]; done)), (by first | (with_reducible assumption) | (simp [go_sem]; done) | ((simp only [go_sem]); (with_reducible assumption)) | ((refine keep_cell ?_ (by with_reducible assumption)); go_grown; done) | (simp [go_sem, *]; done)), (by first | (with_reducible assumption) | (exact World.ownsRow.alloc (by with_reducible assumption) _) | ((refine own_below (by with_reducible assumption) ?_); go_grown)), (by first | (with_reducible assumption) | (exact World.ownsRow.alloc (by with_reducible assumption) _) | ((refine own_below (by with_reducible assumption) ?_); go_grown)), (by first | (with_reducible assumption) | (exact World.ownsRow.alloc (by with_reducible assumption) _) | ((refine own_below (by with_reducible assumption) ?_); go_grown)), (by go_grown)⟩)) hb
    (try clear hS)
    have hS := hT
    clear hT
    have hB := hS.2.2.2.2.2.2.2.2.2
    have hzw : w.heap.size ≤ w61.heap.size := hB.size
    have hz1 : g9 < w61.heap.size := World.block_lt_of_cell? w61 _ (hS.1)
    have hz2 : w9.heap.size < w61.heap.size := World.block_lt_of_cell? w61 _ (hS.2.2.1)
    have hz3 : w9.heap.size + 1 < w61.heap.size := World.block_lt_of_cell? w61 _ (hS.2.2.2.2.1)
    clear hb
    go_wp2
    refine wp_region_det (fun w' => w'.cell? ⟨g9, i * 2, none⟩ = some (.int .i64 (fx)) ∧ w'.cell? ⟨g9, i * 2 + 1, none⟩ = some (.int .i64 (fy)) ∧ w'.cell? ⟨w9.heap.size, 0, none⟩ = some (.int .i64 (v1)) ∧ w'.cell? ⟨w9.heap.size, 1, none⟩ = some (.int .i64 (v2)) ∧ w'.cell? ⟨w9.heap.size + 1, 0, none⟩ = some (.int .i64 (v3)) ∧ w'.cell? ⟨w9.heap.size + 1, 1, none⟩ = some (.int .i64 (v4)) ∧ w'.ownsRow (b6) 32 2 (.slice (some ⟨g9, 0, none⟩) F.length c6) (F.length) (flat F) ∧ w'.ownsRow (b4) 32 2 (.slice A4 l4.length c4) (l4.length) (flat l4) ∧ w'.ownsRow (b5) 3 1 (.slice A5 a4.length c5) (a4.length) (ints a4) ∧ Below w.heap.size w w') (by kernel_rfl) (by kernel_rfl) (by first | (with_reducible assumption) | (exact hS) | (exact ⟨hS.1, hS.2.1, hS.2.2.1, hS.2.2.2.1, hS.2.2.2.2.1, hS.2.2.2.2.2.1, hS.2.2.2.2.2.2.1, hS.2.2.2.2.2.2.2.1, hS.2.2.2.2.2.2.2.2.1, (by go_grown)⟩) | (exact ⟨(by first | (with_reducible assumption) | (simp [go_sem]; done) | ((simp only [go_sem]); (with_reducible assumption)) | ((refine keep_cell ?_ (by with_reducible assumption)); go_grown; done) | (simp [go_sem, *]; done)), (by first | (with_reducible assumption) | (simp [go_sem]; done) | ((simp only [go_sem]); (with_reducible assumption)) | ((refine keep_cell ?_ (by with_reducible assumption)); go_grown; done) | (simp [go_sem, *]; done)), (by first | (with_reducible assumption) | (simp [go_sem]; done) | ((simp only [go_sem]); (with_reducible assumption)) | ((refine keep_cell ?_ (by with_reducible assumption)); go_grown; done) | (simp [go_sem, *]; done)), (by first | (with_reducible assumption) | (simp [go_sem]; done) | ((simp only [go_sem]); (with_reducible assumption)) | ((refine keep_cell ?_ (by with_reducible assumption)); go_grown; done) | (simp [go_sem, *]; done)), (by first | (with_reducible assumption) | (simp [go_sem]; done) | ((simp only [go_sem]); (with_reducible assumption)) | ((refine keep_cell ?_ (by with_reducible assumption)); go_grown; done) | (simp [go_sem, *]; done)), (by first | (with_reducible assumption) | (simp [go_sem]; done) | ((simp only [go_sem]); (with_reducible assumption)) | ((refine keep_cell ?_ (by with_reducible assumption)); go_grown; done) | (simp [go_sem, *]; done)), (by first | (with_reducible assumption) | (exact World.ownsRow.alloc (by with_reducible assumption) _) | ((refine own_below (by with_reducible assumption) ?_); go_grown)), (by first | (with_reducible assumption) | (exact World.ownsRow.alloc (by with_reducible assumption) _) | ((refine own_below (by with_reducible assumption) ?_); go_grown)), (by first | (with_reducible assumption) | (exact World.ownsRow.alloc (by with_reducible assumption) _) | ((refine own_below (by with_reducible assumption) ?_); go_grown)), (by go_grown)⟩)) ?_
    repeat (first
      | ((refine wpDet_skip (by rfl) ?_); simp only [Act.put, List.setIfInBounds_toArray, List.set_cons_zero, List.set_cons_succ])
      | ((refine wpDet_val (v := ?_) (by rfl) (fun w hS => ?_) ?_); rotate_left; (focus ((try dsimp only at hS); go_simp; (try (with_reducible rfl)); done)); simp only [Act.put, List.setIfInBounds_toArray, List.set_cons_zero, List.set_cons_succ]))
    refine wpDet_nil ?_
    intro wz hS
    have hT : wz.cell? ⟨g9, i * 2, none⟩ = some (.int .i64 (fx)) ∧ wz.cell? ⟨g9, i * 2 + 1, none⟩ = some (.int .i64 (fy)) ∧ wz.cell? ⟨w9.heap.size, 0, none⟩ = some (.int .i64 (v1)) ∧ wz.cell? ⟨w9.heap.size, 1, none⟩ = some (.int .i64 (v2)) ∧ wz.cell? ⟨w9.heap.size + 1, 0, none⟩ = some (.int .i64 (v3)) ∧ wz.cell? ⟨w9.heap.size + 1, 1, none⟩ = some (.int .i64 (v4)) ∧ wz.ownsRow (b6) 32 2 (.slice (some ⟨g9, 0, none⟩) F.length c6) (F.length) (flat F) ∧ wz.ownsRow (b4) 32 2 (.slice A4 l4.length c4) (l4.length) (flat l4) ∧ wz.ownsRow (b5) 3 1 (.slice A5 a4.length c5) (a4.length) (ints a4) ∧ Below w.heap.size w wz := hS
    clear hS
    have hS := hT
    obtain ⟨c0, c1, c2, c3, c4, c5, c6, c7, c8, hB⟩ := hT
    have hzw : w.heap.size ≤ wz.heap.size := hB.size
    have hz1 : g9 < wz.heap.size := World.block_lt_of_cell? wz _ (hS.1)
    have hz2 : w9.heap.size < wz.heap.size := World.block_lt_of_cell? wz _ (hS.2.2.1)
    have hz3 : w9.heap.size + 1 < wz.heap.size := World.block_lt_of_cell? wz _ (hS.2.2.2.2.1)
    go_wp2
    go_roundw
    case rel => exact ⟨i + 1, by omega, by go_num, hS.2.2.1, hS.2.2.2.1, hS.2.2.2.2.1, hS.2.2.2.2.2.1, hS.2.2.2.2.2.2.1, hS.2.2.2.2.2.2.2.1, hS.2.2.2.2.2.2.2.2.1, hB⟩
    case measure => simp [intOf]; omega
end Go.Proofs.Ytnocgcfepkdjeaa
