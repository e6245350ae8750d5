/- Contracts: the box of fitting points. -/
import Derived.Deep.RegionWith
import Derived.Test.YtnocgcfepkdjeaaSbB
import Derived.Test.YtnocgcfepkdjeaaCurMath
namespace Go.Proofs.Ytnocgcfepkdjeaa
open Go.RowKit

/-- The box of a list that is not empty, by rounds. -/
def bxL (f : Nat → Int) (g : Int → Int → Int) : Nat → Int
  | 0 => f 0
  | n + 1 => g (bxL f g n) (f n)

def boxV (l : List Pt) (a : List Int) (tol : Int) : Pt × Pt := if boxK l a tol = true then ((bxL (px (fitN l a tol 961)) min (fitN l a tol 961).length, bxL (py (fitN l a tol 961)) min (fitN l a tol 961).length), (bxL (px (fitN l a tol 961)) max (fitN l a tol 961).length, bxL (py (fitN l a tol 961)) max (fitN l a tol 961).length)) else ((0, 0), (0, 0))

set_option maxRecDepth 100000 in
set_option maxHeartbeats 16000000 in
theorem sBox_c (A : Option Addr) (c : Nat) (l : List Pt) (A2 : Option Addr) (c2 : Nat) (a : List Int) (tol : Int) (w : World) (h1 : Hid (Reads w w.heap.size 2 A l.length (flat l))) (h2 : Hid (Reads w w.heap.size 1 A2 a.length (ints a))) (b1 : l.length ≤ 4000000) (b2 : a.length ≤ 4000000)  : Calls Try.prog 41 #[.slice A l.length c, .slice A2 a.length c2, .int .i64 tol] w (Gives w (.tuple #[.agg #[.int .i64 (boxV l a tol).1.1, .int .i64 (boxV l a tol).1.2], .agg #[.int .i64 (boxV l a tol).2.1, .int .i64 (boxV l a tol).2.2], .bool (boxK l a tol)])) := by
  rcases kf : fitK l a tol with _ | _
  · have HK := hide kf
    have HB := hide (show boxK l a tol = false from by simp [boxK, kf])
    have HV := hide (show boxV l a tol = ((0, 0), (0, 0)) from by unfold boxV; rw [HB.out]; rfl)
    go_enter Try.func41, Try.ntmps41
    have hne01 : ¬ w.heap.size = w.heap.size + 1 := by omega
    go_wp2_with (first | (go_at_call 81; refine (l11Asked_c A c l A2 c2 a tol _ (hide (reads_below h1.out (by go_grown))) (hide (reads_below h2.out (by go_grown))) b1 b2).mono ?_; rw [HK.out]; rintro e w1 ⟨rfl, hb⟩; have hT : (w.heap.size < w1.heap.size ∧ ∀ i, w1.frozen? ⟨w.heap.size, i, none⟩ = false) ∧ w1.cell? ⟨w.heap.size, 0, none⟩ = some (.int .i64 0) ∧ w1.cell? ⟨w.heap.size, 1, none⟩ = some (.int .i64 0) ∧ (w.heap.size + 1 < w1.heap.size ∧ ∀ i, w1.frozen? ⟨w.heap.size + 1, i, none⟩ = false) ∧ w1.cell? ⟨w.heap.size + 1, 0, none⟩ = some (.int .i64 0) ∧ w1.cell? ⟨w.heap.size + 1, 1, none⟩ = some (.int .i64 0) ∧ Below w.heap.size w w1 := (fun W h hb => ⟨keep_fre (hb) h.1, keep_cell (hb) h.2.1, keep_cell (hb) h.2.2.1, keep_fre (hb) h.2.2.2.1, keep_cell (hb) h.2.2.2.2.1, keep_cell (hb) h.2.2.2.2.2.1, below_via h.2.2.2.2.2.2 (hb)⟩ : ∀ W : World, ((w.heap.size < W.heap.size ∧ ∀ i, W.frozen? ⟨w.heap.size, i, none⟩ = false) ∧ W.cell? ⟨w.heap.size, 0, none⟩ = some (.int .i64 0) ∧ W.cell? ⟨w.heap.size, 1, none⟩ = some (.int .i64 0) ∧ (w.heap.size + 1 < W.heap.size ∧ ∀ i, W.frozen? ⟨w.heap.size + 1, i, none⟩ = false) ∧ W.cell? ⟨w.heap.size + 1, 0, none⟩ = some (.int .i64 0) ∧ W.cell? ⟨w.heap.size + 1, 1, none⟩ = some (.int .i64 0) ∧ Below w.heap.size w W) → Below W.heap.size W w1 → ((w.heap.size < w1.heap.size ∧ ∀ i, w1.frozen? ⟨w.heap.size, i, none⟩ = false) ∧ w1.cell? ⟨w.heap.size, 0, none⟩ = some (.int .i64 0) ∧ w1.cell? ⟨w.heap.size, 1, none⟩ = some (.int .i64 0) ∧ (w.heap.size + 1 < w1.heap.size ∧ ∀ i, w1.frozen? ⟨w.heap.size + 1, i, none⟩ = false) ∧ w1.cell? ⟨w.heap.size + 1, 0, none⟩ = some (.int .i64 0) ∧ w1.cell? ⟨w.heap.size + 1, 1, none⟩ = some (.int .i64 0) ∧ Below w.heap.size w w1)) _ (by first | (with_reducible assumption) | (exact hS) | (exact ⟨hS.1, hS.2.1, hS.2.2.1, hS.2.2.2.1, hS.2.2.2.2.1, hS.2.2.2.2.2.1, (by go_grown)⟩) | (exact ⟨(by first | (with_reducible assumption) | (simp [go_sem]; done) | (refine keep_fre ?_ ⟨by with_reducible assumption, by with_reducible assumption⟩; go_grown; done) | (simp [go_sem, *]; done)), (by first | (with_reducible assumption) | (simp [go_sem]; done) | ((simp only [go_sem]); (with_reducible assumption)) | ((refine keep_cell ?_ (by with_reducible assumption)); go_grown; done) | (simp [go_sem, *]; done)), (by first | (with_reducible assumption) | (simp [go_sem]; done) | ((simp only [go_sem]); (with_reducible assumption)) | ((refine keep_cell ?_ (by with_reducible assumption)); go_grown; done) | (simp [go_sem, *]; done)), (by first | (with_reducible assumption) | (simp [go_sem]; done) | (refine keep_fre ?_ ⟨by with_reducible assumption, by with_reducible assumption⟩; go_grown; done) | (simp [go_sem, *]; done)), (by first | (with_reducible assumption) | (simp [go_sem]; done) | ((simp only [go_sem]); (with_reducible assumption)) | ((refine keep_cell ?_ (by with_reducible assumption)); go_grown; done) | (simp [go_sem, *]; done)), (by first | (with_reducible assumption) | (simp [go_sem]; done) | ((simp only [go_sem]); (with_reducible assumption)) | ((refine keep_cell ?_ (by with_reducible assumption)); go_grown; done) | (simp [go_sem, *]; done)), (by go_grown)⟩)) hb; (try clear hS); have hS := hT; clear hT; have hB := hS.2.2.2.2.2.2; have hzw : w.heap.size ≤ w1.heap.size := hB.size; have hz1 : w.heap.size < w1.heap.size := hS.1.1; have hz2 : w.heap.size + 1 < w1.heap.size := hS.2.2.2.1.1; have hS2 := hS; obtain ⟨⟨f1, f0⟩, c0, c1, ⟨f3, f2⟩, c2, c3, hB9⟩ := hS2; obtain ⟨d0, d1, d2, d3, d4, d5, d6⟩ := boxes_sets hne01 c0 c1 c2 c3 (.int .i64 0) (.int .i64 0) (.int .i64 0) (.int .i64 0); clear hb))
    refine bodyPost_ret (by simp [results, Try.results41, go_sem, d3, d4, d5, d6]; try rfl) rfl ?_
    exact ⟨ret_eq (by simp [HV.out, HB.out]), by go_grown⟩
  have HK := hide kf
  have kk := kf
  obtain ⟨k0, k3⟩ := fitK_iff.1 kk
  have hab := hide (askB_small k0)
  obtain ⟨k1, hal, _⟩ := askB_iff.1 k0
  have HAL := hide hal
  clear hal
  have hsm := hide (okS_small k1)
  obtain ⟨n1, n5⟩ := (okS_iff.1 k1).1
  have hlen2 : a.length ≤ 5 := by have := HAL.out; omega
  clear kf kk
  obtain ⟨F, hF⟩ : ∃ F, fitN l a tol 961 = F := ⟨_, rfl⟩
  have hFl : F.length ≤ 961 := by rw [← hF]; exact fitN_len _ _ _ _
  have HF := hide hF
  clear hF
  by_cases hz : F.length = 0
  · have HB := hide (show boxK l a tol = false from by simp [boxK, HF.out, hz])
    have HV := hide (show boxV l a tol = ((0, 0), (0, 0)) from by unfold boxV; rw [HB.out]; rfl)
    have hzb : ((F.length : Int) == 0) = true := beq_iff_eq.2 (by omega)
    clear hz
    have hne01 : ¬ w.heap.size = w.heap.size + 1 := by omega
    go_enter Try.func41, Try.ntmps41
    go_wp2_with (first | (go_at_call 81; refine (l11Asked_c A c l A2 c2 a tol _ (hide (reads_below h1.out (by go_grown))) (hide (reads_below h2.out (by go_grown))) b1 b2).mono ?_; rw [HK.out]; rintro e w1 ⟨rfl, hb⟩; have hT : (w.heap.size < w1.heap.size ∧ ∀ i, w1.frozen? ⟨w.heap.size, i, none⟩ = false) ∧ w1.cell? ⟨w.heap.size, 0, none⟩ = some (.int .i64 0) ∧ w1.cell? ⟨w.heap.size, 1, none⟩ = some (.int .i64 0) ∧ (w.heap.size + 1 < w1.heap.size ∧ ∀ i, w1.frozen? ⟨w.heap.size + 1, i, none⟩ = false) ∧ w1.cell? ⟨w.heap.size + 1, 0, none⟩ = some (.int .i64 0) ∧ w1.cell? ⟨w.heap.size + 1, 1, none⟩ = some (.int .i64 0) ∧ Below w.heap.size w w1 := (fun W h hb => ⟨keep_fre (hb) h.1, keep_cell (hb) h.2.1, keep_cell (hb) h.2.2.1, keep_fre (hb) h.2.2.2.1, keep_cell (hb) h.2.2.2.2.1, keep_cell (hb) h.2.2.2.2.2.1, below_via h.2.2.2.2.2.2 (hb)⟩ : ∀ W : World, ((w.heap.size < W.heap.size ∧ ∀ i, W.frozen? ⟨w.heap.size, i, none⟩ = false) ∧ W.cell? ⟨w.heap.size, 0, none⟩ = some (.int .i64 0) ∧ W.cell? ⟨w.heap.size, 1, none⟩ = some (.int .i64 0) ∧ (w.heap.size + 1 < W.heap.size ∧ ∀ i, W.frozen? ⟨w.heap.size + 1, i, none⟩ = false) ∧ W.cell? ⟨w.heap.size + 1, 0, none⟩ = some (.int .i64 0) ∧ W.cell? ⟨w.heap.size + 1, 1, none⟩ = some (.int .i64 0) ∧ Below w.heap.size w W) → Below W.heap.size W w1 → ((w.heap.size < w1.heap.size ∧ ∀ i, w1.frozen? ⟨w.heap.size, i, none⟩ = false) ∧ w1.cell? ⟨w.heap.size, 0, none⟩ = some (.int .i64 0) ∧ w1.cell? ⟨w.heap.size, 1, none⟩ = some (.int .i64 0) ∧ (w.heap.size + 1 < w1.heap.size ∧ ∀ i, w1.frozen? ⟨w.heap.size + 1, i, none⟩ = false) ∧ w1.cell? ⟨w.heap.size + 1, 0, none⟩ = some (.int .i64 0) ∧ w1.cell? ⟨w.heap.size + 1, 1, none⟩ = some (.int .i64 0) ∧ Below w.heap.size w w1)) _ (by first | (with_reducible assumption) | (exact hS) | (exact ⟨hS.1, hS.2.1, hS.2.2.1, hS.2.2.2.1, hS.2.2.2.2.1, hS.2.2.2.2.2.1, (by go_grown)⟩) | (exact ⟨(by first | (with_reducible assumption) | (simp [go_sem]; done) | (refine keep_fre ?_ ⟨by with_reducible assumption, by with_reducible assumption⟩; go_grown; done) | (simp [go_sem, *]; done)), (by first | (with_reducible assumption) | (simp [go_sem]; done) | ((simp only [go_sem]); (with_reducible assumption)) | ((refine keep_cell ?_ (by with_reducible assumption)); go_grown; done) | (simp [go_sem, *]; done)), (by first | (with_reducible assumption) | (simp [go_sem]; done) | ((simp only [go_sem]); (with_reducible assumption)) | ((refine keep_cell ?_ (by with_reducible assumption)); go_grown; done) | (simp [go_sem, *]; done)), (by first | (with_reducible assumption) | (simp [go_sem]; done) | (refine keep_fre ?_ ⟨by with_reducible assumption, by with_reducible assumption⟩; go_grown; done) | (simp [go_sem, *]; done)), (by first | (with_reducible assumption) | (simp [go_sem]; done) | ((simp only [go_sem]); (with_reducible assumption)) | ((refine keep_cell ?_ (by with_reducible assumption)); go_grown; done) | (simp [go_sem, *]; done)), (by first | (with_reducible assumption) | (simp [go_sem]; done) | ((simp only [go_sem]); (with_reducible assumption)) | ((refine keep_cell ?_ (by with_reducible assumption)); go_grown; done) | (simp [go_sem, *]; done)), (by go_grown)⟩)) hb; (try clear hS); have hS := hT; clear hT; have hB := hS.2.2.2.2.2.2; have hzw : w.heap.size ≤ w1.heap.size := hB.size; have hz1 : w.heap.size < w1.heap.size := hS.1.1; have hz2 : w.heap.size + 1 < w1.heap.size := hS.2.2.2.1.1; clear hb) | (go_at_call 82; refine (l11Fitting_c _ A c l A2 c2 a tol (hide (reads_below h1.out (by go_grown))) (by omega) hsm (hide (reads_below h2.out (by go_grown))) HAL hab n1).mono ?_; rw [HF.out]; rintro e wF ⟨B, d, rfl, hown, hb⟩; have hT : (w.heap.size < wF.heap.size ∧ ∀ i, wF.frozen? ⟨w.heap.size, i, none⟩ = false) ∧ wF.cell? ⟨w.heap.size, 0, none⟩ = some (.int .i64 0) ∧ wF.cell? ⟨w.heap.size, 1, none⟩ = some (.int .i64 0) ∧ (w.heap.size + 1 < wF.heap.size ∧ ∀ i, wF.frozen? ⟨w.heap.size + 1, i, none⟩ = false) ∧ wF.cell? ⟨w.heap.size + 1, 0, none⟩ = some (.int .i64 0) ∧ wF.cell? ⟨w.heap.size + 1, 1, none⟩ = some (.int .i64 0) ∧ Below w.heap.size w wF := (fun W h hb => ⟨keep_fre (hb) h.1, keep_cell (hb) h.2.1, keep_cell (hb) h.2.2.1, keep_fre (hb) h.2.2.2.1, keep_cell (hb) h.2.2.2.2.1, keep_cell (hb) h.2.2.2.2.2.1, below_via h.2.2.2.2.2.2 (hb)⟩ : ∀ W : World, ((w.heap.size < W.heap.size ∧ ∀ i, W.frozen? ⟨w.heap.size, i, none⟩ = false) ∧ W.cell? ⟨w.heap.size, 0, none⟩ = some (.int .i64 0) ∧ W.cell? ⟨w.heap.size, 1, none⟩ = some (.int .i64 0) ∧ (w.heap.size + 1 < W.heap.size ∧ ∀ i, W.frozen? ⟨w.heap.size + 1, i, none⟩ = false) ∧ W.cell? ⟨w.heap.size + 1, 0, none⟩ = some (.int .i64 0) ∧ W.cell? ⟨w.heap.size + 1, 1, none⟩ = some (.int .i64 0) ∧ Below w.heap.size w W) → Below W.heap.size W wF → ((w.heap.size < wF.heap.size ∧ ∀ i, wF.frozen? ⟨w.heap.size, i, none⟩ = false) ∧ wF.cell? ⟨w.heap.size, 0, none⟩ = some (.int .i64 0) ∧ wF.cell? ⟨w.heap.size, 1, none⟩ = some (.int .i64 0) ∧ (w.heap.size + 1 < wF.heap.size ∧ ∀ i, wF.frozen? ⟨w.heap.size + 1, i, none⟩ = false) ∧ wF.cell? ⟨w.heap.size + 1, 0, none⟩ = some (.int .i64 0) ∧ wF.cell? ⟨w.heap.size + 1, 1, none⟩ = some (.int .i64 0) ∧ Below w.heap.size w wF)) _ (by first | (with_reducible assumption) | (exact hS) | (exact ⟨hS.1, hS.2.1, hS.2.2.1, hS.2.2.2.1, hS.2.2.2.2.1, hS.2.2.2.2.2.1, (by go_grown)⟩) | (exact ⟨(by first | (with_reducible assumption) | (simp [go_sem]; done) | (refine keep_fre ?_ ⟨by with_reducible assumption, by with_reducible assumption⟩; go_grown; done) | (simp [go_sem, *]; done)), (by first | (with_reducible assumption) | (simp [go_sem]; done) | ((simp only [go_sem]); (with_reducible assumption)) | ((refine keep_cell ?_ (by with_reducible assumption)); go_grown; done) | (simp [go_sem, *]; done)), (by first | (with_reducible assumption) | (simp [go_sem]; done) | ((simp only [go_sem]); (with_reducible assumption)) | ((refine keep_cell ?_ (by with_reducible assumption)); go_grown; done) | (simp [go_sem, *]; done)), (by first | (with_reducible assumption) | (simp [go_sem]; done) | (refine keep_fre ?_ ⟨by with_reducible assumption, by with_reducible assumption⟩; go_grown; done) | (simp [go_sem, *]; done)), (by first | (with_reducible assumption) | (simp [go_sem]; done) | ((simp only [go_sem]); (with_reducible assumption)) | ((refine keep_cell ?_ (by with_reducible assumption)); go_grown; done) | (simp [go_sem, *]; done)), (by first | (with_reducible assumption) | (simp [go_sem]; done) | ((simp only [go_sem]); (with_reducible assumption)) | ((refine keep_cell ?_ (by with_reducible assumption)); go_grown; done) | (simp [go_sem, *]; done)), (by go_grown)⟩)) hb; (try clear hS); have hS := hT; clear hT; have hB := hS.2.2.2.2.2.2; have hzw : w.heap.size ≤ wF.heap.size := hB.size; have hz1 : w.heap.size < wF.heap.size := hS.1.1; have hz2 : w.heap.size + 1 < wF.heap.size := hS.2.2.2.1.1; have HOWN := hide hown; clear hown; have hS2 := hS; obtain ⟨⟨f1, f0⟩, c0, c1, ⟨f3, f2⟩, c2, c3, hB9⟩ := hS2; obtain ⟨d0, d1, d2, d3, d4, d5, d6⟩ := boxes_sets hne01 c0 c1 c2 c3 (.int .i64 0) (.int .i64 0) (.int .i64 0) (.int .i64 0); clear hb))
    refine bodyPost_ret (by simp [results, Try.results41, go_sem, d3, d4, d5, d6]; try rfl) rfl ?_
    exact ⟨ret_eq (by simp [HV.out, HB.out]), by go_grown⟩
  have hzb : ((F.length : Int) == 0) = false := beq_eq_false_iff_ne.2 (by omega)
  have HBX := hide (show boxK l a tol = true from by simp [boxK, HK.out, HF.out]; omega)
  have HVX := hide (show boxV l a tol = ((bxL (px F) min F.length, bxL (py F) min F.length), (bxL (px F) max F.length, bxL (py F) max F.length)) from by unfold boxV; rw [if_pos HBX.out, HF.out])
  have hne01 : ¬ w.heap.size = w.heap.size + 1 := by omega
  go_enter Try.func41, Try.ntmps41
  go_wp2_with (first | (go_at_call 81; refine (l11Asked_c A c l A2 c2 a tol _ (hide (reads_below h1.out (by go_grown))) (hide (reads_below h2.out (by go_grown))) b1 b2).mono ?_; rw [HK.out]; rintro e w1 ⟨rfl, hb⟩; have hT : (w.heap.size < w1.heap.size ∧ ∀ i, w1.frozen? ⟨w.heap.size, i, none⟩ = false) ∧ w1.cell? ⟨w.heap.size, 0, none⟩ = some (.int .i64 0) ∧ w1.cell? ⟨w.heap.size, 1, none⟩ = some (.int .i64 0) ∧ (w.heap.size + 1 < w1.heap.size ∧ ∀ i, w1.frozen? ⟨w.heap.size + 1, i, none⟩ = false) ∧ w1.cell? ⟨w.heap.size + 1, 0, none⟩ = some (.int .i64 0) ∧ w1.cell? ⟨w.heap.size + 1, 1, none⟩ = some (.int .i64 0) ∧ Below w.heap.size w w1 := (fun W h hb => ⟨keep_fre (hb) h.1, keep_cell (hb) h.2.1, keep_cell (hb) h.2.2.1, keep_fre (hb) h.2.2.2.1, keep_cell (hb) h.2.2.2.2.1, keep_cell (hb) h.2.2.2.2.2.1, below_via h.2.2.2.2.2.2 (hb)⟩ : ∀ W : World, ((w.heap.size < W.heap.size ∧ ∀ i, W.frozen? ⟨w.heap.size, i, none⟩ = false) ∧ W.cell? ⟨w.heap.size, 0, none⟩ = some (.int .i64 0) ∧ W.cell? ⟨w.heap.size, 1, none⟩ = some (.int .i64 0) ∧ (w.heap.size + 1 < W.heap.size ∧ ∀ i, W.frozen? ⟨w.heap.size + 1, i, none⟩ = false) ∧ W.cell? ⟨w.heap.size + 1, 0, none⟩ = some (.int .i64 0) ∧ W.cell? ⟨w.heap.size + 1, 1, none⟩ = some (.int .i64 0) ∧ Below w.heap.size w W) → Below W.heap.size W w1 → ((w.heap.size < w1.heap.size ∧ ∀ i, w1.frozen? ⟨w.heap.size, i, none⟩ = false) ∧ w1.cell? ⟨w.heap.size, 0, none⟩ = some (.int .i64 0) ∧ w1.cell? ⟨w.heap.size, 1, none⟩ = some (.int .i64 0) ∧ (w.heap.size + 1 < w1.heap.size ∧ ∀ i, w1.frozen? ⟨w.heap.size + 1, i, none⟩ = false) ∧ w1.cell? ⟨w.heap.size + 1, 0, none⟩ = some (.int .i64 0) ∧ w1.cell? ⟨w.heap.size + 1, 1, none⟩ = some (.int .i64 0) ∧ Below w.heap.size w w1)) _ (by first | (with_reducible assumption) | (exact hS) | (exact ⟨hS.1, hS.2.1, hS.2.2.1, hS.2.2.2.1, hS.2.2.2.2.1, hS.2.2.2.2.2.1, (by go_grown)⟩) | (exact ⟨(by first | (with_reducible assumption) | (simp [go_sem]; done) | (refine keep_fre ?_ ⟨by with_reducible assumption, by with_reducible assumption⟩; go_grown; done) | (simp [go_sem, *]; done)), (by first | (with_reducible assumption) | (simp [go_sem]; done) | ((simp only [go_sem]); (with_reducible assumption)) | ((refine keep_cell ?_ (by with_reducible assumption)); go_grown; done) | (simp [go_sem, *]; done)), (by first | (with_reducible assumption) | (simp [go_sem]; done) | ((simp only [go_sem]); (with_reducible assumption)) | ((refine keep_cell ?_ (by with_reducible assumption)); go_grown; done) | (simp [go_sem, *]; done)), (by first | (with_reducible assumption) | (simp [go_sem]; done) | (refine keep_fre ?_ ⟨by with_reducible assumption, by with_reducible assumption⟩; go_grown; done) | (simp [go_sem, *]; done)), (by first | (with_reducible assumption) | (simp [go_sem]; done) | ((simp only [go_sem]); (with_reducible assumption)) | ((refine keep_cell ?_ (by with_reducible assumption)); go_grown; done) | (simp [go_sem, *]; done)), (by first | (with_reducible assumption) | (simp [go_sem]; done) | ((simp only [go_sem]); (with_reducible assumption)) | ((refine keep_cell ?_ (by with_reducible assumption)); go_grown; done) | (simp [go_sem, *]; done)), (by go_grown)⟩)) hb; (try clear hS); have hS := hT; clear hT; have hB := hS.2.2.2.2.2.2; have hzw : w.heap.size ≤ w1.heap.size := hB.size; have hz1 : w.heap.size < w1.heap.size := hS.1.1; have hz2 : w.heap.size + 1 < w1.heap.size := hS.2.2.2.1.1; clear hb) | (go_at_call 82; refine (l11Fitting_c _ A c l A2 c2 a tol (hide (reads_below h1.out (by go_grown))) (by omega) hsm (hide (reads_below h2.out (by go_grown))) HAL hab n1).mono ?_; rw [HF.out]; rintro e wF ⟨B, d, rfl, hown, hb⟩; have hT : (w.heap.size < wF.heap.size ∧ ∀ i, wF.frozen? ⟨w.heap.size, i, none⟩ = false) ∧ wF.cell? ⟨w.heap.size, 0, none⟩ = some (.int .i64 0) ∧ wF.cell? ⟨w.heap.size, 1, none⟩ = some (.int .i64 0) ∧ (w.heap.size + 1 < wF.heap.size ∧ ∀ i, wF.frozen? ⟨w.heap.size + 1, i, none⟩ = false) ∧ wF.cell? ⟨w.heap.size + 1, 0, none⟩ = some (.int .i64 0) ∧ wF.cell? ⟨w.heap.size + 1, 1, none⟩ = some (.int .i64 0) ∧ Below w.heap.size w wF := (fun W h hb => ⟨keep_fre (hb) h.1, keep_cell (hb) h.2.1, keep_cell (hb) h.2.2.1, keep_fre (hb) h.2.2.2.1, keep_cell (hb) h.2.2.2.2.1, keep_cell (hb) h.2.2.2.2.2.1, below_via h.2.2.2.2.2.2 (hb)⟩ : ∀ W : World, ((w.heap.size < W.heap.size ∧ ∀ i, W.frozen? ⟨w.heap.size, i, none⟩ = false) ∧ W.cell? ⟨w.heap.size, 0, none⟩ = some (.int .i64 0) ∧ W.cell? ⟨w.heap.size, 1, none⟩ = some (.int .i64 0) ∧ (w.heap.size + 1 < W.heap.size ∧ ∀ i, W.frozen? ⟨w.heap.size + 1, i, none⟩ = false) ∧ W.cell? ⟨w.heap.size + 1, 0, none⟩ = some (.int .i64 0) ∧ W.cell? ⟨w.heap.size + 1, 1, none⟩ = some (.int .i64 0) ∧ Below w.heap.size w W) → Below W.heap.size W wF → ((w.heap.size < wF.heap.size ∧ ∀ i, wF.frozen? ⟨w.heap.size, i, none⟩ = false) ∧ wF.cell? ⟨w.heap.size, 0, none⟩ = some (.int .i64 0) ∧ wF.cell? ⟨w.heap.size, 1, none⟩ = some (.int .i64 0) ∧ (w.heap.size + 1 < wF.heap.size ∧ ∀ i, wF.frozen? ⟨w.heap.size + 1, i, none⟩ = false) ∧ wF.cell? ⟨w.heap.size + 1, 0, none⟩ = some (.int .i64 0) ∧ wF.cell? ⟨w.heap.size + 1, 1, none⟩ = some (.int .i64 0) ∧ Below w.heap.size w wF)) _ (by first | (with_reducible assumption) | (exact hS) | (exact ⟨hS.1, hS.2.1, hS.2.2.1, hS.2.2.2.1, hS.2.2.2.2.1, hS.2.2.2.2.2.1, (by go_grown)⟩) | (exact ⟨(by first | (with_reducible assumption) | (simp [go_sem]; done) | (refine keep_fre ?_ ⟨by with_reducible assumption, by with_reducible assumption⟩; go_grown; done) | (simp [go_sem, *]; done)), (by first | (with_reducible assumption) | (simp [go_sem]; done) | ((simp only [go_sem]); (with_reducible assumption)) | ((refine keep_cell ?_ (by with_reducible assumption)); go_grown; done) | (simp [go_sem, *]; done)), (by first | (with_reducible assumption) | (simp [go_sem]; done) | ((simp only [go_sem]); (with_reducible assumption)) | ((refine keep_cell ?_ (by with_reducible assumption)); go_grown; done) | (simp [go_sem, *]; done)), (by first | (with_reducible assumption) | (simp [go_sem]; done) | (refine keep_fre ?_ ⟨by with_reducible assumption, by with_reducible assumption⟩; go_grown; done) | (simp [go_sem, *]; done)), (by first | (with_reducible assumption) | (simp [go_sem]; done) | ((simp only [go_sem]); (with_reducible assumption)) | ((refine keep_cell ?_ (by with_reducible assumption)); go_grown; done) | (simp [go_sem, *]; done)), (by first | (with_reducible assumption) | (simp [go_sem]; done) | ((simp only [go_sem]); (with_reducible assumption)) | ((refine keep_cell ?_ (by with_reducible assumption)); go_grown; done) | (simp [go_sem, *]; done)), (by go_grown)⟩)) hb; (try clear hS); have hS := hT; clear hT; have hB := hS.2.2.2.2.2.2; have hzw : w.heap.size ≤ wF.heap.size := hB.size; have hz1 : w.heap.size < wF.heap.size := hS.1.1; have hz2 : w.heap.size + 1 < wF.heap.size := hS.2.2.2.1.1; have HOWN := hide hown; clear hown; clear hb))
  have hwF : w.heap.size + 1 < wF.heap.size := World.block_lt_of_cell? wF _ (hS.2.2.2.2.2.1)
  obtain ⟨gF, rfl, hgF0, hgF1⟩ := own_at HOWN.out hz
  obtain ⟨cx, cy⟩ := own_pt (l := F) HOWN.out (k := 0) (by omega)
  have hpl : 0 < F.length := by omega
  have HS0 := hide hS
  have HB0 := hide hB
  clear hS hB hzw
  go_region
  · obtain ⟨W0, hW0⟩ : ∃ W, W = ((wF.alloc (.cells #[.int .i64 (px F 0), .int .i64 (py F 0)] 32)).alloc (.cells #[.int .i64 (px F 0), .int .i64 (py F 0)] 32)).drew := ⟨_, rfl⟩
    have hS : (wF.heap.size < W0.heap.size ∧ ∀ i, W0.frozen? ⟨wF.heap.size, i, none⟩ = false) ∧ W0.cell? ⟨wF.heap.size, 0, none⟩ = some (.int .i64 (bxL (px F) min 0)) ∧ W0.cell? ⟨wF.heap.size, 1, none⟩ = some (.int .i64 (bxL (py F) min 0)) ∧ (wF.heap.size + 1 < W0.heap.size ∧ ∀ i, W0.frozen? ⟨wF.heap.size + 1, i, none⟩ = false) ∧ W0.cell? ⟨wF.heap.size + 1, 0, none⟩ = some (.int .i64 (bxL (px F) max 0)) ∧ W0.cell? ⟨wF.heap.size + 1, 1, none⟩ = some (.int .i64 (bxL (py F) max 0)) ∧ Below wF.heap.size wF W0 := by
      rw [hW0]
      simp only [bxL]
      exact ⟨by simp [go_sem], by simp [go_sem], by simp [go_sem], by simp [go_sem], by simp [go_sem], by simp [go_sem], by go_grown⟩
    rw [← hW0]
    clear hW0
    obtain ⟨P, hP9⟩ : ∃ q, wF.heap.size = q := ⟨_, rfl⟩
    obtain ⟨Q, hQ9⟩ : ∃ q, wF.heap.size + 1 = q := ⟨_, rfl⟩
    have hPF : wF.heap.size ≤ P := by omega
    have hQF : wF.heap.size ≤ Q := by omega
    have hPQ : P ≠ Q := by omega
    have hPg : gF ≠ P := by omega
    have hQg : gF ≠ Q := by omega
    have hS1 : (P < W0.heap.size ∧ ∀ i, W0.frozen? ⟨P, i, none⟩ = false) ∧ W0.cell? ⟨P, 0, none⟩ = some (.int .i64 (bxL (px F) min 0)) ∧ W0.cell? ⟨P, 1, none⟩ = some (.int .i64 (bxL (py F) min 0)) ∧ (Q < W0.heap.size ∧ ∀ i, W0.frozen? ⟨Q, i, none⟩ = false) ∧ W0.cell? ⟨Q, 0, none⟩ = some (.int .i64 (bxL (px F) max 0)) ∧ W0.cell? ⟨Q, 1, none⟩ = some (.int .i64 (bxL (py F) max 0)) ∧ Below wF.heap.size wF W0 := by rw [← hP9, ← hQ9]; exact hS
    rw [hQ9, hP9]
    clear hS
    have hS := hS1
    clear hS1 hP9 hQ9
    have e1 : ∀ (f : Nat → Int), bxL f min 1 = bxL f min 0 := fun f => by simp only [bxL]; omega
    have e2 : ∀ (f : Nat → Int), bxL f max 1 = bxL f max 0 := fun f => by simp only [bxL]; omega
    have hS1 : (P < W0.heap.size ∧ ∀ i, W0.frozen? ⟨P, i, none⟩ = false) ∧ W0.cell? ⟨P, 0, none⟩ = some (.int .i64 (bxL (px F) min 1)) ∧ W0.cell? ⟨P, 1, none⟩ = some (.int .i64 (bxL (py F) min 1)) ∧ (Q < W0.heap.size ∧ ∀ i, W0.frozen? ⟨Q, i, none⟩ = false) ∧ W0.cell? ⟨Q, 0, none⟩ = some (.int .i64 (bxL (px F) max 1)) ∧ W0.cell? ⟨Q, 1, none⟩ = some (.int .i64 (bxL (py F) max 1)) ∧ Below wF.heap.size wF W0 := by rw [e1, e1, e2, e2]; exact hS
    clear hS e1 e2
    have hS := hS1
    clear hS1
    go_wp2
    go_loopw [12] (fun iv wr => ∃ i : Nat, 1 ≤ i ∧ i ≤ F.length ∧ iv = .int .i64 i ∧ ((P < wr.heap.size ∧ ∀ i, wr.frozen? ⟨P, i, none⟩ = false) ∧ wr.cell? ⟨P, 0, none⟩ = some (.int .i64 (bxL (px F) min i)) ∧ wr.cell? ⟨P, 1, none⟩ = some (.int .i64 (bxL (py F) min i)) ∧ (Q < wr.heap.size ∧ ∀ i, wr.frozen? ⟨Q, i, none⟩ = false) ∧ wr.cell? ⟨Q, 0, none⟩ = some (.int .i64 (bxL (px F) max i)) ∧ wr.cell? ⟨Q, 1, none⟩ = some (.int .i64 (bxL (py F) max i)) ∧ Below wF.heap.size wF wr)) (fun iv _ => F.length - (intOf iv).toNat)
    case atStart => exact ⟨1, by omega, by omega, rfl, hS⟩
    case round =>
      obtain ⟨i, hi1, hi, rfl, hS⟩ := hrel
      by_cases hlt : i < F.length
      rotate_left
      · obtain rfl : i = F.length := by omega
        obtain ⟨⟨f0, r0⟩, p0, p1, ⟨f1, r1⟩, q0, q1, hB⟩ := hS
        obtain ⟨⟨s1, s2⟩, z0, z1, ⟨s3, s4⟩, z2, z3, hB0⟩ := HS0.out
        have y0 : wr.cell? ⟨w.heap.size, 0, none⟩ = some (.int .i64 0) := (hB.cell (p := ⟨w.heap.size, 0, none⟩) (by show w.heap.size < _; omega)).trans z0
        have y1 : wr.cell? ⟨w.heap.size, 1, none⟩ = some (.int .i64 0) := (hB.cell (p := ⟨w.heap.size, 1, none⟩) (by show w.heap.size < _; omega)).trans z1
        have y2 : wr.cell? ⟨w.heap.size + 1, 0, none⟩ = some (.int .i64 0) := (hB.cell (p := ⟨w.heap.size + 1, 0, none⟩) (by show w.heap.size + 1 < _; omega)).trans z2
        have y3 : wr.cell? ⟨w.heap.size + 1, 1, none⟩ = some (.int .i64 0) := (hB.cell (p := ⟨w.heap.size + 1, 1, none⟩) (by show w.heap.size + 1 < _; omega)).trans z3
        have sf0 : ∀ i, wr.frozen? ⟨w.heap.size, i, none⟩ = false := fun i => (hB.frozen (p := ⟨w.heap.size, i, none⟩) (by show w.heap.size < _; omega)).trans (s2 i)
        have sf1 : ∀ i, wr.frozen? ⟨w.heap.size + 1, i, none⟩ = false := fun i => (hB.frozen (p := ⟨w.heap.size + 1, i, none⟩) (by show w.heap.size + 1 < _; omega)).trans (s4 i)
        have hBw : Below w.heap.size w wr := below_via hB0 hB
        obtain ⟨d0, d1, d2, d3, d4, d5, d6⟩ := boxes_sets (w := wr.drew) hne01 (by simpa using y0) (by simpa using y1) (by simpa using y2) (by simpa using y3) (.int .i64 (bxL (px F) min F.length)) (.int .i64 (bxL (py F) min F.length)) (.int .i64 (bxL (px F) max F.length)) (.int .i64 (bxL (py F) max F.length))
        obtain ⟨k0, k1, k2, k3, k4, k5, k6⟩ := boxes_sets hne01 y0 y1 y2 y3 (.int .i64 (bxL (px F) min F.length)) (.int .i64 (bxL (py F) min F.length)) (.int .i64 (bxL (px F) max F.length)) (.int .i64 (bxL (py F) max F.length))
        clear z0 z1 z2 z3 s1 s2 s3 s4 hB0
        go_wp2
        go_region
        all_goals
          go_wp2
          refine bodyPost_ret (by simp [results, Try.results41, go_sem, d3, d4, d5, d6, k3, k4, k5, k6]; try rfl) rfl ?_
          exact ⟨ret_eq (by simp [HVX.out, HBX.out]), by go_grown⟩
      have hrow := own_below HOWN.out (hS.2.2.2.2.2.2)
      obtain ⟨ux, uy⟩ := own_pt hrow hlt
      clear hrow
      have hS2 : wr.cell? ⟨gF, i * 2, none⟩ = some (.int .i64 (px F i)) ∧ wr.cell? ⟨gF, i * 2 + 1, none⟩ = some (.int .i64 (py F i)) ∧ (P < wr.heap.size ∧ ∀ i, wr.frozen? ⟨P, i, none⟩ = false) ∧ wr.cell? ⟨P, 0, none⟩ = some (.int .i64 (bxL (px F) min i)) ∧ wr.cell? ⟨P, 1, none⟩ = some (.int .i64 (bxL (py F) min i)) ∧ (Q < wr.heap.size ∧ ∀ i, wr.frozen? ⟨Q, i, none⟩ = false) ∧ wr.cell? ⟨Q, 0, none⟩ = some (.int .i64 (bxL (px F) max i)) ∧ wr.cell? ⟨Q, 1, none⟩ = some (.int .i64 (bxL (py F) max i)) ∧ Below wF.heap.size wF wr := ⟨ux, uy, hS⟩
      clear hS ux uy
      have hS := hS2
      clear hS2
      have hB := hS.2.2.2.2.2.2.2.2
      go_wp2
      refine wp_region_tail 17 (fun w' => w'.cell? ⟨gF, i * 2, none⟩ = some (.int .i64 (px F i)) ∧ w'.cell? ⟨gF, i * 2 + 1, none⟩ = some (.int .i64 (py F i)) ∧ (P < w'.heap.size ∧ ∀ i, w'.frozen? ⟨P, i, none⟩ = false) ∧ w'.cell? ⟨P, 0, none⟩ = some (.int .i64 (bxL (px F) min i)) ∧ w'.cell? ⟨P, 1, none⟩ = some (.int .i64 (bxL (py F) min i)) ∧ (Q < w'.heap.size ∧ ∀ i, w'.frozen? ⟨Q, i, none⟩ = false) ∧ w'.cell? ⟨Q, 0, none⟩ = some (.int .i64 (bxL (px F) max i)) ∧ w'.cell? ⟨Q, 1, none⟩ = some (.int .i64 (bxL (py F) max i)) ∧ Below wF.heap.size wF w') (by kernel_rfl) (by kernel_rfl) (by kernel_rfl) (of_decide_eq_true (by kernel_rfl)) (by first | (with_reducible assumption) | (exact hS) | (exact ⟨hS.1, hS.2.1, hS.2.2.1, hS.2.2.2.1, hS.2.2.2.2.1, hS.2.2.2.2.2.1, hS.2.2.2.2.2.2.1, hS.2.2.2.2.2.2.2.1, (by go_grown)⟩) | (exact ⟨(by first | (with_reducible assumption) | (simp [go_sem]; done) | ((simp only [go_sem]); (with_reducible assumption)) | ((refine keep_cell ?_ (by with_reducible assumption)); go_grown; done) | (simp [go_sem, *]; done)), (by first | (with_reducible assumption) | (simp [go_sem]; done) | ((simp only [go_sem]); (with_reducible assumption)) | ((refine keep_cell ?_ (by with_reducible assumption)); go_grown; done) | (simp [go_sem, *]; done)), (by first | (with_reducible assumption) | (simp [go_sem]; done) | (refine keep_fre ?_ ⟨by with_reducible assumption, by with_reducible assumption⟩; go_grown; done) | (simp [go_sem, *]; done)), (by first | (with_reducible assumption) | (simp [go_sem]; done) | ((simp only [go_sem]); (with_reducible assumption)) | ((refine keep_cell ?_ (by with_reducible assumption)); go_grown; done) | (simp [go_sem, *]; done)), (by first | (with_reducible assumption) | (simp [go_sem]; done) | ((simp only [go_sem]); (with_reducible assumption)) | ((refine keep_cell ?_ (by with_reducible assumption)); go_grown; done) | (simp [go_sem, *]; done)), (by first | (with_reducible assumption) | (simp [go_sem]; done) | (refine keep_fre ?_ ⟨by with_reducible assumption, by with_reducible assumption⟩; go_grown; done) | (simp [go_sem, *]; done)), (by first | (with_reducible assumption) | (simp [go_sem]; done) | ((simp only [go_sem]); (with_reducible assumption)) | ((refine keep_cell ?_ (by with_reducible assumption)); go_grown; done) | (simp [go_sem, *]; done)), (by first | (with_reducible assumption) | (simp [go_sem]; done) | ((simp only [go_sem]); (with_reducible assumption)) | ((refine keep_cell ?_ (by with_reducible assumption)); go_grown; done) | (simp [go_sem, *]; done)), (by go_grown)⟩)) ?_
      dsimp only [List.take, List.drop]
      repeat (first
        | ((refine wpDet_skip (by rfl) ?_); simp only [Act.put, List.setIfInBounds_toArray, List.set_cons_zero, List.set_cons_succ])
        | ((refine wpDet_val (v := ?_) (by rfl) (fun w hS => ?_) ?_); rotate_left; (focus ((try dsimp only at hS); go_simp; (try (with_reducible rfl)); done)); simp only [Act.put, List.setIfInBounds_toArray, List.set_cons_zero, List.set_cons_succ])
        | ((refine wpDet_call (v := ?_) (f := ?_) (args := ?_) (by rfl) (fun w => ?_) (fun w hS => ?_) ?_); rotate_left; rotate_left; rotate_left; (focus (go_simp; (constructor <;> (with_reducible rfl)); done)); (focus (first | (go_at_call 98; refine (least1_c _ _ _).mono ?_; intro e w' h; refine ⟨h.1.trans ?_, h.2 ▸ hS⟩; with_reducible rfl))); simp only [Act.put, List.setIfInBounds_toArray, List.set_cons_zero, List.set_cons_succ]))
      refine wpDet_nil ?_
      intro wa hS
      have hT : wa.cell? ⟨gF, i * 2, none⟩ = some (.int .i64 (px F i)) ∧ wa.cell? ⟨gF, i * 2 + 1, none⟩ = some (.int .i64 (py F i)) ∧ (P < wa.heap.size ∧ ∀ i, wa.frozen? ⟨P, i, none⟩ = false) ∧ wa.cell? ⟨P, 0, none⟩ = some (.int .i64 (bxL (px F) min i)) ∧ wa.cell? ⟨P, 1, none⟩ = some (.int .i64 (bxL (py F) min i)) ∧ (Q < wa.heap.size ∧ ∀ i, wa.frozen? ⟨Q, i, none⟩ = false) ∧ wa.cell? ⟨Q, 0, none⟩ = some (.int .i64 (bxL (px F) max i)) ∧ wa.cell? ⟨Q, 1, none⟩ = some (.int .i64 (bxL (py F) max i)) ∧ Below wF.heap.size wF wa := hS
      clear hS
      have hS := hT
      obtain ⟨c0, c1, c2, c3, c4, c5, c6, c7, hB⟩ := hT
      have hzw : wF.heap.size ≤ wa.heap.size := hB.size
      have hz1 : gF < wa.heap.size := World.block_lt_of_cell? wa _ (hS.1)
      have hz2 : P < wa.heap.size := hS.2.2.1.1
      have hz3 : Q < wa.heap.size := hS.2.2.2.2.2.1.1
      obtain ⟨fP, rP⟩ := c2
      obtain ⟨fQ, rQ⟩ := c5
      obtain ⟨d0, d1, d2, d3⟩ := box2_sets c3 c4 (.int .i64 (min (bxL (px F) min i) (px F i))) (.int .i64 (min (bxL (py F) min i) (py F i)))
      go_wp2
      generalize hW : World.setCell (World.setCell wa _ _) _ _ = wb
      have hS3 : wb.cell? ⟨gF, i * 2, none⟩ = some (.int .i64 (px F i)) ∧ wb.cell? ⟨gF, i * 2 + 1, none⟩ = some (.int .i64 (py F i)) ∧ (P < wb.heap.size ∧ ∀ i, wb.frozen? ⟨P, i, none⟩ = false) ∧ wb.cell? ⟨P, 0, none⟩ = some (.int .i64 (bxL (px F) min (i + 1))) ∧ wb.cell? ⟨P, 1, none⟩ = some (.int .i64 (bxL (py F) min (i + 1))) ∧ (Q < wb.heap.size ∧ ∀ i, wb.frozen? ⟨Q, i, none⟩ = false) ∧ wb.cell? ⟨Q, 0, none⟩ = some (.int .i64 (bxL (px F) max i)) ∧ wb.cell? ⟨Q, 1, none⟩ = some (.int .i64 (bxL (py F) max i)) ∧ Below wF.heap.size wF wb := by rw [← hW]; exact ⟨(box2_other hPg _ _ _).trans c0, (box2_other hPg _ _ _).trans c1, ⟨by simpa using fP, fun i => by simpa using rP i⟩, d2, d3, ⟨by simpa using fQ, fun i => by simpa using rQ i⟩, (box2_other hPQ.symm _ _ _).trans c6, (box2_other hPQ.symm _ _ _).trans c7, by go_grown⟩
      clear hS c0 c1 c3 c4 c6 c7 d0 d1 d2 d3 fP rP fQ rQ hW hB
      have hS := hS3
      clear hS3
      have hB := hS.2.2.2.2.2.2.2.2
      refine wp_region_tail 17 (fun w' => w'.cell? ⟨gF, i * 2, none⟩ = some (.int .i64 (px F i)) ∧ w'.cell? ⟨gF, i * 2 + 1, none⟩ = some (.int .i64 (py F i)) ∧ (P < w'.heap.size ∧ ∀ i, w'.frozen? ⟨P, i, none⟩ = false) ∧ w'.cell? ⟨P, 0, none⟩ = some (.int .i64 (bxL (px F) min (i + 1))) ∧ w'.cell? ⟨P, 1, none⟩ = some (.int .i64 (bxL (py F) min (i + 1))) ∧ (Q < w'.heap.size ∧ ∀ i, w'.frozen? ⟨Q, i, none⟩ = false) ∧ w'.cell? ⟨Q, 0, none⟩ = some (.int .i64 (bxL (px F) max i)) ∧ w'.cell? ⟨Q, 1, none⟩ = some (.int .i64 (bxL (py F) max i)) ∧ Below wF.heap.size wF w') (by kernel_rfl) (by kernel_rfl) (by kernel_rfl) (of_decide_eq_true (by kernel_rfl)) (by first | (with_reducible assumption) | (exact hS) | (exact ⟨hS.1, hS.2.1, hS.2.2.1, hS.2.2.2.1, hS.2.2.2.2.1, hS.2.2.2.2.2.1, hS.2.2.2.2.2.2.1, hS.2.2.2.2.2.2.2.1, (by go_grown)⟩) | (exact ⟨(by first | (with_reducible assumption) | (simp [go_sem]; done) | ((simp only [go_sem]); (with_reducible assumption)) | ((refine keep_cell ?_ (by with_reducible assumption)); go_grown; done) | (simp [go_sem, *]; done)), (by first | (with_reducible assumption) | (simp [go_sem]; done) | ((simp only [go_sem]); (with_reducible assumption)) | ((refine keep_cell ?_ (by with_reducible assumption)); go_grown; done) | (simp [go_sem, *]; done)), (by first | (with_reducible assumption) | (simp [go_sem]; done) | (refine keep_fre ?_ ⟨by with_reducible assumption, by with_reducible assumption⟩; go_grown; done) | (simp [go_sem, *]; done)), (by first | (with_reducible assumption) | (simp [go_sem]; done) | ((simp only [go_sem]); (with_reducible assumption)) | ((refine keep_cell ?_ (by with_reducible assumption)); go_grown; done) | (simp [go_sem, *]; done)), (by first | (with_reducible assumption) | (simp [go_sem]; done) | ((simp only [go_sem]); (with_reducible assumption)) | ((refine keep_cell ?_ (by with_reducible assumption)); go_grown; done) | (simp [go_sem, *]; done)), (by first | (with_reducible assumption) | (simp [go_sem]; done) | (refine keep_fre ?_ ⟨by with_reducible assumption, by with_reducible assumption⟩; go_grown; done) | (simp [go_sem, *]; done)), (by first | (with_reducible assumption) | (simp [go_sem]; done) | ((simp only [go_sem]); (with_reducible assumption)) | ((refine keep_cell ?_ (by with_reducible assumption)); go_grown; done) | (simp [go_sem, *]; done)), (by first | (with_reducible assumption) | (simp [go_sem]; done) | ((simp only [go_sem]); (with_reducible assumption)) | ((refine keep_cell ?_ (by with_reducible assumption)); go_grown; done) | (simp [go_sem, *]; done)), (by go_grown)⟩)) ?_
      dsimp only [List.take, List.drop]
      repeat (first
        | ((refine wpDet_skip (by rfl) ?_); simp only [Act.put, List.setIfInBounds_toArray, List.set_cons_zero, List.set_cons_succ])
        | ((refine wpDet_val (v := ?_) (by rfl) (fun w hS => ?_) ?_); rotate_left; (focus ((try dsimp only at hS); go_simp; (try (with_reducible rfl)); done)); simp only [Act.put, List.setIfInBounds_toArray, List.set_cons_zero, List.set_cons_succ])
        | ((refine wpDet_call (v := ?_) (f := ?_) (args := ?_) (by rfl) (fun w => ?_) (fun w hS => ?_) ?_); rotate_left; rotate_left; rotate_left; (focus (go_simp; (constructor <;> (with_reducible rfl)); done)); (focus (first | (go_at_call 99; refine (most_c _ _ _).mono ?_; intro e w' h; refine ⟨h.1.trans ?_, h.2 ▸ hS⟩; with_reducible rfl))); simp only [Act.put, List.setIfInBounds_toArray, List.set_cons_zero, List.set_cons_succ]))
      refine wpDet_nil ?_
      intro wc hS
      have hT : wc.cell? ⟨gF, i * 2, none⟩ = some (.int .i64 (px F i)) ∧ wc.cell? ⟨gF, i * 2 + 1, none⟩ = some (.int .i64 (py F i)) ∧ (P < wc.heap.size ∧ ∀ i, wc.frozen? ⟨P, i, none⟩ = false) ∧ wc.cell? ⟨P, 0, none⟩ = some (.int .i64 (bxL (px F) min (i + 1))) ∧ wc.cell? ⟨P, 1, none⟩ = some (.int .i64 (bxL (py F) min (i + 1))) ∧ (Q < wc.heap.size ∧ ∀ i, wc.frozen? ⟨Q, i, none⟩ = false) ∧ wc.cell? ⟨Q, 0, none⟩ = some (.int .i64 (bxL (px F) max i)) ∧ wc.cell? ⟨Q, 1, none⟩ = some (.int .i64 (bxL (py F) max i)) ∧ Below wF.heap.size wF wc := hS
      clear hS
      have hS := hT
      obtain ⟨c0, c1, c2, c3, c4, c5, c6, c7, hB⟩ := hT
      have hzwc : wF.heap.size ≤ wc.heap.size := hB.size
      have hz1 : gF < wc.heap.size := World.block_lt_of_cell? wc _ (hS.1)
      have hz2 : P < wc.heap.size := hS.2.2.1.1
      have hz3 : Q < wc.heap.size := hS.2.2.2.2.2.1.1
      obtain ⟨fP, rP⟩ := c2
      obtain ⟨fQ, rQ⟩ := c5
      obtain ⟨d0, d1, d2, d3⟩ := box2_sets c6 c7 (.int .i64 (max (bxL (px F) max i) (px F i))) (.int .i64 (max (bxL (py F) max i) (py F i)))
      go_wp2
      generalize hW : World.setCell (World.setCell wc _ _) _ _ = wd
      have hS3 : wd.cell? ⟨gF, i * 2, none⟩ = some (.int .i64 (px F i)) ∧ wd.cell? ⟨gF, i * 2 + 1, none⟩ = some (.int .i64 (py F i)) ∧ (P < wd.heap.size ∧ ∀ i, wd.frozen? ⟨P, i, none⟩ = false) ∧ wd.cell? ⟨P, 0, none⟩ = some (.int .i64 (bxL (px F) min (i + 1))) ∧ wd.cell? ⟨P, 1, none⟩ = some (.int .i64 (bxL (py F) min (i + 1))) ∧ (Q < wd.heap.size ∧ ∀ i, wd.frozen? ⟨Q, i, none⟩ = false) ∧ wd.cell? ⟨Q, 0, none⟩ = some (.int .i64 (bxL (px F) max (i + 1))) ∧ wd.cell? ⟨Q, 1, none⟩ = some (.int .i64 (bxL (py F) max (i + 1))) ∧ Below wF.heap.size wF wd := by rw [← hW]; exact ⟨(box2_other hQg _ _ _).trans c0, (box2_other hQg _ _ _).trans c1, ⟨by simpa using fP, fun i => by simpa using rP i⟩, (box2_other hPQ _ _ _).trans c3, (box2_other hPQ _ _ _).trans c4, ⟨by simpa using fQ, fun i => by simpa using rQ i⟩, d2, d3, by go_grown⟩
      clear hS c0 c1 c3 c4 c6 c7 d0 d1 d2 d3 fP rP fQ rQ hW hB
      have hS := hS3
      clear hS3
      have hB := hS.2.2.2.2.2.2.2.2
      go_wp2
      go_roundw
      case rel => exact ⟨i + 1, by omega, by omega, by go_num, hS.2.2⟩
      case measure => simp [intOf]; omega
  · obtain ⟨W0, hW0⟩ : ∃ W, W = ((wF.alloc (.cells #[.int .i64 (px F 0), .int .i64 (py F 0)] 32)).alloc (.cells #[.int .i64 (px F 0), .int .i64 (py F 0)] 32)).drew := ⟨_, rfl⟩
    have hS : (wF.heap.size + 1 < W0.heap.size ∧ ∀ i, W0.frozen? ⟨wF.heap.size + 1, i, none⟩ = false) ∧ W0.cell? ⟨wF.heap.size + 1, 0, none⟩ = some (.int .i64 (bxL (px F) min 0)) ∧ W0.cell? ⟨wF.heap.size + 1, 1, none⟩ = some (.int .i64 (bxL (py F) min 0)) ∧ (wF.heap.size < W0.heap.size ∧ ∀ i, W0.frozen? ⟨wF.heap.size, i, none⟩ = false) ∧ W0.cell? ⟨wF.heap.size, 0, none⟩ = some (.int .i64 (bxL (px F) max 0)) ∧ W0.cell? ⟨wF.heap.size, 1, none⟩ = some (.int .i64 (bxL (py F) max 0)) ∧ Below wF.heap.size wF W0 := by
      rw [hW0]
      simp only [bxL]
      exact ⟨by simp [go_sem], by simp [go_sem], by simp [go_sem], by simp [go_sem], by simp [go_sem], by simp [go_sem], by go_grown⟩
    rw [← hW0]
    clear hW0
    obtain ⟨Q, hQ9⟩ : ∃ q, wF.heap.size = q := ⟨_, rfl⟩
    obtain ⟨P, hP9⟩ : ∃ q, wF.heap.size + 1 = q := ⟨_, rfl⟩
    have hPF : wF.heap.size ≤ P := by omega
    have hQF : wF.heap.size ≤ Q := by omega
    have hPQ : P ≠ Q := by omega
    have hPg : gF ≠ P := by omega
    have hQg : gF ≠ Q := by omega
    have hS1 : (P < W0.heap.size ∧ ∀ i, W0.frozen? ⟨P, i, none⟩ = false) ∧ W0.cell? ⟨P, 0, none⟩ = some (.int .i64 (bxL (px F) min 0)) ∧ W0.cell? ⟨P, 1, none⟩ = some (.int .i64 (bxL (py F) min 0)) ∧ (Q < W0.heap.size ∧ ∀ i, W0.frozen? ⟨Q, i, none⟩ = false) ∧ W0.cell? ⟨Q, 0, none⟩ = some (.int .i64 (bxL (px F) max 0)) ∧ W0.cell? ⟨Q, 1, none⟩ = some (.int .i64 (bxL (py F) max 0)) ∧ Below wF.heap.size wF W0 := by rw [← hP9, ← hQ9]; exact hS
    rw [hP9, hQ9]
    clear hS
    have hS := hS1
    clear hS1 hP9 hQ9
    have e1 : ∀ (f : Nat → Int), bxL f min 1 = bxL f min 0 := fun f => by simp only [bxL]; omega
    have e2 : ∀ (f : Nat → Int), bxL f max 1 = bxL f max 0 := fun f => by simp only [bxL]; omega
    have hS1 : (P < W0.heap.size ∧ ∀ i, W0.frozen? ⟨P, i, none⟩ = false) ∧ W0.cell? ⟨P, 0, none⟩ = some (.int .i64 (bxL (px F) min 1)) ∧ W0.cell? ⟨P, 1, none⟩ = some (.int .i64 (bxL (py F) min 1)) ∧ (Q < W0.heap.size ∧ ∀ i, W0.frozen? ⟨Q, i, none⟩ = false) ∧ W0.cell? ⟨Q, 0, none⟩ = some (.int .i64 (bxL (px F) max 1)) ∧ W0.cell? ⟨Q, 1, none⟩ = some (.int .i64 (bxL (py F) max 1)) ∧ Below wF.heap.size wF W0 := by rw [e1, e1, e2, e2]; exact hS
    clear hS e1 e2
    have hS := hS1
    clear hS1
    go_wp2
    go_loopw [12] (fun iv wr => ∃ i : Nat, 1 ≤ i ∧ i ≤ F.length ∧ iv = .int .i64 i ∧ ((P < wr.heap.size ∧ ∀ i, wr.frozen? ⟨P, i, none⟩ = false) ∧ wr.cell? ⟨P, 0, none⟩ = some (.int .i64 (bxL (px F) min i)) ∧ wr.cell? ⟨P, 1, none⟩ = some (.int .i64 (bxL (py F) min i)) ∧ (Q < wr.heap.size ∧ ∀ i, wr.frozen? ⟨Q, i, none⟩ = false) ∧ wr.cell? ⟨Q, 0, none⟩ = some (.int .i64 (bxL (px F) max i)) ∧ wr.cell? ⟨Q, 1, none⟩ = some (.int .i64 (bxL (py F) max i)) ∧ Below wF.heap.size wF wr)) (fun iv _ => F.length - (intOf iv).toNat)
    case atStart => exact ⟨1, by omega, by omega, rfl, hS⟩
    case round =>
      obtain ⟨i, hi1, hi, rfl, hS⟩ := hrel
      by_cases hlt : i < F.length
      rotate_left
      · obtain rfl : i = F.length := by omega
        obtain ⟨⟨f0, r0⟩, p0, p1, ⟨f1, r1⟩, q0, q1, hB⟩ := hS
        obtain ⟨⟨s1, s2⟩, z0, z1, ⟨s3, s4⟩, z2, z3, hB0⟩ := HS0.out
        have y0 : wr.cell? ⟨w.heap.size, 0, none⟩ = some (.int .i64 0) := (hB.cell (p := ⟨w.heap.size, 0, none⟩) (by show w.heap.size < _; omega)).trans z0
        have y1 : wr.cell? ⟨w.heap.size, 1, none⟩ = some (.int .i64 0) := (hB.cell (p := ⟨w.heap.size, 1, none⟩) (by show w.heap.size < _; omega)).trans z1
        have y2 : wr.cell? ⟨w.heap.size + 1, 0, none⟩ = some (.int .i64 0) := (hB.cell (p := ⟨w.heap.size + 1, 0, none⟩) (by show w.heap.size + 1 < _; omega)).trans z2
        have y3 : wr.cell? ⟨w.heap.size + 1, 1, none⟩ = some (.int .i64 0) := (hB.cell (p := ⟨w.heap.size + 1, 1, none⟩) (by show w.heap.size + 1 < _; omega)).trans z3
        have sf0 : ∀ i, wr.frozen? ⟨w.heap.size, i, none⟩ = false := fun i => (hB.frozen (p := ⟨w.heap.size, i, none⟩) (by show w.heap.size < _; omega)).trans (s2 i)
        have sf1 : ∀ i, wr.frozen? ⟨w.heap.size + 1, i, none⟩ = false := fun i => (hB.frozen (p := ⟨w.heap.size + 1, i, none⟩) (by show w.heap.size + 1 < _; omega)).trans (s4 i)
        have hBw : Below w.heap.size w wr := below_via hB0 hB
        obtain ⟨d0, d1, d2, d3, d4, d5, d6⟩ := boxes_sets (w := wr.drew) hne01 (by simpa using y0) (by simpa using y1) (by simpa using y2) (by simpa using y3) (.int .i64 (bxL (px F) min F.length)) (.int .i64 (bxL (py F) min F.length)) (.int .i64 (bxL (px F) max F.length)) (.int .i64 (bxL (py F) max F.length))
        obtain ⟨k0, k1, k2, k3, k4, k5, k6⟩ := boxes_sets hne01 y0 y1 y2 y3 (.int .i64 (bxL (px F) min F.length)) (.int .i64 (bxL (py F) min F.length)) (.int .i64 (bxL (px F) max F.length)) (.int .i64 (bxL (py F) max F.length))
        clear z0 z1 z2 z3 s1 s2 s3 s4 hB0
        go_wp2
        go_region
        all_goals
          go_wp2
          refine bodyPost_ret (by simp [results, Try.results41, go_sem, d3, d4, d5, d6, k3, k4, k5, k6]; try rfl) rfl ?_
          exact ⟨ret_eq (by simp [HVX.out, HBX.out]), by go_grown⟩
      have hrow := own_below HOWN.out (hS.2.2.2.2.2.2)
      obtain ⟨ux, uy⟩ := own_pt hrow hlt
      clear hrow
      have hS2 : wr.cell? ⟨gF, i * 2, none⟩ = some (.int .i64 (px F i)) ∧ wr.cell? ⟨gF, i * 2 + 1, none⟩ = some (.int .i64 (py F i)) ∧ (P < wr.heap.size ∧ ∀ i, wr.frozen? ⟨P, i, none⟩ = false) ∧ wr.cell? ⟨P, 0, none⟩ = some (.int .i64 (bxL (px F) min i)) ∧ wr.cell? ⟨P, 1, none⟩ = some (.int .i64 (bxL (py F) min i)) ∧ (Q < wr.heap.size ∧ ∀ i, wr.frozen? ⟨Q, i, none⟩ = false) ∧ wr.cell? ⟨Q, 0, none⟩ = some (.int .i64 (bxL (px F) max i)) ∧ wr.cell? ⟨Q, 1, none⟩ = some (.int .i64 (bxL (py F) max i)) ∧ Below wF.heap.size wF wr := ⟨ux, uy, hS⟩
      clear hS ux uy
      have hS := hS2
      clear hS2
      have hB := hS.2.2.2.2.2.2.2.2
      go_wp2
      refine wp_region_tail 17 (fun w' => w'.cell? ⟨gF, i * 2, none⟩ = some (.int .i64 (px F i)) ∧ w'.cell? ⟨gF, i * 2 + 1, none⟩ = some (.int .i64 (py F i)) ∧ (P < w'.heap.size ∧ ∀ i, w'.frozen? ⟨P, i, none⟩ = false) ∧ w'.cell? ⟨P, 0, none⟩ = some (.int .i64 (bxL (px F) min i)) ∧ w'.cell? ⟨P, 1, none⟩ = some (.int .i64 (bxL (py F) min i)) ∧ (Q < w'.heap.size ∧ ∀ i, w'.frozen? ⟨Q, i, none⟩ = false) ∧ w'.cell? ⟨Q, 0, none⟩ = some (.int .i64 (bxL (px F) max i)) ∧ w'.cell? ⟨Q, 1, none⟩ = some (.int .i64 (bxL (py F) max i)) ∧ Below wF.heap.size wF w') (by kernel_rfl) (by kernel_rfl) (by kernel_rfl) (of_decide_eq_true (by kernel_rfl)) (by first | (with_reducible assumption) | (exact hS) | (exact ⟨hS.1, hS.2.1, hS.2.2.1, hS.2.2.2.1, hS.2.2.2.2.1, hS.2.2.2.2.2.1, hS.2.2.2.2.2.2.1, hS.2.2.2.2.2.2.2.1, (by go_grown)⟩) | (exact ⟨(by first | (with_reducible assumption) | (simp [go_sem]; done) | ((simp only [go_sem]); (with_reducible assumption)) | ((refine keep_cell ?_ (by with_reducible assumption)); go_grown; done) | (simp [go_sem, *]; done)), (by first | (with_reducible assumption) | (simp [go_sem]; done) | ((simp only [go_sem]); (with_reducible assumption)) | ((refine keep_cell ?_ (by with_reducible assumption)); go_grown; done) | (simp [go_sem, *]; done)), (by first | (with_reducible assumption) | (simp [go_sem]; done) | (refine keep_fre ?_ ⟨by with_reducible assumption, by with_reducible assumption⟩; go_grown; done) | (simp [go_sem, *]; done)), (by first | (with_reducible assumption) | (simp [go_sem]; done) | ((simp only [go_sem]); (with_reducible assumption)) | ((refine keep_cell ?_ (by with_reducible assumption)); go_grown; done) | (simp [go_sem, *]; done)), (by first | (with_reducible assumption) | (simp [go_sem]; done) | ((simp only [go_sem]); (with_reducible assumption)) | ((refine keep_cell ?_ (by with_reducible assumption)); go_grown; done) | (simp [go_sem, *]; done)), (by first | (with_reducible assumption) | (simp [go_sem]; done) | (refine keep_fre ?_ ⟨by with_reducible assumption, by with_reducible assumption⟩; go_grown; done) | (simp [go_sem, *]; done)), (by first | (with_reducible assumption) | (simp [go_sem]; done) | ((simp only [go_sem]); (with_reducible assumption)) | ((refine keep_cell ?_ (by with_reducible assumption)); go_grown; done) | (simp [go_sem, *]; done)), (by first | (with_reducible assumption) | (simp [go_sem]; done) | ((simp only [go_sem]); (with_reducible assumption)) | ((refine keep_cell ?_ (by with_reducible assumption)); go_grown; done) | (simp [go_sem, *]; done)), (by go_grown)⟩)) ?_
      dsimp only [List.take, List.drop]
      repeat (first
        | ((refine wpDet_skip (by rfl) ?_); simp only [Act.put, List.setIfInBounds_toArray, List.set_cons_zero, List.set_cons_succ])
        | ((refine wpDet_val (v := ?_) (by rfl) (fun w hS => ?_) ?_); rotate_left; (focus ((try dsimp only at hS); go_simp; (try (with_reducible rfl)); done)); simp only [Act.put, List.setIfInBounds_toArray, List.set_cons_zero, List.set_cons_succ])
        | ((refine wpDet_call (v := ?_) (f := ?_) (args := ?_) (by rfl) (fun w => ?_) (fun w hS => ?_) ?_); rotate_left; rotate_left; rotate_left; (focus (go_simp; (constructor <;> (with_reducible rfl)); done)); (focus (first | (go_at_call 98; refine (least1_c _ _ _).mono ?_; intro e w' h; refine ⟨h.1.trans ?_, h.2 ▸ hS⟩; with_reducible rfl))); simp only [Act.put, List.setIfInBounds_toArray, List.set_cons_zero, List.set_cons_succ]))
      refine wpDet_nil ?_
      intro wa hS
      have hT : wa.cell? ⟨gF, i * 2, none⟩ = some (.int .i64 (px F i)) ∧ wa.cell? ⟨gF, i * 2 + 1, none⟩ = some (.int .i64 (py F i)) ∧ (P < wa.heap.size ∧ ∀ i, wa.frozen? ⟨P, i, none⟩ = false) ∧ wa.cell? ⟨P, 0, none⟩ = some (.int .i64 (bxL (px F) min i)) ∧ wa.cell? ⟨P, 1, none⟩ = some (.int .i64 (bxL (py F) min i)) ∧ (Q < wa.heap.size ∧ ∀ i, wa.frozen? ⟨Q, i, none⟩ = false) ∧ wa.cell? ⟨Q, 0, none⟩ = some (.int .i64 (bxL (px F) max i)) ∧ wa.cell? ⟨Q, 1, none⟩ = some (.int .i64 (bxL (py F) max i)) ∧ Below wF.heap.size wF wa := hS
      clear hS
      have hS := hT
      obtain ⟨c0, c1, c2, c3, c4, c5, c6, c7, hB⟩ := hT
      have hzw : wF.heap.size ≤ wa.heap.size := hB.size
      have hz1 : gF < wa.heap.size := World.block_lt_of_cell? wa _ (hS.1)
      have hz2 : P < wa.heap.size := hS.2.2.1.1
      have hz3 : Q < wa.heap.size := hS.2.2.2.2.2.1.1
      obtain ⟨fP, rP⟩ := c2
      obtain ⟨fQ, rQ⟩ := c5
      obtain ⟨d0, d1, d2, d3⟩ := box2_sets c3 c4 (.int .i64 (min (bxL (px F) min i) (px F i))) (.int .i64 (min (bxL (py F) min i) (py F i)))
      go_wp2
      generalize hW : World.setCell (World.setCell wa _ _) _ _ = wb
      have hS3 : wb.cell? ⟨gF, i * 2, none⟩ = some (.int .i64 (px F i)) ∧ wb.cell? ⟨gF, i * 2 + 1, none⟩ = some (.int .i64 (py F i)) ∧ (P < wb.heap.size ∧ ∀ i, wb.frozen? ⟨P, i, none⟩ = false) ∧ wb.cell? ⟨P, 0, none⟩ = some (.int .i64 (bxL (px F) min (i + 1))) ∧ wb.cell? ⟨P, 1, none⟩ = some (.int .i64 (bxL (py F) min (i + 1))) ∧ (Q < wb.heap.size ∧ ∀ i, wb.frozen? ⟨Q, i, none⟩ = false) ∧ wb.cell? ⟨Q, 0, none⟩ = some (.int .i64 (bxL (px F) max i)) ∧ wb.cell? ⟨Q, 1, none⟩ = some (.int .i64 (bxL (py F) max i)) ∧ Below wF.heap.size wF wb := by rw [← hW]; exact ⟨(box2_other hPg _ _ _).trans c0, (box2_other hPg _ _ _).trans c1, ⟨by simpa using fP, fun i => by simpa using rP i⟩, d2, d3, ⟨by simpa using fQ, fun i => by simpa using rQ i⟩, (box2_other hPQ.symm _ _ _).trans c6, (box2_other hPQ.symm _ _ _).trans c7, by go_grown⟩
      clear hS c0 c1 c3 c4 c6 c7 d0 d1 d2 d3 fP rP fQ rQ hW hB
      have hS := hS3
      clear hS3
      have hB := hS.2.2.2.2.2.2.2.2
      refine wp_region_tail 17 (fun w' => w'.cell? ⟨gF, i * 2, none⟩ = some (.int .i64 (px F i)) ∧ w'.cell? ⟨gF, i * 2 + 1, none⟩ = some (.int .i64 (py F i)) ∧ (P < w'.heap.size ∧ ∀ i, w'.frozen? ⟨P, i, none⟩ = false) ∧ w'.cell? ⟨P, 0, none⟩ = some (.int .i64 (bxL (px F) min (i + 1))) ∧ w'.cell? ⟨P, 1, none⟩ = some (.int .i64 (bxL (py F) min (i + 1))) ∧ (Q < w'.heap.size ∧ ∀ i, w'.frozen? ⟨Q, i, none⟩ = false) ∧ w'.cell? ⟨Q, 0, none⟩ = some (.int .i64 (bxL (px F) max i)) ∧ w'.cell? ⟨Q, 1, none⟩ = some (.int .i64 (bxL (py F) max i)) ∧ Below wF.heap.size wF w') (by kernel_rfl) (by kernel_rfl) (by kernel_rfl) (of_decide_eq_true (by kernel_rfl)) (by first | (with_reducible assumption) | (exact hS) | (exact ⟨hS.1, hS.2.1, hS.2.2.1, hS.2.2.2.1, hS.2.2.2.2.1, hS.2.2.2.2.2.1, hS.2.2.2.2.2.2.1, hS.2.2.2.2.2.2.2.1, (by go_grown)⟩) | (exact ⟨(by first | (with_reducible assumption) | (simp [go_sem]; done) | ((simp only [go_sem]); (with_reducible assumption)) | ((refine keep_cell ?_ (by with_reducible assumption)); go_grown; done) | (simp [go_sem, *]; done)), (by first | (with_reducible assumption) | (simp [go_sem]; done) | ((simp only [go_sem]); (with_reducible assumption)) | ((refine keep_cell ?_ (by with_reducible assumption)); go_grown; done) | (simp [go_sem, *]; done)), (by first | (with_reducible assumption) | (simp [go_sem]; done) | (refine keep_fre ?_ ⟨by with_reducible assumption, by with_reducible assumption⟩; go_grown; done) | (simp [go_sem, *]; done)), (by first | (with_reducible assumption) | (simp [go_sem]; done) | ((simp only [go_sem]); (with_reducible assumption)) | ((refine keep_cell ?_ (by with_reducible assumption)); go_grown; done) | (simp [go_sem, *]; done)), (by first | (with_reducible assumption) | (simp [go_sem]; done) | ((simp only [go_sem]); (with_reducible assumption)) | ((refine keep_cell ?_ (by with_reducible assumption)); go_grown; done) | (simp [go_sem, *]; done)), (by first | (with_reducible assumption) | (simp [go_sem]; done) | (refine keep_fre ?_ ⟨by with_reducible assumption, by with_reducible assumption⟩; go_grown; done) | (simp [go_sem, *]; done)), (by first | (with_reducible assumption) | (simp [go_sem]; done) | ((simp only [go_sem]); (with_reducible assumption)) | ((refine keep_cell ?_ (by with_reducible assumption)); go_grown; done) | (simp [go_sem, *]; done)), (by first | (with_reducible assumption) | (simp [go_sem]; done) | ((simp only [go_sem]); (with_reducible assumption)) | ((refine keep_cell ?_ (by with_reducible assumption)); go_grown; done) | (simp [go_sem, *]; done)), (by go_grown)⟩)) ?_
      dsimp only [List.take, List.drop]
      repeat (first
        | ((refine wpDet_skip (by rfl) ?_); simp only [Act.put, List.setIfInBounds_toArray, List.set_cons_zero, List.set_cons_succ])
        | ((refine wpDet_val (v := ?_) (by rfl) (fun w hS => ?_) ?_); rotate_left; (focus ((try dsimp only at hS); go_simp; (try (with_reducible rfl)); done)); simp only [Act.put, List.setIfInBounds_toArray, List.set_cons_zero, List.set_cons_succ])
        | ((refine wpDet_call (v := ?_) (f := ?_) (args := ?_) (by rfl) (fun w => ?_) (fun w hS => ?_) ?_); rotate_left; rotate_left; rotate_left; (focus (go_simp; (constructor <;> (with_reducible rfl)); done)); (focus (first | (go_at_call 99; refine (most_c _ _ _).mono ?_; intro e w' h; refine ⟨h.1.trans ?_, h.2 ▸ hS⟩; with_reducible rfl))); simp only [Act.put, List.setIfInBounds_toArray, List.set_cons_zero, List.set_cons_succ]))
      refine wpDet_nil ?_
      intro wc hS
      have hT : wc.cell? ⟨gF, i * 2, none⟩ = some (.int .i64 (px F i)) ∧ wc.cell? ⟨gF, i * 2 + 1, none⟩ = some (.int .i64 (py F i)) ∧ (P < wc.heap.size ∧ ∀ i, wc.frozen? ⟨P, i, none⟩ = false) ∧ wc.cell? ⟨P, 0, none⟩ = some (.int .i64 (bxL (px F) min (i + 1))) ∧ wc.cell? ⟨P, 1, none⟩ = some (.int .i64 (bxL (py F) min (i + 1))) ∧ (Q < wc.heap.size ∧ ∀ i, wc.frozen? ⟨Q, i, none⟩ = false) ∧ wc.cell? ⟨Q, 0, none⟩ = some (.int .i64 (bxL (px F) max i)) ∧ wc.cell? ⟨Q, 1, none⟩ = some (.int .i64 (bxL (py F) max i)) ∧ Below wF.heap.size wF wc := hS
      clear hS
      have hS := hT
      obtain ⟨c0, c1, c2, c3, c4, c5, c6, c7, hB⟩ := hT
      have hzwc : wF.heap.size ≤ wc.heap.size := hB.size
      have hz1 : gF < wc.heap.size := World.block_lt_of_cell? wc _ (hS.1)
      have hz2 : P < wc.heap.size := hS.2.2.1.1
      have hz3 : Q < wc.heap.size := hS.2.2.2.2.2.1.1
      obtain ⟨fP, rP⟩ := c2
      obtain ⟨fQ, rQ⟩ := c5
      obtain ⟨d0, d1, d2, d3⟩ := box2_sets c6 c7 (.int .i64 (max (bxL (px F) max i) (px F i))) (.int .i64 (max (bxL (py F) max i) (py F i)))
      go_wp2
      generalize hW : World.setCell (World.setCell wc _ _) _ _ = wd
      have hS3 : wd.cell? ⟨gF, i * 2, none⟩ = some (.int .i64 (px F i)) ∧ wd.cell? ⟨gF, i * 2 + 1, none⟩ = some (.int .i64 (py F i)) ∧ (P < wd.heap.size ∧ ∀ i, wd.frozen? ⟨P, i, none⟩ = false) ∧ wd.cell? ⟨P, 0, none⟩ = some (.int .i64 (bxL (px F) min (i + 1))) ∧ wd.cell? ⟨P, 1, none⟩ = some (.int .i64 (bxL (py F) min (i + 1))) ∧ (Q < wd.heap.size ∧ ∀ i, wd.frozen? ⟨Q, i, none⟩ = false) ∧ wd.cell? ⟨Q, 0, none⟩ = some (.int .i64 (bxL (px F) max (i + 1))) ∧ wd.cell? ⟨Q, 1, none⟩ = some (.int .i64 (bxL (py F) max (i + 1))) ∧ Below wF.heap.size wF wd := by rw [← hW]; exact ⟨(box2_other hQg _ _ _).trans c0, (box2_other hQg _ _ _).trans c1, ⟨by simpa using fP, fun i => by simpa using rP i⟩, (box2_other hPQ _ _ _).trans c3, (box2_other hPQ _ _ _).trans c4, ⟨by simpa using fQ, fun i => by simpa using rQ i⟩, d2, d3, by go_grown⟩
      clear hS c0 c1 c3 c4 c6 c7 d0 d1 d2 d3 fP rP fQ rQ hW hB
      have hS := hS3
      clear hS3
      have hB := hS.2.2.2.2.2.2.2.2
      go_wp2
      go_roundw
      case rel => exact ⟨i + 1, by omega, by omega, by go_num, hS.2.2⟩
      case measure => simp [intOf]; omega
end Go.Proofs.Ytnocgcfepkdjeaa
