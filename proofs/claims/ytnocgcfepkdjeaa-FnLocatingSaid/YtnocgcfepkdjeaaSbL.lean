/- Contracts: the box of fitting points, the program. -/
import Derived.Test.YtnocgcfepkdjeaaSbK
namespace Go.Proofs.Ytnocgcfepkdjeaa
open Go.RowKit

set_option maxRecDepth 100000 in
set_option maxHeartbeats 16000000 in
theorem Box_c (A : Option Addr) (c : Nat) (l : List Pt) (A2 : Option Addr) (c2 : Nat) (a : List Int) (tol : Int) (w : World) (h1 : Hid (Reads w w.heap.size 2 A l.length (flat l))) (h2 : Hid (Reads w w.heap.size 1 A2 a.length (ints a))) (b1 : l.length ≤ 4000000) (b2 : a.length ≤ 4000000) (hc : l.length ≤ c)  : Calls Try.prog 42 #[.slice A l.length c, .slice A2 a.length c2, .int .i64 tol] w (Gives w (.tuple #[.agg #[.int .i64 (boxV l a tol).1.1, .int .i64 (boxV l a tol).1.2], .agg #[.int .i64 (boxV l a tol).2.1, .int .i64 (boxV l a tol).2.2], .bool (boxK l a tol)])) := by
  rcases kf : fitK l a tol with _ | _
  · have HK := hide kf
    have HVF := hide (show fitV l a tol = [] from by unfold fitV; rw [kf]; rfl)
    have HB := hide (show boxK l a tol = false from by simp [boxK, kf])
    have HV := hide (show boxV l a tol = ((0, 0), (0, 0)) from by unfold boxV; rw [HB.out]; rfl)
    have hne01 : ¬ w.heap.size = w.heap.size + 1 := by omega
    go_enter Try.func42, Try.ntmps42
    go_wp2_with (first | (go_at_call 44; refine (Fitting_c _ A c l A2 c2 a tol (hide (reads_below h1.out (by go_grown))) b1 (hide (reads_below h2.out (by go_grown))) b2 hc).mono ?_; rw [HVF.out, HK.out]; rintro e wF ⟨B, d, rfl, hown, hb⟩; have hT : (w.heap.size < wF.heap.size ∧ ∀ i, wF.frozen? ⟨w.heap.size, i, none⟩ = false) ∧ wF.cell? ⟨w.heap.size, 0, none⟩ = some (.int .i64 0) ∧ wF.cell? ⟨w.heap.size, 1, none⟩ = some (.int .i64 0) ∧ (w.heap.size + 1 < wF.heap.size ∧ ∀ i, wF.frozen? ⟨w.heap.size + 1, i, none⟩ = false) ∧ wF.cell? ⟨w.heap.size + 1, 0, none⟩ = some (.int .i64 0) ∧ wF.cell? ⟨w.heap.size + 1, 1, none⟩ = some (.int .i64 0) ∧ Below w.heap.size w wF := (fun W h hb => ⟨keep_fre (hb) h.1, keep_cell (hb) h.2.1, keep_cell (hb) h.2.2.1, keep_fre (hb) h.2.2.2.1, keep_cell (hb) h.2.2.2.2.1, keep_cell (hb) h.2.2.2.2.2.1, below_via h.2.2.2.2.2.2 (hb)⟩ : ∀ W : World, ((w.heap.size < W.heap.size ∧ ∀ i, W.frozen? ⟨w.heap.size, i, none⟩ = false) ∧ W.cell? ⟨w.heap.size, 0, none⟩ = some (.int .i64 0) ∧ W.cell? ⟨w.heap.size, 1, none⟩ = some (.int .i64 0) ∧ (w.heap.size + 1 < W.heap.size ∧ ∀ i, W.frozen? ⟨w.heap.size + 1, i, none⟩ = false) ∧ W.cell? ⟨w.heap.size + 1, 0, none⟩ = some (.int .i64 0) ∧ W.cell? ⟨w.heap.size + 1, 1, none⟩ = some (.int .i64 0) ∧ Below w.heap.size w W) → Below W.heap.size W wF → ((w.heap.size < wF.heap.size ∧ ∀ i, wF.frozen? ⟨w.heap.size, i, none⟩ = false) ∧ wF.cell? ⟨w.heap.size, 0, none⟩ = some (.int .i64 0) ∧ wF.cell? ⟨w.heap.size, 1, none⟩ = some (.int .i64 0) ∧ (w.heap.size + 1 < wF.heap.size ∧ ∀ i, wF.frozen? ⟨w.heap.size + 1, i, none⟩ = false) ∧ wF.cell? ⟨w.heap.size + 1, 0, none⟩ = some (.int .i64 0) ∧ wF.cell? ⟨w.heap.size + 1, 1, none⟩ = some (.int .i64 0) ∧ Below w.heap.size w wF)) _ (by first | (with_reducible assumption) | (exact hS) | (exact ⟨hS.1, hS.2.1, hS.2.2.1, hS.2.2.2.1, hS.2.2.2.2.1, hS.2.2.2.2.2.1, (by go_grown)⟩) | (exact ⟨(by first | (with_reducible assumption) | (simp [go_sem]; done) | (refine keep_fre ?_ ⟨by with_reducible assumption, by with_reducible assumption⟩; go_grown; done) | (simp [go_sem, *]; done)), (by first | (with_reducible assumption) | (simp [go_sem]; done) | ((simp only [go_sem]); (with_reducible assumption)) | ((refine keep_cell ?_ (by with_reducible assumption)); go_grown; done) | (simp [go_sem, *]; done)), (by first | (with_reducible assumption) | (simp [go_sem]; done) | ((simp only [go_sem]); (with_reducible assumption)) | ((refine keep_cell ?_ (by with_reducible assumption)); go_grown; done) | (simp [go_sem, *]; done)), (by first | (with_reducible assumption) | (simp [go_sem]; done) | (refine keep_fre ?_ ⟨by with_reducible assumption, by with_reducible assumption⟩; go_grown; done) | (simp [go_sem, *]; done)), (by first | (with_reducible assumption) | (simp [go_sem]; done) | ((simp only [go_sem]); (with_reducible assumption)) | ((refine keep_cell ?_ (by with_reducible assumption)); go_grown; done) | (simp [go_sem, *]; done)), (by first | (with_reducible assumption) | (simp [go_sem]; done) | ((simp only [go_sem]); (with_reducible assumption)) | ((refine keep_cell ?_ (by with_reducible assumption)); go_grown; done) | (simp [go_sem, *]; done)), (by go_grown)⟩)) hb; (try clear hS); have hS := hT; clear hT; have hB := hS.2.2.2.2.2.2; have hzw : w.heap.size ≤ wF.heap.size := hB.size; have hz1 : w.heap.size < wF.heap.size := hS.1.1; have hz2 : w.heap.size + 1 < wF.heap.size := hS.2.2.2.1.1; have HOWN := hide hown; clear hown; have hS2 := hS; obtain ⟨⟨f1, f0⟩, c0, c1, ⟨f3, f2⟩, c2, c3, hB9⟩ := hS2; obtain ⟨d0, d1, d2, d3, d4, d5, d6⟩ := boxes_sets hne01 c0 c1 c2 c3 (.int .i64 0) (.int .i64 0) (.int .i64 0) (.int .i64 0); clear hb))
    refine bodyPost_ret (by simp [results, Try.results42, go_sem, d3, d4, d5, d6]; try rfl) rfl ?_
    exact ⟨ret_eq (by simp [HV.out, HB.out]), by go_grown⟩
  have HK := hide kf
  clear kf
  obtain ⟨F, hF⟩ : ∃ F, fitN l a tol 961 = F := ⟨_, rfl⟩
  have hFl : F.length ≤ 961 := by rw [← hF]; exact fitN_len _ _ _ _
  have HF := hide hF
  have HVF := hide (show fitV l a tol = F from by unfold fitV; rw [if_pos HK.out]; exact hF)
  clear hF
  have hne01 : ¬ w.heap.size = w.heap.size + 1 := by omega
  by_cases hz : F.length = 0
  · have HB := hide (show boxK l a tol = false from by simp [boxK, HF.out, hz])
    have HV := hide (show boxV l a tol = ((0, 0), (0, 0)) from by unfold boxV; rw [HB.out]; rfl)
    have hzb : ((F.length : Int) == 0) = true := beq_iff_eq.2 (by omega)
    clear hz
    go_enter Try.func42, Try.ntmps42
    go_wp2_with (first | (go_at_call 44; refine (Fitting_c _ A c l A2 c2 a tol (hide (reads_below h1.out (by go_grown))) b1 (hide (reads_below h2.out (by go_grown))) b2 hc).mono ?_; rw [HVF.out, HK.out]; rintro e wF ⟨B, d, rfl, hown, hb⟩; have hT : (w.heap.size < wF.heap.size ∧ ∀ i, wF.frozen? ⟨w.heap.size, i, none⟩ = false) ∧ wF.cell? ⟨w.heap.size, 0, none⟩ = some (.int .i64 0) ∧ wF.cell? ⟨w.heap.size, 1, none⟩ = some (.int .i64 0) ∧ (w.heap.size + 1 < wF.heap.size ∧ ∀ i, wF.frozen? ⟨w.heap.size + 1, i, none⟩ = false) ∧ wF.cell? ⟨w.heap.size + 1, 0, none⟩ = some (.int .i64 0) ∧ wF.cell? ⟨w.heap.size + 1, 1, none⟩ = some (.int .i64 0) ∧ Below w.heap.size w wF := (fun W h hb => ⟨keep_fre (hb) h.1, keep_cell (hb) h.2.1, keep_cell (hb) h.2.2.1, keep_fre (hb) h.2.2.2.1, keep_cell (hb) h.2.2.2.2.1, keep_cell (hb) h.2.2.2.2.2.1, below_via h.2.2.2.2.2.2 (hb)⟩ : ∀ W : World, ((w.heap.size < W.heap.size ∧ ∀ i, W.frozen? ⟨w.heap.size, i, none⟩ = false) ∧ W.cell? ⟨w.heap.size, 0, none⟩ = some (.int .i64 0) ∧ W.cell? ⟨w.heap.size, 1, none⟩ = some (.int .i64 0) ∧ (w.heap.size + 1 < W.heap.size ∧ ∀ i, W.frozen? ⟨w.heap.size + 1, i, none⟩ = false) ∧ W.cell? ⟨w.heap.size + 1, 0, none⟩ = some (.int .i64 0) ∧ W.cell? ⟨w.heap.size + 1, 1, none⟩ = some (.int .i64 0) ∧ Below w.heap.size w W) → Below W.heap.size W wF → ((w.heap.size < wF.heap.size ∧ ∀ i, wF.frozen? ⟨w.heap.size, i, none⟩ = false) ∧ wF.cell? ⟨w.heap.size, 0, none⟩ = some (.int .i64 0) ∧ wF.cell? ⟨w.heap.size, 1, none⟩ = some (.int .i64 0) ∧ (w.heap.size + 1 < wF.heap.size ∧ ∀ i, wF.frozen? ⟨w.heap.size + 1, i, none⟩ = false) ∧ wF.cell? ⟨w.heap.size + 1, 0, none⟩ = some (.int .i64 0) ∧ wF.cell? ⟨w.heap.size + 1, 1, none⟩ = some (.int .i64 0) ∧ Below w.heap.size w wF)) _ (by first | (with_reducible assumption) | (exact hS) | (exact ⟨hS.1, hS.2.1, hS.2.2.1, hS.2.2.2.1, hS.2.2.2.2.1, hS.2.2.2.2.2.1, (by go_grown)⟩) | (exact ⟨(by first | (with_reducible assumption) | (simp [go_sem]; done) | (refine keep_fre ?_ ⟨by with_reducible assumption, by with_reducible assumption⟩; go_grown; done) | (simp [go_sem, *]; done)), (by first | (with_reducible assumption) | (simp [go_sem]; done) | ((simp only [go_sem]); (with_reducible assumption)) | ((refine keep_cell ?_ (by with_reducible assumption)); go_grown; done) | (simp [go_sem, *]; done)), (by first | (with_reducible assumption) | (simp [go_sem]; done) | ((simp only [go_sem]); (with_reducible assumption)) | ((refine keep_cell ?_ (by with_reducible assumption)); go_grown; done) | (simp [go_sem, *]; done)), (by first | (with_reducible assumption) | (simp [go_sem]; done) | (refine keep_fre ?_ ⟨by with_reducible assumption, by with_reducible assumption⟩; go_grown; done) | (simp [go_sem, *]; done)), (by first | (with_reducible assumption) | (simp [go_sem]; done) | ((simp only [go_sem]); (with_reducible assumption)) | ((refine keep_cell ?_ (by with_reducible assumption)); go_grown; done) | (simp [go_sem, *]; done)), (by first | (with_reducible assumption) | (simp [go_sem]; done) | ((simp only [go_sem]); (with_reducible assumption)) | ((refine keep_cell ?_ (by with_reducible assumption)); go_grown; done) | (simp [go_sem, *]; done)), (by go_grown)⟩)) hb; (try clear hS); have hS := hT; clear hT; have hB := hS.2.2.2.2.2.2; have hzw : w.heap.size ≤ wF.heap.size := hB.size; have hz1 : w.heap.size < wF.heap.size := hS.1.1; have hz2 : w.heap.size + 1 < wF.heap.size := hS.2.2.2.1.1; have HOWN := hide hown; clear hown; have hS2 := hS; obtain ⟨⟨f1, f0⟩, c0, c1, ⟨f3, f2⟩, c2, c3, hB9⟩ := hS2; obtain ⟨d0, d1, d2, d3, d4, d5, d6⟩ := boxes_sets hne01 c0 c1 c2 c3 (.int .i64 0) (.int .i64 0) (.int .i64 0) (.int .i64 0); clear hb))
    refine bodyPost_ret (by simp [results, Try.results42, go_sem, d3, d4, d5, d6]; try rfl) rfl ?_
    exact ⟨ret_eq (by simp [HV.out, HB.out]), by go_grown⟩
  have hzb : ((F.length : Int) == 0) = false := beq_eq_false_iff_ne.2 (by omega)
  have HBX := hide (show boxK l a tol = true from by simp [boxK, HK.out, HF.out]; omega)
  have HVX := hide (show boxV l a tol = ((bxL (px F) min F.length, bxL (py F) min F.length), (bxL (px F) max F.length, bxL (py F) max F.length)) from by unfold boxV; rw [if_pos HBX.out, HF.out])
  go_enter Try.func42, Try.ntmps42
  go_wp2_with (first | (go_at_call 44; refine (Fitting_c _ A c l A2 c2 a tol (hide (reads_below h1.out (by go_grown))) b1 (hide (reads_below h2.out (by go_grown))) b2 hc).mono ?_; rw [HVF.out, HK.out]; rintro e wF ⟨B, d, rfl, hown, hb⟩; have hT : (w.heap.size < wF.heap.size ∧ ∀ i, wF.frozen? ⟨w.heap.size, i, none⟩ = false) ∧ wF.cell? ⟨w.heap.size, 0, none⟩ = some (.int .i64 0) ∧ wF.cell? ⟨w.heap.size, 1, none⟩ = some (.int .i64 0) ∧ (w.heap.size + 1 < wF.heap.size ∧ ∀ i, wF.frozen? ⟨w.heap.size + 1, i, none⟩ = false) ∧ wF.cell? ⟨w.heap.size + 1, 0, none⟩ = some (.int .i64 0) ∧ wF.cell? ⟨w.heap.size + 1, 1, none⟩ = some (.int .i64 0) ∧ Below w.heap.size w wF := (fun W h hb => ⟨keep_fre (hb) h.1, keep_cell (hb) h.2.1, keep_cell (hb) h.2.2.1, keep_fre (hb) h.2.2.2.1, keep_cell (hb) h.2.2.2.2.1, keep_cell (hb) h.2.2.2.2.2.1, below_via h.2.2.2.2.2.2 (hb)⟩ : ∀ W : World, ((w.heap.size < W.heap.size ∧ ∀ i, W.frozen? ⟨w.heap.size, i, none⟩ = false) ∧ W.cell? ⟨w.heap.size, 0, none⟩ = some (.int .i64 0) ∧ W.cell? ⟨w.heap.size, 1, none⟩ = some (.int .i64 0) ∧ (w.heap.size + 1 < W.heap.size ∧ ∀ i, W.frozen? ⟨w.heap.size + 1, i, none⟩ = false) ∧ W.cell? ⟨w.heap.size + 1, 0, none⟩ = some (.int .i64 0) ∧ W.cell? ⟨w.heap.size + 1, 1, none⟩ = some (.int .i64 0) ∧ Below w.heap.size w W) → Below W.heap.size W wF → ((w.heap.size < wF.heap.size ∧ ∀ i, wF.frozen? ⟨w.heap.size, i, none⟩ = false) ∧ wF.cell? ⟨w.heap.size, 0, none⟩ = some (.int .i64 0) ∧ wF.cell? ⟨w.heap.size, 1, none⟩ = some (.int .i64 0) ∧ (w.heap.size + 1 < wF.heap.size ∧ ∀ i, wF.frozen? ⟨w.heap.size + 1, i, none⟩ = false) ∧ wF.cell? ⟨w.heap.size + 1, 0, none⟩ = some (.int .i64 0) ∧ wF.cell? ⟨w.heap.size + 1, 1, none⟩ = some (.int .i64 0) ∧ Below w.heap.size w wF)) _ (by first | (with_reducible assumption) | (exact hS) | (exact ⟨hS.1, hS.2.1, hS.2.2.1, hS.2.2.2.1, hS.2.2.2.2.1, hS.2.2.2.2.2.1, (by go_grown)⟩) | (exact ⟨(by first | (with_reducible assumption) | (simp [go_sem]; done) | (refine keep_fre ?_ ⟨by with_reducible assumption, by with_reducible assumption⟩; go_grown; done) | (simp [go_sem, *]; done)), (by first | (with_reducible assumption) | (simp [go_sem]; done) | ((simp only [go_sem]); (with_reducible assumption)) | ((refine keep_cell ?_ (by with_reducible assumption)); go_grown; done) | (simp [go_sem, *]; done)), (by first | (with_reducible assumption) | (simp [go_sem]; done) | ((simp only [go_sem]); (with_reducible assumption)) | ((refine keep_cell ?_ (by with_reducible assumption)); go_grown; done) | (simp [go_sem, *]; done)), (by first | (with_reducible assumption) | (simp [go_sem]; done) | (refine keep_fre ?_ ⟨by with_reducible assumption, by with_reducible assumption⟩; go_grown; done) | (simp [go_sem, *]; done)), (by first | (with_reducible assumption) | (simp [go_sem]; done) | ((simp only [go_sem]); (with_reducible assumption)) | ((refine keep_cell ?_ (by with_reducible assumption)); go_grown; done) | (simp [go_sem, *]; done)), (by first | (with_reducible assumption) | (simp [go_sem]; done) | ((simp only [go_sem]); (with_reducible assumption)) | ((refine keep_cell ?_ (by with_reducible assumption)); go_grown; done) | (simp [go_sem, *]; done)), (by go_grown)⟩)) hb; (try clear hS); have hS := hT; clear hT; have hB := hS.2.2.2.2.2.2; have hzw : w.heap.size ≤ wF.heap.size := hB.size; have hz1 : w.heap.size < wF.heap.size := hS.1.1; have hz2 : w.heap.size + 1 < wF.heap.size := hS.2.2.2.1.1; have HOWN := hide hown; clear hown; clear hb))
  have hwF : w.heap.size + 1 < wF.heap.size := World.block_lt_of_cell? wF _ (hS.2.2.2.2.2.1)
  obtain ⟨gF, rfl, hgF0, hgF1⟩ := own_at HOWN.out hz
  obtain ⟨cx, cy⟩ := own_pt (l := F) HOWN.out (k := 0) (by omega)
  have hpl : 0 < F.length := by omega
  have HS0 := hide hS
  have HB0 := hide hB
  clear hS hB hzw
  go_region
  · obtain ⟨W0, hW0⟩ : ∃ W, W = ((wF.alloc (.cells #[.int .i64 (px F 0), .int .i64 (py F 0)] 32)).alloc (.cells #[.int .i64 (px F 0), .int .i64 (py F 0)] 32)).drew := ⟨_, rfl⟩
    have hS : (wF.heap.size < W0.heap.size ∧ ∀ i, W0.frozen? ⟨wF.heap.size, i, none⟩ = false) ∧ W0.cell? ⟨wF.heap.size, 0, none⟩ = some (.int .i64 (bxL (px F) min 0)) ∧ W0.cell? ⟨wF.heap.size, 1, none⟩ = some (.int .i64 (bxL (py F) min 0)) ∧ (wF.heap.size + 1 < W0.heap.size ∧ ∀ i, W0.frozen? ⟨wF.heap.size + 1, i, none⟩ = false) ∧ W0.cell? ⟨wF.heap.size + 1, 0, none⟩ = some (.int .i64 (bxL (px F) max 0)) ∧ W0.cell? ⟨wF.heap.size + 1, 1, none⟩ = some (.int .i64 (bxL (py F) max 0)) ∧ Below wF.heap.size wF W0 := by
      rw [hW0]
      simp only [bxL]
      exact ⟨by simp [go_sem], by simp [go_sem], by simp [go_sem], by simp [go_sem], by simp [go_sem], by simp [go_sem], by go_grown⟩
    rw [← hW0]
    clear hW0
    obtain ⟨P, hP9⟩ : ∃ q, wF.heap.size = q := ⟨_, rfl⟩
    obtain ⟨Q, hQ9⟩ : ∃ q, wF.heap.size + 1 = q := ⟨_, rfl⟩
    have hPF : wF.heap.size ≤ P := by omega
    have hQF : wF.heap.size ≤ Q := by omega
    have hPQ : P ≠ Q := by omega
    have hPg : gF ≠ P := by omega
    have hQg : gF ≠ Q := by omega
    have hS1 : (P < W0.heap.size ∧ ∀ i, W0.frozen? ⟨P, i, none⟩ = false) ∧ W0.cell? ⟨P, 0, none⟩ = some (.int .i64 (bxL (px F) min 0)) ∧ W0.cell? ⟨P, 1, none⟩ = some (.int .i64 (bxL (py F) min 0)) ∧ (Q < W0.heap.size ∧ ∀ i, W0.frozen? ⟨Q, i, none⟩ = false) ∧ W0.cell? ⟨Q, 0, none⟩ = some (.int .i64 (bxL (px F) max 0)) ∧ W0.cell? ⟨Q, 1, none⟩ = some (.int .i64 (bxL (py F) max 0)) ∧ Below wF.heap.size wF W0 := by rw [← hP9, ← hQ9]; exact hS
    rw [hQ9, hP9]
    clear hS
    have hS := hS1
    clear hS1 hP9 hQ9
    go_wp2
    go_loopw [39] (fun iv wr => ∃ i : Nat, i ≤ F.length ∧ iv = .int .i64 i ∧ ((P < wr.heap.size ∧ ∀ i, wr.frozen? ⟨P, i, none⟩ = false) ∧ wr.cell? ⟨P, 0, none⟩ = some (.int .i64 (bxL (px F) min i)) ∧ wr.cell? ⟨P, 1, none⟩ = some (.int .i64 (bxL (py F) min i)) ∧ (Q < wr.heap.size ∧ ∀ i, wr.frozen? ⟨Q, i, none⟩ = false) ∧ wr.cell? ⟨Q, 0, none⟩ = some (.int .i64 (bxL (px F) max i)) ∧ wr.cell? ⟨Q, 1, none⟩ = some (.int .i64 (bxL (py F) max i)) ∧ Below wF.heap.size wF wr)) (fun iv _ => F.length - (intOf iv).toNat)
    case atStart => exact ⟨0, by omega, rfl, hS⟩
    case round =>
      obtain ⟨i, hi, rfl, hS⟩ := hrel
      by_cases hlt : i < F.length
      rotate_left
      · obtain rfl : i = F.length := by omega
        obtain ⟨⟨f0, r0⟩, p0, p1, ⟨f1, r1⟩, q0, q1, hB⟩ := hS
        obtain ⟨⟨s1, s2⟩, z0, z1, ⟨s3, s4⟩, z2, z3, hB0⟩ := HS0.out
        have y0 : wr.cell? ⟨w.heap.size, 0, none⟩ = some (.int .i64 0) := (hB.cell (p := ⟨w.heap.size, 0, none⟩) (by show w.heap.size < _; omega)).trans z0
        have y1 : wr.cell? ⟨w.heap.size, 1, none⟩ = some (.int .i64 0) := (hB.cell (p := ⟨w.heap.size, 1, none⟩) (by show w.heap.size < _; omega)).trans z1
        have y2 : wr.cell? ⟨w.heap.size + 1, 0, none⟩ = some (.int .i64 0) := (hB.cell (p := ⟨w.heap.size + 1, 0, none⟩) (by show w.heap.size + 1 < _; omega)).trans z2
        have y3 : wr.cell? ⟨w.heap.size + 1, 1, none⟩ = some (.int .i64 0) := (hB.cell (p := ⟨w.heap.size + 1, 1, none⟩) (by show w.heap.size + 1 < _; omega)).trans z3
        have sf0 : ∀ i, wr.frozen? ⟨w.heap.size, i, none⟩ = false := fun i => (hB.frozen (p := ⟨w.heap.size, i, none⟩) (by show w.heap.size < _; omega)).trans (s2 i)
        have sf1 : ∀ i, wr.frozen? ⟨w.heap.size + 1, i, none⟩ = false := fun i => (hB.frozen (p := ⟨w.heap.size + 1, i, none⟩) (by show w.heap.size + 1 < _; omega)).trans (s4 i)
        have hBw : Below w.heap.size w wr := below_via hB0 hB
        obtain ⟨d0, d1, d2, d3, d4, d5, d6⟩ := boxes_sets (w := wr.drew) hne01 (by simpa using y0) (by simpa using y1) (by simpa using y2) (by simpa using y3) (.int .i64 (bxL (px F) min F.length)) (.int .i64 (bxL (py F) min F.length)) (.int .i64 (bxL (px F) max F.length)) (.int .i64 (bxL (py F) max F.length))
        obtain ⟨k0, k1, k2, k3, k4, k5, k6⟩ := boxes_sets hne01 y0 y1 y2 y3 (.int .i64 (bxL (px F) min F.length)) (.int .i64 (bxL (py F) min F.length)) (.int .i64 (bxL (px F) max F.length)) (.int .i64 (bxL (py F) max F.length))
        clear z0 z1 z2 z3 s1 s2 s3 s4 hB0
        go_wp2
        go_region
        all_goals
          go_wp2
          refine bodyPost_ret (by simp [results, Try.results42, go_sem, d3, d4, d5, d6, k3, k4, k5, k6]; try rfl) rfl ?_
          exact ⟨ret_eq (by simp [HVX.out, HBX.out]), by go_grown⟩
      have hrow := own_below HOWN.out (hS.2.2.2.2.2.2)
      obtain ⟨ux, uy⟩ := own_pt hrow hlt
      clear hrow
      obtain ⟨⟨f0, r0⟩, p0, p1, ⟨f1, r1⟩, q0, q1, hB⟩ := hS
      obtain ⟨G, hG⟩ : ∃ G, wr.heap.size = G := ⟨_, rfl⟩
      have hGP : G ≠ P := by omega
      have hGQ : G ≠ Q := by omega
      go_wp2
      generalize hW : World.alloc wr _ = wz
      have hS3 : wz.cell? ⟨G, 0, none⟩ = some (.int .i64 (px F i)) ∧ wz.cell? ⟨G, 1, none⟩ = some (.int .i64 (py F i)) ∧ (P < wz.heap.size ∧ ∀ i, wz.frozen? ⟨P, i, none⟩ = false) ∧ wz.cell? ⟨P, 0, none⟩ = some (.int .i64 (bxL (px F) min i)) ∧ wz.cell? ⟨P, 1, none⟩ = some (.int .i64 (bxL (py F) min i)) ∧ (Q < wz.heap.size ∧ ∀ i, wz.frozen? ⟨Q, i, none⟩ = false) ∧ wz.cell? ⟨Q, 0, none⟩ = some (.int .i64 (bxL (px F) max i)) ∧ wz.cell? ⟨Q, 1, none⟩ = some (.int .i64 (bxL (py F) max i)) ∧ Below wF.heap.size wF wz := by
        rw [← hW]
        subst hG
        exact ⟨by simp [go_sem], by simp [go_sem], keep_fre (by go_grown) ⟨f0, r0⟩, keep_cell (by go_grown) p0, keep_cell (by go_grown) p1, keep_fre (by go_grown) ⟨f1, r1⟩, keep_cell (by go_grown) q0, keep_cell (by go_grown) q1, by go_grown⟩
      clear f0 r0 p0 p1 f1 r1 q0 q1 hB hW hG
      obtain ⟨g0, g1, ⟨f0, r0⟩, p0, p1, ⟨f1, r1⟩, q0, q1, hB⟩ := hS3
      have hPG : P ≠ G := fun e => hGP e.symm
      have hQG : Q ≠ G := fun e => hGQ e.symm
      have hQP : Q ≠ P := fun e => hPQ e.symm
      refine wp_region_ph [51] (fun p w' => w'.cell? ⟨G, 0, none⟩ = some (.int .i64 (px F i)) ∧ w'.cell? ⟨G, 1, none⟩ = some (.int .i64 (py F i)) ∧ w'.cell? ⟨P, 0, none⟩ = some (.int .i64 (if p = 0 then  (bxL (px F) min i) else  (if px F i < bxL (px F) min i then px F i else bxL (px F) min i))) ∧ w'.cell? ⟨P, 1, none⟩ = some (.int .i64 (if p = 0 then  (bxL (py F) min i) else if p = 1 then  (bxL (py F) min i) else  (if py F i < bxL (py F) min i then py F i else bxL (py F) min i))) ∧ w'.cell? ⟨Q, 0, none⟩ = some (.int .i64 (bxL (px F) max i)) ∧ w'.cell? ⟨Q, 1, none⟩ = some (.int .i64 (bxL (py F) max i)) ∧ (P < w'.heap.size ∧ ∀ i, w'.frozen? ⟨P, i, none⟩ = false) ∧ (Q < w'.heap.size ∧ ∀ i, w'.frozen? ⟨Q, i, none⟩ = false) ∧ Below wF.heap.size wF w') (by kernel_rfl) (by kernel_rfl) (by kernel_rfl) (by first | assumption | (exact hS) | (refine ⟨?_, ?_, ?_, ?_, ?_, ?_, ?_, ?_, ?_⟩ <;> (first | (simp [go_sem]; done) | (simp [go_sem, *]; done) | (go_grown; done)))) ?_
      repeat (first
        | ((refine wpPh_skip (by rfl) (by rfl) ?_); simp only [Act.put, List.setIfInBounds_toArray, List.set_cons_zero, List.set_cons_succ])
        | ((refine wpPh_pure (v := ?_) (by rfl) (by rfl) (by rfl) (fun w => ?_) ?_); rotate_left; (focus (go_simp; (try (with_reducible rfl)); done)); simp only [Act.put, List.setIfInBounds_toArray, List.set_cons_zero, List.set_cons_succ])
        | ((refine wpPh_free (v := ?_) (by rfl) (by rfl) (by rfl) (fun q w hS => ?_) ?_); rotate_left; (focus ((try dsimp only at hS); go_simp; (try (with_reducible rfl)); done)); simp only [Act.put, List.setIfInBounds_toArray, List.set_cons_zero, List.set_cons_succ])
        | ((refine wpPh_val (v := ?_) (by rfl) (by rfl) (by rfl) (fun w hS => ?_) ?_); rotate_left; (focus ((try dsimp only at hS); go_simp; (try (with_reducible rfl)); done)); simp only [Act.put, List.setIfInBounds_toArray, List.set_cons_zero, List.set_cons_succ])
        | ((refine wpPh_store (by rfl) (by rfl) (by rfl) (fun w hS => ?_) ?_); (focus ((try dsimp only at hS); obtain ⟨c0, c1, c2, c3, c4, c5, c6, c7, hB⟩ := hS; apply Exists.intro; refine And.intro ?_ ?_; (focus (go_simp; (with_reducible rfl))); ((try dsimp only); refine ⟨by simp [go_sem, *], by simp [go_sem, *], by simp [go_sem, *], by simp [go_sem, *], by simp [go_sem, *], by simp [go_sem, *], by simp [go_sem, *], by simp [go_sem, *], by go_grown⟩)))))
      refine wpPh_nil ?_
      intro wb hS
      have hT : wb.cell? ⟨G, 0, none⟩ = some (.int .i64 (px F i)) ∧ wb.cell? ⟨G, 1, none⟩ = some (.int .i64 (py F i)) ∧ wb.cell? ⟨P, 0, none⟩ = some (.int .i64 ( (if px F i < bxL (px F) min i then px F i else bxL (px F) min i))) ∧ wb.cell? ⟨P, 1, none⟩ = some (.int .i64 ( (if py F i < bxL (py F) min i then py F i else bxL (py F) min i))) ∧ wb.cell? ⟨Q, 0, none⟩ = some (.int .i64 (bxL (px F) max i)) ∧ wb.cell? ⟨Q, 1, none⟩ = some (.int .i64 (bxL (py F) max i)) ∧ (P < wb.heap.size ∧ ∀ i, wb.frozen? ⟨P, i, none⟩ = false) ∧ (Q < wb.heap.size ∧ ∀ i, wb.frozen? ⟨Q, i, none⟩ = false) ∧ Below wF.heap.size wF wb := hS
      clear hS
      have hS := hT
      obtain ⟨c0, c1, c2, c3, c4, c5, c6, c7, hB⟩ := hT
      have e0 :  (if px F i < bxL (px F) min i then px F i else bxL (px F) min i) = bxL (px F) min (i + 1) := by simp only [bxL]; split <;> omega
      have e1 :  (if py F i < bxL (py F) min i then py F i else bxL (py F) min i) = bxL (py F) min (i + 1) := by simp only [bxL]; split <;> omega
      have hS3 : wb.cell? ⟨G, 0, none⟩ = some (.int .i64 (px F i)) ∧ wb.cell? ⟨G, 1, none⟩ = some (.int .i64 (py F i)) ∧ (P < wb.heap.size ∧ ∀ i, wb.frozen? ⟨P, i, none⟩ = false) ∧ wb.cell? ⟨P, 0, none⟩ = some (.int .i64 (bxL (px F) min (i + 1))) ∧ wb.cell? ⟨P, 1, none⟩ = some (.int .i64 (bxL (py F) min (i + 1))) ∧ (Q < wb.heap.size ∧ ∀ i, wb.frozen? ⟨Q, i, none⟩ = false) ∧ wb.cell? ⟨Q, 0, none⟩ = some (.int .i64 (bxL (px F) max i)) ∧ wb.cell? ⟨Q, 1, none⟩ = some (.int .i64 (bxL (py F) max i)) ∧ Below wF.heap.size wF wb := by
        have d0 := c2
        have d1 := c3
        rw [e0] at d0
        rw [e1] at d1
        exact ⟨c0, c1, c6, d0, d1, c7, c4, c5, hB⟩
      rw [e0, e1]
      clear hS c0 c1 c2 c3 c4 c5 c6 c7 hB e0 e1
      obtain ⟨g0, g1, ⟨f0, r0⟩, p0, p1, ⟨f1, r1⟩, q0, q1, hB⟩ := hS3
      have hzb := hB.size
      go_wp2
      refine wp_region_ph [63] (fun p w' => w'.cell? ⟨G, 0, none⟩ = some (.int .i64 (px F i)) ∧ w'.cell? ⟨G, 1, none⟩ = some (.int .i64 (py F i)) ∧ w'.cell? ⟨P, 0, none⟩ = some (.int .i64 (bxL (px F) min (i + 1))) ∧ w'.cell? ⟨P, 1, none⟩ = some (.int .i64 (bxL (py F) min (i + 1))) ∧ w'.cell? ⟨Q, 0, none⟩ = some (.int .i64 (if p = 0 then  (bxL (px F) max i) else  (if bxL (px F) max i < px F i then px F i else bxL (px F) max i))) ∧ w'.cell? ⟨Q, 1, none⟩ = some (.int .i64 (if p = 0 then  (bxL (py F) max i) else if p = 1 then  (bxL (py F) max i) else  (if bxL (py F) max i < py F i then py F i else bxL (py F) max i))) ∧ (P < w'.heap.size ∧ ∀ i, w'.frozen? ⟨P, i, none⟩ = false) ∧ (Q < w'.heap.size ∧ ∀ i, w'.frozen? ⟨Q, i, none⟩ = false) ∧ Below wF.heap.size wF w') (by kernel_rfl) (by kernel_rfl) (by kernel_rfl) (by first | assumption | (exact hS) | (refine ⟨?_, ?_, ?_, ?_, ?_, ?_, ?_, ?_, ?_⟩ <;> (first | (simp [go_sem]; done) | (simp [go_sem, *]; done) | (go_grown; done)))) ?_
      repeat (first
        | ((refine wpPh_skip (by rfl) (by rfl) ?_); simp only [Act.put, List.setIfInBounds_toArray, List.set_cons_zero, List.set_cons_succ])
        | ((refine wpPh_pure (v := ?_) (by rfl) (by rfl) (by rfl) (fun w => ?_) ?_); rotate_left; (focus (go_simp; (try (with_reducible rfl)); done)); simp only [Act.put, List.setIfInBounds_toArray, List.set_cons_zero, List.set_cons_succ])
        | ((refine wpPh_free (v := ?_) (by rfl) (by rfl) (by rfl) (fun q w hS => ?_) ?_); rotate_left; (focus ((try dsimp only at hS); go_simp; (try (with_reducible rfl)); done)); simp only [Act.put, List.setIfInBounds_toArray, List.set_cons_zero, List.set_cons_succ])
        | ((refine wpPh_val (v := ?_) (by rfl) (by rfl) (by rfl) (fun w hS => ?_) ?_); rotate_left; (focus ((try dsimp only at hS); go_simp; (try (with_reducible rfl)); done)); simp only [Act.put, List.setIfInBounds_toArray, List.set_cons_zero, List.set_cons_succ])
        | ((refine wpPh_store (by rfl) (by rfl) (by rfl) (fun w hS => ?_) ?_); (focus ((try dsimp only at hS); obtain ⟨c0, c1, c2, c3, c4, c5, c6, c7, hB⟩ := hS; apply Exists.intro; refine And.intro ?_ ?_; (focus (go_simp; (with_reducible rfl))); ((try dsimp only); refine ⟨by simp [go_sem, *], by simp [go_sem, *], by simp [go_sem, *], by simp [go_sem, *], by simp [go_sem, *], by simp [go_sem, *], by simp [go_sem, *], by simp [go_sem, *], by go_grown⟩)))))
      refine wpPh_nil ?_
      intro wd hS
      have hT : wd.cell? ⟨G, 0, none⟩ = some (.int .i64 (px F i)) ∧ wd.cell? ⟨G, 1, none⟩ = some (.int .i64 (py F i)) ∧ wd.cell? ⟨P, 0, none⟩ = some (.int .i64 (bxL (px F) min (i + 1))) ∧ wd.cell? ⟨P, 1, none⟩ = some (.int .i64 (bxL (py F) min (i + 1))) ∧ wd.cell? ⟨Q, 0, none⟩ = some (.int .i64 ( (if bxL (px F) max i < px F i then px F i else bxL (px F) max i))) ∧ wd.cell? ⟨Q, 1, none⟩ = some (.int .i64 ( (if bxL (py F) max i < py F i then py F i else bxL (py F) max i))) ∧ (P < wd.heap.size ∧ ∀ i, wd.frozen? ⟨P, i, none⟩ = false) ∧ (Q < wd.heap.size ∧ ∀ i, wd.frozen? ⟨Q, i, none⟩ = false) ∧ Below wF.heap.size wF wd := hS
      clear hS
      have hS := hT
      obtain ⟨c0, c1, c2, c3, c4, c5, c6, c7, hB⟩ := hT
      have e0 :  (if bxL (px F) max i < px F i then px F i else bxL (px F) max i) = bxL (px F) max (i + 1) := by simp only [bxL]; split <;> omega
      have e1 :  (if bxL (py F) max i < py F i then py F i else bxL (py F) max i) = bxL (py F) max (i + 1) := by simp only [bxL]; split <;> omega
      have hS3 : wd.cell? ⟨G, 0, none⟩ = some (.int .i64 (px F i)) ∧ wd.cell? ⟨G, 1, none⟩ = some (.int .i64 (py F i)) ∧ (P < wd.heap.size ∧ ∀ i, wd.frozen? ⟨P, i, none⟩ = false) ∧ wd.cell? ⟨P, 0, none⟩ = some (.int .i64 (bxL (px F) min (i + 1))) ∧ wd.cell? ⟨P, 1, none⟩ = some (.int .i64 (bxL (py F) min (i + 1))) ∧ (Q < wd.heap.size ∧ ∀ i, wd.frozen? ⟨Q, i, none⟩ = false) ∧ wd.cell? ⟨Q, 0, none⟩ = some (.int .i64 (bxL (px F) max (i + 1))) ∧ wd.cell? ⟨Q, 1, none⟩ = some (.int .i64 (bxL (py F) max (i + 1))) ∧ Below wF.heap.size wF wd := by
        have d0 := c4
        have d1 := c5
        rw [e0] at d0
        rw [e1] at d1
        exact ⟨c0, c1, c6, c2, c3, c7, d0, d1, hB⟩
      rw [e0, e1]
      clear hS c0 c1 c2 c3 c4 c5 c6 c7 hB e0 e1
      obtain ⟨g0, g1, ⟨f0, r0⟩, p0, p1, ⟨f1, r1⟩, q0, q1, hB⟩ := hS3
      go_wp2
      go_roundw
      case rel => exact ⟨i + 1, by omega, by go_num, ⟨f0, r0⟩, p0, p1, ⟨f1, r1⟩, q0, q1, by go_grown⟩
      case measure => simp [intOf]; omega
  · obtain ⟨W0, hW0⟩ : ∃ W, W = ((wF.alloc (.cells #[.int .i64 (px F 0), .int .i64 (py F 0)] 32)).alloc (.cells #[.int .i64 (px F 0), .int .i64 (py F 0)] 32)).drew := ⟨_, rfl⟩
    have hS : (wF.heap.size + 1 < W0.heap.size ∧ ∀ i, W0.frozen? ⟨wF.heap.size + 1, i, none⟩ = false) ∧ W0.cell? ⟨wF.heap.size + 1, 0, none⟩ = some (.int .i64 (bxL (px F) min 0)) ∧ W0.cell? ⟨wF.heap.size + 1, 1, none⟩ = some (.int .i64 (bxL (py F) min 0)) ∧ (wF.heap.size < W0.heap.size ∧ ∀ i, W0.frozen? ⟨wF.heap.size, i, none⟩ = false) ∧ W0.cell? ⟨wF.heap.size, 0, none⟩ = some (.int .i64 (bxL (px F) max 0)) ∧ W0.cell? ⟨wF.heap.size, 1, none⟩ = some (.int .i64 (bxL (py F) max 0)) ∧ Below wF.heap.size wF W0 := by
      rw [hW0]
      simp only [bxL]
      exact ⟨by simp [go_sem], by simp [go_sem], by simp [go_sem], by simp [go_sem], by simp [go_sem], by simp [go_sem], by go_grown⟩
    rw [← hW0]
    clear hW0
    obtain ⟨Q, hQ9⟩ : ∃ q, wF.heap.size = q := ⟨_, rfl⟩
    obtain ⟨P, hP9⟩ : ∃ q, wF.heap.size + 1 = q := ⟨_, rfl⟩
    have hPF : wF.heap.size ≤ P := by omega
    have hQF : wF.heap.size ≤ Q := by omega
    have hPQ : P ≠ Q := by omega
    have hPg : gF ≠ P := by omega
    have hQg : gF ≠ Q := by omega
    have hS1 : (P < W0.heap.size ∧ ∀ i, W0.frozen? ⟨P, i, none⟩ = false) ∧ W0.cell? ⟨P, 0, none⟩ = some (.int .i64 (bxL (px F) min 0)) ∧ W0.cell? ⟨P, 1, none⟩ = some (.int .i64 (bxL (py F) min 0)) ∧ (Q < W0.heap.size ∧ ∀ i, W0.frozen? ⟨Q, i, none⟩ = false) ∧ W0.cell? ⟨Q, 0, none⟩ = some (.int .i64 (bxL (px F) max 0)) ∧ W0.cell? ⟨Q, 1, none⟩ = some (.int .i64 (bxL (py F) max 0)) ∧ Below wF.heap.size wF W0 := by rw [← hP9, ← hQ9]; exact hS
    rw [hP9, hQ9]
    clear hS
    have hS := hS1
    clear hS1 hP9 hQ9
    go_wp2
    go_loopw [39] (fun iv wr => ∃ i : Nat, i ≤ F.length ∧ iv = .int .i64 i ∧ ((P < wr.heap.size ∧ ∀ i, wr.frozen? ⟨P, i, none⟩ = false) ∧ wr.cell? ⟨P, 0, none⟩ = some (.int .i64 (bxL (px F) min i)) ∧ wr.cell? ⟨P, 1, none⟩ = some (.int .i64 (bxL (py F) min i)) ∧ (Q < wr.heap.size ∧ ∀ i, wr.frozen? ⟨Q, i, none⟩ = false) ∧ wr.cell? ⟨Q, 0, none⟩ = some (.int .i64 (bxL (px F) max i)) ∧ wr.cell? ⟨Q, 1, none⟩ = some (.int .i64 (bxL (py F) max i)) ∧ Below wF.heap.size wF wr)) (fun iv _ => F.length - (intOf iv).toNat)
    case atStart => exact ⟨0, by omega, rfl, hS⟩
    case round =>
      obtain ⟨i, hi, rfl, hS⟩ := hrel
      by_cases hlt : i < F.length
      rotate_left
      · obtain rfl : i = F.length := by omega
        obtain ⟨⟨f0, r0⟩, p0, p1, ⟨f1, r1⟩, q0, q1, hB⟩ := hS
        obtain ⟨⟨s1, s2⟩, z0, z1, ⟨s3, s4⟩, z2, z3, hB0⟩ := HS0.out
        have y0 : wr.cell? ⟨w.heap.size, 0, none⟩ = some (.int .i64 0) := (hB.cell (p := ⟨w.heap.size, 0, none⟩) (by show w.heap.size < _; omega)).trans z0
        have y1 : wr.cell? ⟨w.heap.size, 1, none⟩ = some (.int .i64 0) := (hB.cell (p := ⟨w.heap.size, 1, none⟩) (by show w.heap.size < _; omega)).trans z1
        have y2 : wr.cell? ⟨w.heap.size + 1, 0, none⟩ = some (.int .i64 0) := (hB.cell (p := ⟨w.heap.size + 1, 0, none⟩) (by show w.heap.size + 1 < _; omega)).trans z2
        have y3 : wr.cell? ⟨w.heap.size + 1, 1, none⟩ = some (.int .i64 0) := (hB.cell (p := ⟨w.heap.size + 1, 1, none⟩) (by show w.heap.size + 1 < _; omega)).trans z3
        have sf0 : ∀ i, wr.frozen? ⟨w.heap.size, i, none⟩ = false := fun i => (hB.frozen (p := ⟨w.heap.size, i, none⟩) (by show w.heap.size < _; omega)).trans (s2 i)
        have sf1 : ∀ i, wr.frozen? ⟨w.heap.size + 1, i, none⟩ = false := fun i => (hB.frozen (p := ⟨w.heap.size + 1, i, none⟩) (by show w.heap.size + 1 < _; omega)).trans (s4 i)
        have hBw : Below w.heap.size w wr := below_via hB0 hB
        obtain ⟨d0, d1, d2, d3, d4, d5, d6⟩ := boxes_sets (w := wr.drew) hne01 (by simpa using y0) (by simpa using y1) (by simpa using y2) (by simpa using y3) (.int .i64 (bxL (px F) min F.length)) (.int .i64 (bxL (py F) min F.length)) (.int .i64 (bxL (px F) max F.length)) (.int .i64 (bxL (py F) max F.length))
        obtain ⟨k0, k1, k2, k3, k4, k5, k6⟩ := boxes_sets hne01 y0 y1 y2 y3 (.int .i64 (bxL (px F) min F.length)) (.int .i64 (bxL (py F) min F.length)) (.int .i64 (bxL (px F) max F.length)) (.int .i64 (bxL (py F) max F.length))
        clear z0 z1 z2 z3 s1 s2 s3 s4 hB0
        go_wp2
        go_region
        all_goals
          go_wp2
          refine bodyPost_ret (by simp [results, Try.results42, go_sem, d3, d4, d5, d6, k3, k4, k5, k6]; try rfl) rfl ?_
          exact ⟨ret_eq (by simp [HVX.out, HBX.out]), by go_grown⟩
      have hrow := own_below HOWN.out (hS.2.2.2.2.2.2)
      obtain ⟨ux, uy⟩ := own_pt hrow hlt
      clear hrow
      obtain ⟨⟨f0, r0⟩, p0, p1, ⟨f1, r1⟩, q0, q1, hB⟩ := hS
      obtain ⟨G, hG⟩ : ∃ G, wr.heap.size = G := ⟨_, rfl⟩
      have hGP : G ≠ P := by omega
      have hGQ : G ≠ Q := by omega
      go_wp2
      generalize hW : World.alloc wr _ = wz
      have hS3 : wz.cell? ⟨G, 0, none⟩ = some (.int .i64 (px F i)) ∧ wz.cell? ⟨G, 1, none⟩ = some (.int .i64 (py F i)) ∧ (P < wz.heap.size ∧ ∀ i, wz.frozen? ⟨P, i, none⟩ = false) ∧ wz.cell? ⟨P, 0, none⟩ = some (.int .i64 (bxL (px F) min i)) ∧ wz.cell? ⟨P, 1, none⟩ = some (.int .i64 (bxL (py F) min i)) ∧ (Q < wz.heap.size ∧ ∀ i, wz.frozen? ⟨Q, i, none⟩ = false) ∧ wz.cell? ⟨Q, 0, none⟩ = some (.int .i64 (bxL (px F) max i)) ∧ wz.cell? ⟨Q, 1, none⟩ = some (.int .i64 (bxL (py F) max i)) ∧ Below wF.heap.size wF wz := by
        rw [← hW]
        subst hG
        exact ⟨by simp [go_sem], by simp [go_sem], keep_fre (by go_grown) ⟨f0, r0⟩, keep_cell (by go_grown) p0, keep_cell (by go_grown) p1, keep_fre (by go_grown) ⟨f1, r1⟩, keep_cell (by go_grown) q0, keep_cell (by go_grown) q1, by go_grown⟩
      clear f0 r0 p0 p1 f1 r1 q0 q1 hB hW hG
      obtain ⟨g0, g1, ⟨f0, r0⟩, p0, p1, ⟨f1, r1⟩, q0, q1, hB⟩ := hS3
      have hPG : P ≠ G := fun e => hGP e.symm
      have hQG : Q ≠ G := fun e => hGQ e.symm
      have hQP : Q ≠ P := fun e => hPQ e.symm
      refine wp_region_ph [51] (fun p w' => w'.cell? ⟨G, 0, none⟩ = some (.int .i64 (px F i)) ∧ w'.cell? ⟨G, 1, none⟩ = some (.int .i64 (py F i)) ∧ w'.cell? ⟨P, 0, none⟩ = some (.int .i64 (if p = 0 then  (bxL (px F) min i) else  (if px F i < bxL (px F) min i then px F i else bxL (px F) min i))) ∧ w'.cell? ⟨P, 1, none⟩ = some (.int .i64 (if p = 0 then  (bxL (py F) min i) else if p = 1 then  (bxL (py F) min i) else  (if py F i < bxL (py F) min i then py F i else bxL (py F) min i))) ∧ w'.cell? ⟨Q, 0, none⟩ = some (.int .i64 (bxL (px F) max i)) ∧ w'.cell? ⟨Q, 1, none⟩ = some (.int .i64 (bxL (py F) max i)) ∧ (P < w'.heap.size ∧ ∀ i, w'.frozen? ⟨P, i, none⟩ = false) ∧ (Q < w'.heap.size ∧ ∀ i, w'.frozen? ⟨Q, i, none⟩ = false) ∧ Below wF.heap.size wF w') (by kernel_rfl) (by kernel_rfl) (by kernel_rfl) (by first | assumption | (exact hS) | (refine ⟨?_, ?_, ?_, ?_, ?_, ?_, ?_, ?_, ?_⟩ <;> (first | (simp [go_sem]; done) | (simp [go_sem, *]; done) | (go_grown; done)))) ?_
      repeat (first
        | ((refine wpPh_skip (by rfl) (by rfl) ?_); simp only [Act.put, List.setIfInBounds_toArray, List.set_cons_zero, List.set_cons_succ])
        | ((refine wpPh_pure (v := ?_) (by rfl) (by rfl) (by rfl) (fun w => ?_) ?_); rotate_left; (focus (go_simp; (try (with_reducible rfl)); done)); simp only [Act.put, List.setIfInBounds_toArray, List.set_cons_zero, List.set_cons_succ])
        | ((refine wpPh_free (v := ?_) (by rfl) (by rfl) (by rfl) (fun q w hS => ?_) ?_); rotate_left; (focus ((try dsimp only at hS); go_simp; (try (with_reducible rfl)); done)); simp only [Act.put, List.setIfInBounds_toArray, List.set_cons_zero, List.set_cons_succ])
        | ((refine wpPh_val (v := ?_) (by rfl) (by rfl) (by rfl) (fun w hS => ?_) ?_); rotate_left; (focus ((try dsimp only at hS); go_simp; (try (with_reducible rfl)); done)); simp only [Act.put, List.setIfInBounds_toArray, List.set_cons_zero, List.set_cons_succ])
        | ((refine wpPh_store (by rfl) (by rfl) (by rfl) (fun w hS => ?_) ?_); (focus ((try dsimp only at hS); obtain ⟨c0, c1, c2, c3, c4, c5, c6, c7, hB⟩ := hS; apply Exists.intro; refine And.intro ?_ ?_; (focus (go_simp; (with_reducible rfl))); ((try dsimp only); refine ⟨by simp [go_sem, *], by simp [go_sem, *], by simp [go_sem, *], by simp [go_sem, *], by simp [go_sem, *], by simp [go_sem, *], by simp [go_sem, *], by simp [go_sem, *], by go_grown⟩)))))
      refine wpPh_nil ?_
      intro wb hS
      have hT : wb.cell? ⟨G, 0, none⟩ = some (.int .i64 (px F i)) ∧ wb.cell? ⟨G, 1, none⟩ = some (.int .i64 (py F i)) ∧ wb.cell? ⟨P, 0, none⟩ = some (.int .i64 ( (if px F i < bxL (px F) min i then px F i else bxL (px F) min i))) ∧ wb.cell? ⟨P, 1, none⟩ = some (.int .i64 ( (if py F i < bxL (py F) min i then py F i else bxL (py F) min i))) ∧ wb.cell? ⟨Q, 0, none⟩ = some (.int .i64 (bxL (px F) max i)) ∧ wb.cell? ⟨Q, 1, none⟩ = some (.int .i64 (bxL (py F) max i)) ∧ (P < wb.heap.size ∧ ∀ i, wb.frozen? ⟨P, i, none⟩ = false) ∧ (Q < wb.heap.size ∧ ∀ i, wb.frozen? ⟨Q, i, none⟩ = false) ∧ Below wF.heap.size wF wb := hS
      clear hS
      have hS := hT
      obtain ⟨c0, c1, c2, c3, c4, c5, c6, c7, hB⟩ := hT
      have e0 :  (if px F i < bxL (px F) min i then px F i else bxL (px F) min i) = bxL (px F) min (i + 1) := by simp only [bxL]; split <;> omega
      have e1 :  (if py F i < bxL (py F) min i then py F i else bxL (py F) min i) = bxL (py F) min (i + 1) := by simp only [bxL]; split <;> omega
      have hS3 : wb.cell? ⟨G, 0, none⟩ = some (.int .i64 (px F i)) ∧ wb.cell? ⟨G, 1, none⟩ = some (.int .i64 (py F i)) ∧ (P < wb.heap.size ∧ ∀ i, wb.frozen? ⟨P, i, none⟩ = false) ∧ wb.cell? ⟨P, 0, none⟩ = some (.int .i64 (bxL (px F) min (i + 1))) ∧ wb.cell? ⟨P, 1, none⟩ = some (.int .i64 (bxL (py F) min (i + 1))) ∧ (Q < wb.heap.size ∧ ∀ i, wb.frozen? ⟨Q, i, none⟩ = false) ∧ wb.cell? ⟨Q, 0, none⟩ = some (.int .i64 (bxL (px F) max i)) ∧ wb.cell? ⟨Q, 1, none⟩ = some (.int .i64 (bxL (py F) max i)) ∧ Below wF.heap.size wF wb := by
        have d0 := c2
        have d1 := c3
        rw [e0] at d0
        rw [e1] at d1
        exact ⟨c0, c1, c6, d0, d1, c7, c4, c5, hB⟩
      rw [e0, e1]
      clear hS c0 c1 c2 c3 c4 c5 c6 c7 hB e0 e1
      obtain ⟨g0, g1, ⟨f0, r0⟩, p0, p1, ⟨f1, r1⟩, q0, q1, hB⟩ := hS3
      have hzb := hB.size
      go_wp2
      refine wp_region_ph [63] (fun p w' => w'.cell? ⟨G, 0, none⟩ = some (.int .i64 (px F i)) ∧ w'.cell? ⟨G, 1, none⟩ = some (.int .i64 (py F i)) ∧ w'.cell? ⟨P, 0, none⟩ = some (.int .i64 (bxL (px F) min (i + 1))) ∧ w'.cell? ⟨P, 1, none⟩ = some (.int .i64 (bxL (py F) min (i + 1))) ∧ w'.cell? ⟨Q, 0, none⟩ = some (.int .i64 (if p = 0 then  (bxL (px F) max i) else  (if bxL (px F) max i < px F i then px F i else bxL (px F) max i))) ∧ w'.cell? ⟨Q, 1, none⟩ = some (.int .i64 (if p = 0 then  (bxL (py F) max i) else if p = 1 then  (bxL (py F) max i) else  (if bxL (py F) max i < py F i then py F i else bxL (py F) max i))) ∧ (P < w'.heap.size ∧ ∀ i, w'.frozen? ⟨P, i, none⟩ = false) ∧ (Q < w'.heap.size ∧ ∀ i, w'.frozen? ⟨Q, i, none⟩ = false) ∧ Below wF.heap.size wF w') (by kernel_rfl) (by kernel_rfl) (by kernel_rfl) (by first | assumption | (exact hS) | (refine ⟨?_, ?_, ?_, ?_, ?_, ?_, ?_, ?_, ?_⟩ <;> (first | (simp [go_sem]; done) | (simp [go_sem, *]; done) | (go_grown; done)))) ?_
      repeat (first
        | ((refine wpPh_skip (by rfl) (by rfl) ?_); simp only [Act.put, List.setIfInBounds_toArray, List.set_cons_zero, List.set_cons_succ])
        | ((refine wpPh_pure (v := ?_) (by rfl) (by rfl) (by rfl) (fun w => ?_) ?_); rotate_left; (focus (go_simp; (try (with_reducible rfl)); done)); simp only [Act.put, List.setIfInBounds_toArray, List.set_cons_zero, List.set_cons_succ])
        | ((refine wpPh_free (v := ?_) (by rfl) (by rfl) (by rfl) (fun q w hS => ?_) ?_); rotate_left; (focus ((try dsimp only at hS); go_simp; (try (with_reducible rfl)); done)); simp only [Act.put, List.setIfInBounds_toArray, List.set_cons_zero, List.set_cons_succ])
        | ((refine wpPh_val (v := ?_) (by rfl) (by rfl) (by rfl) (fun w hS => ?_) ?_); rotate_left; (focus ((try dsimp only at hS); go_simp; (try (with_reducible rfl)); done)); simp only [Act.put, List.setIfInBounds_toArray, List.set_cons_zero, List.set_cons_succ])
        | ((refine wpPh_store (by rfl) (by rfl) (by rfl) (fun w hS => ?_) ?_); (focus ((try dsimp only at hS); obtain ⟨c0, c1, c2, c3, c4, c5, c6, c7, hB⟩ := hS; apply Exists.intro; refine And.intro ?_ ?_; (focus (go_simp; (with_reducible rfl))); ((try dsimp only); refine ⟨by simp [go_sem, *], by simp [go_sem, *], by simp [go_sem, *], by simp [go_sem, *], by simp [go_sem, *], by simp [go_sem, *], by simp [go_sem, *], by simp [go_sem, *], by go_grown⟩)))))
      refine wpPh_nil ?_
      intro wd hS
      have hT : wd.cell? ⟨G, 0, none⟩ = some (.int .i64 (px F i)) ∧ wd.cell? ⟨G, 1, none⟩ = some (.int .i64 (py F i)) ∧ wd.cell? ⟨P, 0, none⟩ = some (.int .i64 (bxL (px F) min (i + 1))) ∧ wd.cell? ⟨P, 1, none⟩ = some (.int .i64 (bxL (py F) min (i + 1))) ∧ wd.cell? ⟨Q, 0, none⟩ = some (.int .i64 ( (if bxL (px F) max i < px F i then px F i else bxL (px F) max i))) ∧ wd.cell? ⟨Q, 1, none⟩ = some (.int .i64 ( (if bxL (py F) max i < py F i then py F i else bxL (py F) max i))) ∧ (P < wd.heap.size ∧ ∀ i, wd.frozen? ⟨P, i, none⟩ = false) ∧ (Q < wd.heap.size ∧ ∀ i, wd.frozen? ⟨Q, i, none⟩ = false) ∧ Below wF.heap.size wF wd := hS
      clear hS
      have hS := hT
      obtain ⟨c0, c1, c2, c3, c4, c5, c6, c7, hB⟩ := hT
      have e0 :  (if bxL (px F) max i < px F i then px F i else bxL (px F) max i) = bxL (px F) max (i + 1) := by simp only [bxL]; split <;> omega
      have e1 :  (if bxL (py F) max i < py F i then py F i else bxL (py F) max i) = bxL (py F) max (i + 1) := by simp only [bxL]; split <;> omega
      have hS3 : wd.cell? ⟨G, 0, none⟩ = some (.int .i64 (px F i)) ∧ wd.cell? ⟨G, 1, none⟩ = some (.int .i64 (py F i)) ∧ (P < wd.heap.size ∧ ∀ i, wd.frozen? ⟨P, i, none⟩ = false) ∧ wd.cell? ⟨P, 0, none⟩ = some (.int .i64 (bxL (px F) min (i + 1))) ∧ wd.cell? ⟨P, 1, none⟩ = some (.int .i64 (bxL (py F) min (i + 1))) ∧ (Q < wd.heap.size ∧ ∀ i, wd.frozen? ⟨Q, i, none⟩ = false) ∧ wd.cell? ⟨Q, 0, none⟩ = some (.int .i64 (bxL (px F) max (i + 1))) ∧ wd.cell? ⟨Q, 1, none⟩ = some (.int .i64 (bxL (py F) max (i + 1))) ∧ Below wF.heap.size wF wd := by
        have d0 := c4
        have d1 := c5
        rw [e0] at d0
        rw [e1] at d1
        exact ⟨c0, c1, c6, c2, c3, c7, d0, d1, hB⟩
      rw [e0, e1]
      clear hS c0 c1 c2 c3 c4 c5 c6 c7 hB e0 e1
      obtain ⟨g0, g1, ⟨f0, r0⟩, p0, p1, ⟨f1, r1⟩, q0, q1, hB⟩ := hS3
      go_wp2
      go_roundw
      case rel => exact ⟨i + 1, by omega, by go_num, ⟨f0, r0⟩, p0, p1, ⟨f1, r1⟩, q0, q1, by go_grown⟩
      case measure => simp [intOf]; omega
end Go.Proofs.Ytnocgcfepkdjeaa
