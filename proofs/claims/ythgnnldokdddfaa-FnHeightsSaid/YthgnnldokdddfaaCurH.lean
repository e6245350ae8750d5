/- Contracts: heights that are drawn. -/
import Derived.Test.YthgnnldokdddfaaCur
namespace Go.Proofs.Ythgnnldokdddfaa
open Go.RowKit

theorem lit_take {w : World} {T : Nat} {l : List Int} (m : Nat) (h : ∀ j, j < l.length → w.cell? ((⟨T, 0, none⟩ : Addr).add j) = some (.int .i64 (nth l j))) :
    ∀ j, j < (l.take m).length → w.cell? ((⟨T, 0, none⟩ : Addr).add j) = some (.int .i64 (nth (l.take m) j)) := by
  intro j hj
  have hj2 : j < l.length ∧ j < m := by rw [List.length_take] at hj; omega
  rw [h j hj2.1]
  congr 2
  unfold nth
  rw [List.getD_eq_getElem?_getD, List.getD_eq_getElem?_getD, List.getElem?_take, if_pos hj2.2]
def IsS (m : Nat) (v : Value) (_ : World) : Prop := ∃ s : ByteArray, v = .string s ∧ s.size ≤ m

theorem height_c (g k : Nat) (w : World) (hc : Hid (Cur w g k)) (hk : k ≤ 10000)  : Calls Try.prog 55 #[.pointer (some ⟨g, 0, none⟩)] w (CurG w g (k + 4) (IsI (-2001) 130001)) := by
  have hgw : g < w.heap.size := hc.out.lt
  go_enter Try.func55, Try.ntmps55
  go_wp2_with fail
  refine (pick_c (24) (by omega) (g) (k) _ (hide (by repeat' (first | (with_reducible exact hc.out) | (with_reducible refine Cur.drew ?_) | (with_reducible refine Cur.alloc ?_ _) | (with_reducible refine Cur.setc ?_ (by first | omega | (simp; done) | (simp; omega)) _)))) (by omega)).mono ?_
  rintro e w1 ⟨_, rfl, ⟨p, rfl, p0, p1⟩, hcn, hgn⟩
  have hT : Cur w1 (g) (k + 2) ∧ (∀ j, j < ([-1200, -1000, -975, 0, 100, 4525, 9900, 9999, 10000, 35000, 35025, 50175, 50200, 126700, 126800, 130000, -2000, -2001, 130001] : List Int).length → w1.cell? ((⟨w.heap.size, 0, none⟩ : Addr).add j) = some (.int .i64 (nth [-1200, -1000, -975, 0, 100, 4525, 9900, 9999, 10000, 35000, 35025, 50175, 50200, 126700, 126800, 130000, -2000, -2001, 130001] j))) ∧ w.grownBy w1 (some g) := (fun W h hgn => ⟨hcn, (fun j hj => hgn.cell ((h.2.1) j hj) (by rw [block_of_add]; intro e; injection e with e; (try dsimp only at e); omega)), grown_trans (h.2.2) hgn⟩ : ∀ W : World, (Cur W (g) (k) ∧ (∀ j, j < ([-1200, -1000, -975, 0, 100, 4525, 9900, 9999, 10000, 35000, 35025, 50175, 50200, 126700, 126800, 130000, -2000, -2001, 130001] : List Int).length → W.cell? ((⟨w.heap.size, 0, none⟩ : Addr).add j) = some (.int .i64 (nth [-1200, -1000, -975, 0, 100, 4525, 9900, 9999, 10000, 35000, 35025, 50175, 50200, 126700, 126800, 130000, -2000, -2001, 130001] j))) ∧ w.grownBy W (some g)) → W.grownBy w1 (some (g)) → (Cur w1 (g) (k + 2) ∧ (∀ j, j < ([-1200, -1000, -975, 0, 100, 4525, 9900, 9999, 10000, 35000, 35025, 50175, 50200, 126700, 126800, 130000, -2000, -2001, 130001] : List Int).length → w1.cell? ((⟨w.heap.size, 0, none⟩ : Addr).add j) = some (.int .i64 (nth [-1200, -1000, -975, 0, 100, 4525, 9900, 9999, 10000, 35000, 35025, 50175, 50200, 126700, 126800, 130000, -2000, -2001, 130001] j))) ∧ w.grownBy w1 (some g))) _ ⟨(by repeat' (first | (with_reducible exact hc.out) | (with_reducible refine Cur.drew ?_) | (with_reducible refine Cur.alloc ?_ _) | (with_reducible refine Cur.setc ?_ (by first | omega | (simp; done) | (simp; omega)) _))), (by first | (with_reducible assumption) | (exact lit_at (by rfl) (by first | rfl | (with_reducible assumption) | simp))), (by repeat' (first | (with_reducible assumption) | (with_reducible exact gb_refl _ _) | (with_reducible refine gb_drew ?_) | (with_reducible refine gb_alloc ?_ _) | (with_reducible refine gb_seta ?_ (by first | omega | (simp; done) | (simp; omega)) _)))⟩ hgn
  (try clear hS)
  have hS := hT
  clear hT hcn hgn
  have hS2 := hS
  obtain ⟨hq0, q0, hF⟩ := hS2
  have hgl : g < w1.heap.size := hq0.lt
  have hzw : w.heap.size ≤ w1.heap.size := hF.size
  have hp9 : p.tdiv 11 = 0 ∨ p.tdiv 11 = 1 ∨ p.tdiv 11 = 2 := by rw [Int.tdiv_eq_ediv_of_nonneg p0]; omega
  rcases hp9 with hp9 | hp9 | hp9
  · go_wp2_with fail
    refine (among_c (-2001) (130001) (List.take 17 [-1200, -1000, -975, 0, 100, 4525, 9900, 9999, 10000, 35000, 35025, 50175, 50200, 126700, 126800, 130000, -2000, -2001, 130001]) _ _ (g) (k + 2) _ (hide (by repeat' (first | (with_reducible exact hS.1) | (with_reducible refine Cur.drew ?_) | (with_reducible refine Cur.alloc ?_ _) | (with_reducible refine Cur.setc ?_ (by first | omega | (simp; done) | (simp; omega)) _)))) (by omega) (hide (lit_take 17 hS.2.1)) (by intro e; (try dsimp only at e); omega) ⟨by decide, by decide⟩ (hide (by decide))).mono ?_
    rintro e w2 ⟨_, rfl, ⟨x, rfl, x0, x1⟩, hcn, hgn⟩
    have hT : Cur w2 (g) (k + 4) ∧ (∀ j, j < ([-1200, -1000, -975, 0, 100, 4525, 9900, 9999, 10000, 35000, 35025, 50175, 50200, 126700, 126800, 130000, -2000, -2001, 130001] : List Int).length → w2.cell? ((⟨w.heap.size, 0, none⟩ : Addr).add j) = some (.int .i64 (nth [-1200, -1000, -975, 0, 100, 4525, 9900, 9999, 10000, 35000, 35025, 50175, 50200, 126700, 126800, 130000, -2000, -2001, 130001] j))) ∧ w.grownBy w2 (some g) := (fun W h hgn => ⟨hcn, (fun j hj => hgn.cell ((h.2.1) j hj) (by rw [block_of_add]; intro e; injection e with e; (try dsimp only at e); omega)), grown_trans (h.2.2) hgn⟩ : ∀ W : World, (Cur W (g) (k + 2) ∧ (∀ j, j < ([-1200, -1000, -975, 0, 100, 4525, 9900, 9999, 10000, 35000, 35025, 50175, 50200, 126700, 126800, 130000, -2000, -2001, 130001] : List Int).length → W.cell? ((⟨w.heap.size, 0, none⟩ : Addr).add j) = some (.int .i64 (nth [-1200, -1000, -975, 0, 100, 4525, 9900, 9999, 10000, 35000, 35025, 50175, 50200, 126700, 126800, 130000, -2000, -2001, 130001] j))) ∧ w.grownBy W (some g)) → W.grownBy w2 (some (g)) → (Cur w2 (g) (k + 4) ∧ (∀ j, j < ([-1200, -1000, -975, 0, 100, 4525, 9900, 9999, 10000, 35000, 35025, 50175, 50200, 126700, 126800, 130000, -2000, -2001, 130001] : List Int).length → w2.cell? ((⟨w.heap.size, 0, none⟩ : Addr).add j) = some (.int .i64 (nth [-1200, -1000, -975, 0, 100, 4525, 9900, 9999, 10000, 35000, 35025, 50175, 50200, 126700, 126800, 130000, -2000, -2001, 130001] j))) ∧ w.grownBy w2 (some g))) _ ⟨(by repeat' (first | (with_reducible exact hS.1) | (with_reducible refine Cur.drew ?_) | (with_reducible refine Cur.alloc ?_ _) | (with_reducible refine Cur.setc ?_ (by first | omega | (simp; done) | (simp; omega)) _))), (by first | (with_reducible assumption) | (exact lit_at (by rfl) (by first | rfl | (with_reducible assumption) | simp))), (by repeat' (first | (with_reducible assumption) | (with_reducible exact gb_refl _ _) | (with_reducible refine gb_drew ?_) | (with_reducible refine gb_alloc ?_ _) | (with_reducible refine gb_seta ?_ (by first | omega | (simp; done) | (simp; omega)) _)))⟩ hgn
    (try clear hS)
    have hS := hT
    clear hT hcn hgn
    have hS2 := hS
    obtain ⟨hq0, q0, hF⟩ := hS2
    have hgl : g < w2.heap.size := hq0.lt
    have hzw : w.heap.size ≤ w2.heap.size := hF.size
    go_wp2
    go_returns
    exact ⟨_, rfl, ⟨_, rfl, x0, x1⟩, (by repeat' (first | (with_reducible exact hS.1) | (with_reducible refine Cur.drew ?_) | (with_reducible refine Cur.alloc ?_ _) | (with_reducible refine Cur.setc ?_ (by first | omega | (simp; done) | (simp; omega)) _))), (by repeat' (first | (with_reducible assumption) | (with_reducible exact gb_refl _ _) | (with_reducible refine gb_drew ?_) | (with_reducible refine gb_alloc ?_ _) | (with_reducible refine gb_seta ?_ (by first | omega | (simp; done) | (simp; omega)) _)))⟩
  · go_wp2_with fail
    refine (among_c (-2001) (130001) (List.take 18 [-1200, -1000, -975, 0, 100, 4525, 9900, 9999, 10000, 35000, 35025, 50175, 50200, 126700, 126800, 130000, -2000, -2001, 130001]) _ _ (g) (k + 2) _ (hide (by repeat' (first | (with_reducible exact hS.1) | (with_reducible refine Cur.drew ?_) | (with_reducible refine Cur.alloc ?_ _) | (with_reducible refine Cur.setc ?_ (by first | omega | (simp; done) | (simp; omega)) _)))) (by omega) (hide (lit_take 18 hS.2.1)) (by intro e; (try dsimp only at e); omega) ⟨by decide, by decide⟩ (hide (by decide))).mono ?_
    rintro e w2 ⟨_, rfl, ⟨x, rfl, x0, x1⟩, hcn, hgn⟩
    have hT : Cur w2 (g) (k + 4) ∧ (∀ j, j < ([-1200, -1000, -975, 0, 100, 4525, 9900, 9999, 10000, 35000, 35025, 50175, 50200, 126700, 126800, 130000, -2000, -2001, 130001] : List Int).length → w2.cell? ((⟨w.heap.size, 0, none⟩ : Addr).add j) = some (.int .i64 (nth [-1200, -1000, -975, 0, 100, 4525, 9900, 9999, 10000, 35000, 35025, 50175, 50200, 126700, 126800, 130000, -2000, -2001, 130001] j))) ∧ w.grownBy w2 (some g) := (fun W h hgn => ⟨hcn, (fun j hj => hgn.cell ((h.2.1) j hj) (by rw [block_of_add]; intro e; injection e with e; (try dsimp only at e); omega)), grown_trans (h.2.2) hgn⟩ : ∀ W : World, (Cur W (g) (k + 2) ∧ (∀ j, j < ([-1200, -1000, -975, 0, 100, 4525, 9900, 9999, 10000, 35000, 35025, 50175, 50200, 126700, 126800, 130000, -2000, -2001, 130001] : List Int).length → W.cell? ((⟨w.heap.size, 0, none⟩ : Addr).add j) = some (.int .i64 (nth [-1200, -1000, -975, 0, 100, 4525, 9900, 9999, 10000, 35000, 35025, 50175, 50200, 126700, 126800, 130000, -2000, -2001, 130001] j))) ∧ w.grownBy W (some g)) → W.grownBy w2 (some (g)) → (Cur w2 (g) (k + 4) ∧ (∀ j, j < ([-1200, -1000, -975, 0, 100, 4525, 9900, 9999, 10000, 35000, 35025, 50175, 50200, 126700, 126800, 130000, -2000, -2001, 130001] : List Int).length → w2.cell? ((⟨w.heap.size, 0, none⟩ : Addr).add j) = some (.int .i64 (nth [-1200, -1000, -975, 0, 100, 4525, 9900, 9999, 10000, 35000, 35025, 50175, 50200, 126700, 126800, 130000, -2000, -2001, 130001] j))) ∧ w.grownBy w2 (some g))) _ ⟨(by repeat' (first | (with_reducible exact hS.1) | (with_reducible refine Cur.drew ?_) | (with_reducible refine Cur.alloc ?_ _) | (with_reducible refine Cur.setc ?_ (by first | omega | (simp; done) | (simp; omega)) _))), (by first | (with_reducible assumption) | (exact lit_at (by rfl) (by first | rfl | (with_reducible assumption) | simp))), (by repeat' (first | (with_reducible assumption) | (with_reducible exact gb_refl _ _) | (with_reducible refine gb_drew ?_) | (with_reducible refine gb_alloc ?_ _) | (with_reducible refine gb_seta ?_ (by first | omega | (simp; done) | (simp; omega)) _)))⟩ hgn
    (try clear hS)
    have hS := hT
    clear hT hcn hgn
    have hS2 := hS
    obtain ⟨hq0, q0, hF⟩ := hS2
    have hgl : g < w2.heap.size := hq0.lt
    have hzw : w.heap.size ≤ w2.heap.size := hF.size
    go_wp2
    go_returns
    exact ⟨_, rfl, ⟨_, rfl, x0, x1⟩, (by repeat' (first | (with_reducible exact hS.1) | (with_reducible refine Cur.drew ?_) | (with_reducible refine Cur.alloc ?_ _) | (with_reducible refine Cur.setc ?_ (by first | omega | (simp; done) | (simp; omega)) _))), (by repeat' (first | (with_reducible assumption) | (with_reducible exact gb_refl _ _) | (with_reducible refine gb_drew ?_) | (with_reducible refine gb_alloc ?_ _) | (with_reducible refine gb_seta ?_ (by first | omega | (simp; done) | (simp; omega)) _)))⟩
  · go_wp2_with fail
    refine (among_c (-2001) (130001) (List.take 19 [-1200, -1000, -975, 0, 100, 4525, 9900, 9999, 10000, 35000, 35025, 50175, 50200, 126700, 126800, 130000, -2000, -2001, 130001]) _ _ (g) (k + 2) _ (hide (by repeat' (first | (with_reducible exact hS.1) | (with_reducible refine Cur.drew ?_) | (with_reducible refine Cur.alloc ?_ _) | (with_reducible refine Cur.setc ?_ (by first | omega | (simp; done) | (simp; omega)) _)))) (by omega) (hide (lit_take 19 hS.2.1)) (by intro e; (try dsimp only at e); omega) ⟨by decide, by decide⟩ (hide (by decide))).mono ?_
    rintro e w2 ⟨_, rfl, ⟨x, rfl, x0, x1⟩, hcn, hgn⟩
    have hT : Cur w2 (g) (k + 4) ∧ (∀ j, j < ([-1200, -1000, -975, 0, 100, 4525, 9900, 9999, 10000, 35000, 35025, 50175, 50200, 126700, 126800, 130000, -2000, -2001, 130001] : List Int).length → w2.cell? ((⟨w.heap.size, 0, none⟩ : Addr).add j) = some (.int .i64 (nth [-1200, -1000, -975, 0, 100, 4525, 9900, 9999, 10000, 35000, 35025, 50175, 50200, 126700, 126800, 130000, -2000, -2001, 130001] j))) ∧ w.grownBy w2 (some g) := (fun W h hgn => ⟨hcn, (fun j hj => hgn.cell ((h.2.1) j hj) (by rw [block_of_add]; intro e; injection e with e; (try dsimp only at e); omega)), grown_trans (h.2.2) hgn⟩ : ∀ W : World, (Cur W (g) (k + 2) ∧ (∀ j, j < ([-1200, -1000, -975, 0, 100, 4525, 9900, 9999, 10000, 35000, 35025, 50175, 50200, 126700, 126800, 130000, -2000, -2001, 130001] : List Int).length → W.cell? ((⟨w.heap.size, 0, none⟩ : Addr).add j) = some (.int .i64 (nth [-1200, -1000, -975, 0, 100, 4525, 9900, 9999, 10000, 35000, 35025, 50175, 50200, 126700, 126800, 130000, -2000, -2001, 130001] j))) ∧ w.grownBy W (some g)) → W.grownBy w2 (some (g)) → (Cur w2 (g) (k + 4) ∧ (∀ j, j < ([-1200, -1000, -975, 0, 100, 4525, 9900, 9999, 10000, 35000, 35025, 50175, 50200, 126700, 126800, 130000, -2000, -2001, 130001] : List Int).length → w2.cell? ((⟨w.heap.size, 0, none⟩ : Addr).add j) = some (.int .i64 (nth [-1200, -1000, -975, 0, 100, 4525, 9900, 9999, 10000, 35000, 35025, 50175, 50200, 126700, 126800, 130000, -2000, -2001, 130001] j))) ∧ w.grownBy w2 (some g))) _ ⟨(by repeat' (first | (with_reducible exact hS.1) | (with_reducible refine Cur.drew ?_) | (with_reducible refine Cur.alloc ?_ _) | (with_reducible refine Cur.setc ?_ (by first | omega | (simp; done) | (simp; omega)) _))), (by first | (with_reducible assumption) | (exact lit_at (by rfl) (by first | rfl | (with_reducible assumption) | simp))), (by repeat' (first | (with_reducible assumption) | (with_reducible exact gb_refl _ _) | (with_reducible refine gb_drew ?_) | (with_reducible refine gb_alloc ?_ _) | (with_reducible refine gb_seta ?_ (by first | omega | (simp; done) | (simp; omega)) _)))⟩ hgn
    (try clear hS)
    have hS := hT
    clear hT hcn hgn
    have hS2 := hS
    obtain ⟨hq0, q0, hF⟩ := hS2
    have hgl : g < w2.heap.size := hq0.lt
    have hzw : w.heap.size ≤ w2.heap.size := hF.size
    go_wp2
    go_returns
    exact ⟨_, rfl, ⟨_, rfl, x0, x1⟩, (by repeat' (first | (with_reducible exact hS.1) | (with_reducible refine Cur.drew ?_) | (with_reducible refine Cur.alloc ?_ _) | (with_reducible refine Cur.setc ?_ (by first | omega | (simp; done) | (simp; omega)) _))), (by repeat' (first | (with_reducible assumption) | (with_reducible exact gb_refl _ _) | (with_reducible refine gb_drew ?_) | (with_reducible refine gb_alloc ?_ _) | (with_reducible refine gb_seta ?_ (by first | omega | (simp; done) | (simp; omega)) _)))⟩
end Go.Proofs.Ythgnnldokdddfaa
