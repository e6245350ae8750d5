/- Contracts: what is drawn for the law of blind points. -/
import Derived.Deep.DeepCutAuto
import Derived.Test.YtnocgcfepkdjeaaDrC
import Derived.Test.YtnocgcfepkdjeaaSplit
import Derived.Test.YtnocgcfepkdjeaaLite
namespace Go.Proofs.Ytnocgcfepkdjeaa
open Go.RowKit

def DrawsL (E : TypeId) (w : World) (e : Ending) (w' : World) : Prop := ∃ (l : List Pt) (A : Option Addr) (c : Nat), e = .returned (.slice A l.length c) ∧ w'.ownsRow w.heap.size E 2 (.slice A l.length c) l.length (flat l) ∧ l.length ≤ 6 ∧ (∀ p ∈ l, (-1000 ≤ p.1 ∧ p.1 ≤ 1000) ∧ -1000 ≤ p.2 ∧ p.2 ≤ 1000) ∧ Below w.heap.size w w'

theorem drawValidS_c (A : Option Addr) (n c : Nat) (w : World) (h1 : Hid (CodeOk w A n)) (hn : n ≤ 65536)  : Calls Try.prog 107 #[.slice A n c] w (DrawsL 32 w) := by
  go_enter Try.func107, Try.ntmps107
  go_wp2_with fail
  refine (sites_c (w.heap.size) (0) _ (hide (cur_new (h1.out.below (by go_grown)) hn (by first | rfl | (simp; done)) 0)) (by omega)).mono ?_
  rintro e w1 ⟨_, rfl, ⟨l, A1, c1, rfl, ho, hl6, hp6⟩, hcn, hgn⟩
  have hT : Cur w1 (w.heap.size) (0 + 30) ∧ Below w.heap.size w w1 := (fun W h hgn => ⟨hcn, below_gb (h.2) hgn (h.2).size (by first | omega | (simp; done) | (simp; omega))⟩ : ∀ W : World, (Cur W (w.heap.size) (0) ∧ Below w.heap.size w W) → W.grownBy w1 (some (w.heap.size)) → (Cur w1 (w.heap.size) (0 + 30) ∧ Below w.heap.size w w1)) _ ⟨(cur_new (h1.out.below (by go_grown)) hn (by first | rfl | (simp; done)) 0), (by go_grown)⟩ hgn
  (try clear hS)
  have hS := hT
  clear hT hcn hgn
  have hS2 := hS
  obtain ⟨hq0, hF⟩ := hS2
  have hgl : w.heap.size < w1.heap.size := hq0.lt
  have hzw : w.heap.size ≤ w1.heap.size := hF.size
  have hB := hF
  have hlb : (w.heap.size) < (w.heap.size + 1) := Nat.lt_succ_self _
  have ho1 := own_mono ho (base' := w.heap.size + 1) (by simp)
  clear ho
  have hT : Cur w1 (w.heap.size) (0 + 30) ∧ w1.ownsRow (w.heap.size + 1) 32 2 (.slice A1 l.length c1) (l.length) (flat l) ∧ Below w.heap.size w w1 := ⟨hS.1, ho1, hS.2⟩
  clear hS
  have hS := hT
  clear hT ho1 hq0 hF
  have hS2 := hS
  obtain ⟨hq0, q0, hF⟩ := hS2
  have hgl : w.heap.size < w1.heap.size := hq0.lt
  have hzw : w.heap.size ≤ w1.heap.size := hF.size
  have hB := hF
  go_wp2
  go_returns
  exact ⟨l, A1, c1, rfl, own_mono q0 (by omega), hl6, hp6, by go_grown⟩

theorem drawBlind_c (A : Option Addr) (n c : Nat) (w : World) (h1 : Hid (CodeOk w A n)) (hn : n ≤ 65536)  : Calls Try.prog 64 #[.slice A n c] w (DrawsL 32 w) := by
  go_enter Try.func64, Try.ntmps64
  go_wp2_with fail
  refine (drawValidS_c A n c _ (hide (h1.out.below (by go_grown))) hn).mono ?_
  rintro e w1 ⟨l, A1, c1, rfl, r1, hl6, hp6, hb⟩
  go_wp2
  go_returns
  exact ⟨l, A1, c1, rfl, r1, hl6, hp6, hb⟩

theorem drawSpr_c (A : Option Addr) (n c : Nat) (w : World) (h1 : Hid (CodeOk w A n)) (hn : n ≤ 65536)  : Calls Try.prog 68 #[.slice A n c] w (DrawsLAP 32 3 w) := by
  go_enter Try.func68, Try.ntmps68
  go_wp2_with fail
  refine (sites_c (w.heap.size + 1) (0) _ (hide (cur_new (h1.out.below (by go_grown)) hn (by first | rfl | (simp; done)) 0)) (by omega)).mono ?_
  rintro e w1 ⟨_, rfl, ⟨l, A1, c1, rfl, ho, hl6, hp6⟩, hcn, hgn⟩
  have hT : Cur w1 (w.heap.size + 1) (0 + 30) ∧ (w.heap.size < w1.heap.size ∧ ∀ i, w1.frozen? ⟨w.heap.size, i, none⟩ = false) ∧ w1.cell? ⟨w.heap.size, 0, none⟩ = some (.int .i64 (0)) ∧ w1.cell? ⟨w.heap.size, 1, none⟩ = some (.int .i64 (0)) ∧ Below w.heap.size w w1 := (fun W h hgn => ⟨hcn, fre_gb (h.2.1) hgn (by intro e; injection e with e; (try dsimp only at e); omega), hgn.cell (h.2.2.1) (by intro e; injection e with e; (try dsimp only at e); omega), hgn.cell (h.2.2.2.1) (by intro e; injection e with e; (try dsimp only at e); omega), below_gb (h.2.2.2.2) hgn (h.2.2.2.2).size (by first | omega | (simp; done) | (simp; omega))⟩ : ∀ W : World, (Cur W (w.heap.size + 1) (0) ∧ (w.heap.size < W.heap.size ∧ ∀ i, W.frozen? ⟨w.heap.size, i, none⟩ = false) ∧ W.cell? ⟨w.heap.size, 0, none⟩ = some (.int .i64 (0)) ∧ W.cell? ⟨w.heap.size, 1, none⟩ = some (.int .i64 (0)) ∧ Below w.heap.size w W) → W.grownBy w1 (some (w.heap.size + 1)) → (Cur w1 (w.heap.size + 1) (0 + 30) ∧ (w.heap.size < w1.heap.size ∧ ∀ i, w1.frozen? ⟨w.heap.size, i, none⟩ = false) ∧ w1.cell? ⟨w.heap.size, 0, none⟩ = some (.int .i64 (0)) ∧ w1.cell? ⟨w.heap.size, 1, none⟩ = some (.int .i64 (0)) ∧ Below w.heap.size w w1)) _ ⟨(cur_new (h1.out.below (by go_grown)) hn (by first | rfl | (simp; done)) 0), (by first | (with_reducible assumption) | (simp [go_sem]; done) | (refine keep_fre ?_ ⟨by with_reducible assumption, by with_reducible assumption⟩; go_grown; done) | (simp [go_sem, *]; done)), (by first | (with_reducible assumption) | (simp [go_sem]; done) | ((simp only [go_sem]); (with_reducible assumption)) | ((refine keep_cell ?_ (by with_reducible assumption)); go_grown; done) | (simp [go_sem, *]; done) | (rw [World.cell?_setCell_other _ _ _ _ (by simp; omega)]; with_reducible assumption) | (rw [World.cell?_setCell_other _ _ _ _ (by simp; omega), World.cell?_setCell_other _ _ _ _ (by simp; omega)]; with_reducible assumption)), (by first | (with_reducible assumption) | (simp [go_sem]; done) | ((simp only [go_sem]); (with_reducible assumption)) | ((refine keep_cell ?_ (by with_reducible assumption)); go_grown; done) | (simp [go_sem, *]; done) | (rw [World.cell?_setCell_other _ _ _ _ (by simp; omega)]; with_reducible assumption) | (rw [World.cell?_setCell_other _ _ _ _ (by simp; omega), World.cell?_setCell_other _ _ _ _ (by simp; omega)]; with_reducible assumption)), (by go_grown)⟩ hgn
  (try clear hS)
  have hS := hT
  clear hT hcn hgn
  have hS2 := hS
  obtain ⟨hq0, ⟨f0, fr0⟩, q1, q2, hF⟩ := hS2
  have hgl : w.heap.size + 1 < w1.heap.size := hq0.lt
  have hzw : w.heap.size ≤ w1.heap.size := hF.size
  have hB := hF
  have hz1 : w.heap.size < w1.heap.size := World.block_lt_of_cell? w1 _ q1
  have hlb : (w.heap.size + 1) < (w.heap.size + 1 + 1) := Nat.lt_succ_self _
  have ho1 := own_mono ho (base' := w.heap.size + 1 + 1) (by simp)
  clear ho
  have hT : Cur w1 (w.heap.size + 1) (0 + 30) ∧ w1.ownsRow (w.heap.size + 1 + 1) 32 2 (.slice A1 l.length c1) (l.length) (flat l) ∧ (w.heap.size < w1.heap.size ∧ ∀ i, w1.frozen? ⟨w.heap.size, i, none⟩ = false) ∧ w1.cell? ⟨w.heap.size, 0, none⟩ = some (.int .i64 (0)) ∧ w1.cell? ⟨w.heap.size, 1, none⟩ = some (.int .i64 (0)) ∧ Below w.heap.size w w1 := ⟨hS.1, ho1, hS.2⟩
  clear hS
  have hS := hT
  clear hT ho1 hq0 hF
  have hS2 := hS
  obtain ⟨hq0, q0, ⟨f1, fr1⟩, q2, q3, hF⟩ := hS2
  have hgl : w.heap.size + 1 < w1.heap.size := hq0.lt
  have hzw : w.heap.size ≤ w1.heap.size := hF.size
  have hB := hF
  have hz1 : w.heap.size < w1.heap.size := World.block_lt_of_cell? w1 _ q2
  go_wp2_with fail
  refine (arrivalsD_c A1 c1 (w.heap.size + 1 + 1) l (w.heap.size + 1) (0 + 30) _ (hide (by repeat' (first | (with_reducible exact hS.1) | (with_reducible refine Cur.drew ?_) | (with_reducible refine Cur.alloc ?_ _) | (with_reducible refine Cur.setc ?_ (by first | omega | (simp; done) | (simp; omega)) _)))) (by omega) (hide (by first | (with_reducible assumption) | (exact hS.2.1) | ((refine own_below (by with_reducible assumption) ?_); go_grown))) (by omega) hl6 (hide hp6)).mono ?_
  rintro e w2 ⟨_, rfl, ⟨a, A2, c2, rfl, hoa, ha7⟩, hcn, hgn⟩
  have hT : Cur w2 (w.heap.size + 1) (0 + 44) ∧ w2.ownsRow (w.heap.size + 1 + 1) 32 2 (.slice A1 l.length c1) (l.length) (flat l) ∧ (w.heap.size < w2.heap.size ∧ ∀ i, w2.frozen? ⟨w.heap.size, i, none⟩ = false) ∧ w2.cell? ⟨w.heap.size, 0, none⟩ = some (.int .i64 (0)) ∧ w2.cell? ⟨w.heap.size, 1, none⟩ = some (.int .i64 (0)) ∧ Below w.heap.size w w2 := (fun W h hgn => ⟨hcn, World.ownsRow.kept (h.2.1) hgn (own_far (h.2.1) (by first | omega | (simp; done) | (simp; omega))), fre_gb (h.2.2.1) hgn (by intro e; injection e with e; (try dsimp only at e); omega), hgn.cell (h.2.2.2.1) (by intro e; injection e with e; (try dsimp only at e); omega), hgn.cell (h.2.2.2.2.1) (by intro e; injection e with e; (try dsimp only at e); omega), below_gb (h.2.2.2.2.2) hgn (h.2.2.2.2.2).size (by first | omega | (simp; done) | (simp; omega))⟩ : ∀ W : World, (Cur W (w.heap.size + 1) (0 + 30) ∧ W.ownsRow (w.heap.size + 1 + 1) 32 2 (.slice A1 l.length c1) (l.length) (flat l) ∧ (w.heap.size < W.heap.size ∧ ∀ i, W.frozen? ⟨w.heap.size, i, none⟩ = false) ∧ W.cell? ⟨w.heap.size, 0, none⟩ = some (.int .i64 (0)) ∧ W.cell? ⟨w.heap.size, 1, none⟩ = some (.int .i64 (0)) ∧ Below w.heap.size w W) → W.grownBy w2 (some (w.heap.size + 1)) → (Cur w2 (w.heap.size + 1) (0 + 44) ∧ w2.ownsRow (w.heap.size + 1 + 1) 32 2 (.slice A1 l.length c1) (l.length) (flat l) ∧ (w.heap.size < w2.heap.size ∧ ∀ i, w2.frozen? ⟨w.heap.size, i, none⟩ = false) ∧ w2.cell? ⟨w.heap.size, 0, none⟩ = some (.int .i64 (0)) ∧ w2.cell? ⟨w.heap.size, 1, none⟩ = some (.int .i64 (0)) ∧ Below w.heap.size w w2)) _ ⟨(by repeat' (first | (with_reducible exact hS.1) | (with_reducible refine Cur.drew ?_) | (with_reducible refine Cur.alloc ?_ _) | (with_reducible refine Cur.setc ?_ (by first | omega | (simp; done) | (simp; omega)) _))), (by first | (with_reducible assumption) | (exact hS.2.1) | ((refine own_below (by with_reducible assumption) ?_); go_grown)), (by first | (with_reducible assumption) | (simp [go_sem]; done) | (refine keep_fre ?_ ⟨by with_reducible assumption, by with_reducible assumption⟩; go_grown; done) | (simp [go_sem, *]; done)), (by first | (with_reducible assumption) | (simp [go_sem]; done) | ((simp only [go_sem]); (with_reducible assumption)) | ((refine keep_cell ?_ (by with_reducible assumption)); go_grown; done) | (simp [go_sem, *]; done) | (rw [World.cell?_setCell_other _ _ _ _ (by simp; omega)]; with_reducible assumption) | (rw [World.cell?_setCell_other _ _ _ _ (by simp; omega), World.cell?_setCell_other _ _ _ _ (by simp; omega)]; with_reducible assumption)), (by first | (with_reducible assumption) | (simp [go_sem]; done) | ((simp only [go_sem]); (with_reducible assumption)) | ((refine keep_cell ?_ (by with_reducible assumption)); go_grown; done) | (simp [go_sem, *]; done) | (rw [World.cell?_setCell_other _ _ _ _ (by simp; omega)]; with_reducible assumption) | (rw [World.cell?_setCell_other _ _ _ _ (by simp; omega), World.cell?_setCell_other _ _ _ _ (by simp; omega)]; with_reducible assumption)), (by go_grown)⟩ hgn
  (try clear hS)
  have hS := hT
  clear hT hcn hgn
  have hS2 := hS
  obtain ⟨hq0, q0, ⟨f1, fr1⟩, q2, q3, hF⟩ := hS2
  have hgl : w.heap.size + 1 < w2.heap.size := hq0.lt
  have hzw : w.heap.size ≤ w2.heap.size := hF.size
  have hB := hF
  have hz1 : w.heap.size < w2.heap.size := World.block_lt_of_cell? w2 _ q2
  have hoa1 := own_mono hoa (base' := w.heap.size + 1 + 1) (by first | omega | (simp; omega))
  clear hoa
  have hT : Cur w2 (w.heap.size + 1) (0 + 44) ∧ w2.ownsRow (w.heap.size + 1 + 1) 3 1 (.slice A2 a.length c2) (a.length) (ints a) ∧ w2.ownsRow (w.heap.size + 1 + 1) 32 2 (.slice A1 l.length c1) (l.length) (flat l) ∧ (w.heap.size < w2.heap.size ∧ ∀ i, w2.frozen? ⟨w.heap.size, i, none⟩ = false) ∧ w2.cell? ⟨w.heap.size, 0, none⟩ = some (.int .i64 (0)) ∧ w2.cell? ⟨w.heap.size, 1, none⟩ = some (.int .i64 (0)) ∧ Below w.heap.size w w2 := ⟨hS.1, hoa1, hS.2⟩
  clear hS
  have hS := hT
  clear hT hoa1 hq0 hF
  have hS2 := hS
  obtain ⟨hq0, q0, q1, ⟨f2, fr2⟩, q3, q4, hF⟩ := hS2
  have hgl : w.heap.size + 1 < w2.heap.size := hq0.lt
  have hzw : w.heap.size ≤ w2.heap.size := hF.size
  have hB := hF
  have hz1 : w.heap.size < w2.heap.size := World.block_lt_of_cell? w2 _ q3
  go_wp2_with fail
  refine (anyPoint_c (w.heap.size + 1) (0 + 44) _ (hide (by repeat' (first | (with_reducible exact hS.1) | (with_reducible refine Cur.drew ?_) | (with_reducible refine Cur.alloc ?_ _) | (with_reducible refine Cur.setc ?_ (by first | omega | (simp; done) | (simp; omega)) _)))) (by omega)).mono ?_
  rintro e w3 ⟨_, rfl, ⟨x, y, rfl, ⟨x0, x1⟩, y0, y1⟩, hcn, hgn⟩
  have hT : Cur w3 (w.heap.size + 1) (0 + 52) ∧ w3.ownsRow (w.heap.size + 1 + 1) 3 1 (.slice A2 a.length c2) (a.length) (ints a) ∧ w3.ownsRow (w.heap.size + 1 + 1) 32 2 (.slice A1 l.length c1) (l.length) (flat l) ∧ (w.heap.size < w3.heap.size ∧ ∀ i, w3.frozen? ⟨w.heap.size, i, none⟩ = false) ∧ w3.cell? ⟨w.heap.size, 0, none⟩ = some (.int .i64 (0)) ∧ w3.cell? ⟨w.heap.size, 1, none⟩ = some (.int .i64 (0)) ∧ Below w.heap.size w w3 := (fun W h hgn => ⟨hcn, World.ownsRow.kept (h.2.1) hgn (own_far (h.2.1) (by first | omega | (simp; done) | (simp; omega))), World.ownsRow.kept (h.2.2.1) hgn (own_far (h.2.2.1) (by first | omega | (simp; done) | (simp; omega))), fre_gb (h.2.2.2.1) hgn (by intro e; injection e with e; (try dsimp only at e); omega), hgn.cell (h.2.2.2.2.1) (by intro e; injection e with e; (try dsimp only at e); omega), hgn.cell (h.2.2.2.2.2.1) (by intro e; injection e with e; (try dsimp only at e); omega), below_gb (h.2.2.2.2.2.2) hgn (h.2.2.2.2.2.2).size (by first | omega | (simp; done) | (simp; omega))⟩ : ∀ W : World, (Cur W (w.heap.size + 1) (0 + 44) ∧ W.ownsRow (w.heap.size + 1 + 1) 3 1 (.slice A2 a.length c2) (a.length) (ints a) ∧ W.ownsRow (w.heap.size + 1 + 1) 32 2 (.slice A1 l.length c1) (l.length) (flat l) ∧ (w.heap.size < W.heap.size ∧ ∀ i, W.frozen? ⟨w.heap.size, i, none⟩ = false) ∧ W.cell? ⟨w.heap.size, 0, none⟩ = some (.int .i64 (0)) ∧ W.cell? ⟨w.heap.size, 1, none⟩ = some (.int .i64 (0)) ∧ Below w.heap.size w W) → W.grownBy w3 (some (w.heap.size + 1)) → (Cur w3 (w.heap.size + 1) (0 + 52) ∧ w3.ownsRow (w.heap.size + 1 + 1) 3 1 (.slice A2 a.length c2) (a.length) (ints a) ∧ w3.ownsRow (w.heap.size + 1 + 1) 32 2 (.slice A1 l.length c1) (l.length) (flat l) ∧ (w.heap.size < w3.heap.size ∧ ∀ i, w3.frozen? ⟨w.heap.size, i, none⟩ = false) ∧ w3.cell? ⟨w.heap.size, 0, none⟩ = some (.int .i64 (0)) ∧ w3.cell? ⟨w.heap.size, 1, none⟩ = some (.int .i64 (0)) ∧ Below w.heap.size w w3)) _ ⟨(by repeat' (first | (with_reducible exact hS.1) | (with_reducible refine Cur.drew ?_) | (with_reducible refine Cur.alloc ?_ _) | (with_reducible refine Cur.setc ?_ (by first | omega | (simp; done) | (simp; omega)) _))), (by first | (with_reducible assumption) | (exact hS.2.1) | ((refine own_below (by with_reducible assumption) ?_); go_grown)), (by first | (with_reducible assumption) | (exact hS.2.2.1) | ((refine own_below (by with_reducible assumption) ?_); go_grown)), (by first | (with_reducible assumption) | (simp [go_sem]; done) | (refine keep_fre ?_ ⟨by with_reducible assumption, by with_reducible assumption⟩; go_grown; done) | (simp [go_sem, *]; done)), (by first | (with_reducible assumption) | (simp [go_sem]; done) | ((simp only [go_sem]); (with_reducible assumption)) | ((refine keep_cell ?_ (by with_reducible assumption)); go_grown; done) | (simp [go_sem, *]; done) | (rw [World.cell?_setCell_other _ _ _ _ (by simp; omega)]; with_reducible assumption) | (rw [World.cell?_setCell_other _ _ _ _ (by simp; omega), World.cell?_setCell_other _ _ _ _ (by simp; omega)]; with_reducible assumption)), (by first | (with_reducible assumption) | (simp [go_sem]; done) | ((simp only [go_sem]); (with_reducible assumption)) | ((refine keep_cell ?_ (by with_reducible assumption)); go_grown; done) | (simp [go_sem, *]; done) | (rw [World.cell?_setCell_other _ _ _ _ (by simp; omega)]; with_reducible assumption) | (rw [World.cell?_setCell_other _ _ _ _ (by simp; omega), World.cell?_setCell_other _ _ _ _ (by simp; omega)]; with_reducible assumption)), (by go_grown)⟩ hgn
  (try clear hS)
  have hS := hT
  clear hT hcn hgn
  have hS2 := hS
  obtain ⟨hq0, q0, q1, ⟨f2, fr2⟩, q3, q4, hF⟩ := hS2
  have hgl : w.heap.size + 1 < w3.heap.size := hq0.lt
  have hzw : w.heap.size ≤ w3.heap.size := hF.size
  have hB := hF
  have hz1 : w.heap.size < w3.heap.size := World.block_lt_of_cell? w3 _ q3
  obtain ⟨d0, d1, d2, d3⟩ := box2_sets q3 q4 (.int .i64 x) (.int .i64 y)
  go_wp2
  refine bodyPost_ret (by simp [results, Try.results68, go_sem, d2, d3]; try rfl) rfl ?_
  exact ⟨l, A1, c1, a, A2, c2, x, y, rfl, own_mono (own_set2 (own_set2 q1 (by show w.heap.size < _; omega) _) (by show w.heap.size < _; omega) _) (by omega), own_mono (own_set2 (own_set2 q0 (by show w.heap.size < _; omega) _) (by show w.heap.size < _; omega) _) (by omega), hl6, ha7, hp6, by omega, by omega, by go_grown⟩

theorem drawSendT_c (A : Option Addr) (n c : Nat) (w : World) (h1 : Hid (CodeOk w A n)) (hn : n ≤ 65536)  : Calls Try.prog 66 #[.slice A n c] w (DrawsLAP 32 3 w) := by
  go_enter Try.func66, Try.ntmps66
  go_wp2_with fail
  refine (sites_c (w.heap.size + 1) (0) _ (hide (cur_new (h1.out.below (by go_grown)) hn (by first | rfl | (simp; done)) 0)) (by omega)).mono ?_
  rintro e w1 ⟨_, rfl, ⟨l, A1, c1, rfl, ho, hl6, hp6⟩, hcn, hgn⟩
  have hT : Cur w1 (w.heap.size + 1) (0 + 30) ∧ (w.heap.size < w1.heap.size ∧ ∀ i, w1.frozen? ⟨w.heap.size, i, none⟩ = false) ∧ w1.cell? ⟨w.heap.size, 0, none⟩ = some (.int .i64 (0)) ∧ w1.cell? ⟨w.heap.size, 1, none⟩ = some (.int .i64 (0)) ∧ Below w.heap.size w w1 := (fun W h hgn => ⟨hcn, fre_gb (h.2.1) hgn (by intro e; injection e with e; (try dsimp only at e); omega), hgn.cell (h.2.2.1) (by intro e; injection e with e; (try dsimp only at e); omega), hgn.cell (h.2.2.2.1) (by intro e; injection e with e; (try dsimp only at e); omega), below_gb (h.2.2.2.2) hgn (h.2.2.2.2).size (by first | omega | (simp; done) | (simp; omega))⟩ : ∀ W : World, (Cur W (w.heap.size + 1) (0) ∧ (w.heap.size < W.heap.size ∧ ∀ i, W.frozen? ⟨w.heap.size, i, none⟩ = false) ∧ W.cell? ⟨w.heap.size, 0, none⟩ = some (.int .i64 (0)) ∧ W.cell? ⟨w.heap.size, 1, none⟩ = some (.int .i64 (0)) ∧ Below w.heap.size w W) → W.grownBy w1 (some (w.heap.size + 1)) → (Cur w1 (w.heap.size + 1) (0 + 30) ∧ (w.heap.size < w1.heap.size ∧ ∀ i, w1.frozen? ⟨w.heap.size, i, none⟩ = false) ∧ w1.cell? ⟨w.heap.size, 0, none⟩ = some (.int .i64 (0)) ∧ w1.cell? ⟨w.heap.size, 1, none⟩ = some (.int .i64 (0)) ∧ Below w.heap.size w w1)) _ ⟨(cur_new (h1.out.below (by go_grown)) hn (by first | rfl | (simp; done)) 0), (by first | (with_reducible assumption) | (simp [go_sem]; done) | (refine keep_fre ?_ ⟨by with_reducible assumption, by with_reducible assumption⟩; go_grown; done) | (simp [go_sem, *]; done)), (by first | (with_reducible assumption) | (simp [go_sem]; done) | ((simp only [go_sem]); (with_reducible assumption)) | ((refine keep_cell ?_ (by with_reducible assumption)); go_grown; done) | (simp [go_sem, *]; done) | (rw [World.cell?_setCell_other _ _ _ _ (by simp; omega)]; with_reducible assumption) | (rw [World.cell?_setCell_other _ _ _ _ (by simp; omega), World.cell?_setCell_other _ _ _ _ (by simp; omega)]; with_reducible assumption)), (by first | (with_reducible assumption) | (simp [go_sem]; done) | ((simp only [go_sem]); (with_reducible assumption)) | ((refine keep_cell ?_ (by with_reducible assumption)); go_grown; done) | (simp [go_sem, *]; done) | (rw [World.cell?_setCell_other _ _ _ _ (by simp; omega)]; with_reducible assumption) | (rw [World.cell?_setCell_other _ _ _ _ (by simp; omega), World.cell?_setCell_other _ _ _ _ (by simp; omega)]; with_reducible assumption)), (by go_grown)⟩ hgn
  (try clear hS)
  have hS := hT
  clear hT hcn hgn
  have hS2 := hS
  obtain ⟨hq0, ⟨f0, fr0⟩, q1, q2, hF⟩ := hS2
  have hgl : w.heap.size + 1 < w1.heap.size := hq0.lt
  have hzw : w.heap.size ≤ w1.heap.size := hF.size
  have hB := hF
  have hz1 : w.heap.size < w1.heap.size := World.block_lt_of_cell? w1 _ q1
  have hlb : (w.heap.size + 1) < (w.heap.size + 1 + 1) := Nat.lt_succ_self _
  have ho1 := own_mono ho (base' := w.heap.size + 1 + 1) (by simp)
  clear ho
  have hT : Cur w1 (w.heap.size + 1) (0 + 30) ∧ w1.ownsRow (w.heap.size + 1 + 1) 32 2 (.slice A1 l.length c1) (l.length) (flat l) ∧ (w.heap.size < w1.heap.size ∧ ∀ i, w1.frozen? ⟨w.heap.size, i, none⟩ = false) ∧ w1.cell? ⟨w.heap.size, 0, none⟩ = some (.int .i64 (0)) ∧ w1.cell? ⟨w.heap.size, 1, none⟩ = some (.int .i64 (0)) ∧ Below w.heap.size w w1 := ⟨hS.1, ho1, hS.2⟩
  clear hS
  have hS := hT
  clear hT ho1 hq0 hF
  have hS2 := hS
  obtain ⟨hq0, q0, ⟨f1, fr1⟩, q2, q3, hF⟩ := hS2
  have hgl : w.heap.size + 1 < w1.heap.size := hq0.lt
  have hzw : w.heap.size ≤ w1.heap.size := hF.size
  have hB := hF
  have hz1 : w.heap.size < w1.heap.size := World.block_lt_of_cell? w1 _ q2
  go_wp2_with fail
  refine (point_c (w.heap.size + 1) (0 + 30) _ (hide (by repeat' (first | (with_reducible exact hS.1) | (with_reducible refine Cur.drew ?_) | (with_reducible refine Cur.alloc ?_ _) | (with_reducible refine Cur.setc ?_ (by first | omega | (simp; done) | (simp; omega)) _)))) (by omega)).mono ?_
  rintro e w2 ⟨_, rfl, ⟨x, y, rfl, ⟨x0, x1⟩, y0, y1⟩, hcn, hgn⟩
  have hT : Cur w2 (w.heap.size + 1) (0 + 34) ∧ w2.ownsRow (w.heap.size + 1 + 1) 32 2 (.slice A1 l.length c1) (l.length) (flat l) ∧ (w.heap.size < w2.heap.size ∧ ∀ i, w2.frozen? ⟨w.heap.size, i, none⟩ = false) ∧ w2.cell? ⟨w.heap.size, 0, none⟩ = some (.int .i64 (0)) ∧ w2.cell? ⟨w.heap.size, 1, none⟩ = some (.int .i64 (0)) ∧ Below w.heap.size w w2 := (fun W h hgn => ⟨hcn, World.ownsRow.kept (h.2.1) hgn (own_far (h.2.1) (by first | omega | (simp; done) | (simp; omega))), fre_gb (h.2.2.1) hgn (by intro e; injection e with e; (try dsimp only at e); omega), hgn.cell (h.2.2.2.1) (by intro e; injection e with e; (try dsimp only at e); omega), hgn.cell (h.2.2.2.2.1) (by intro e; injection e with e; (try dsimp only at e); omega), below_gb (h.2.2.2.2.2) hgn (h.2.2.2.2.2).size (by first | omega | (simp; done) | (simp; omega))⟩ : ∀ W : World, (Cur W (w.heap.size + 1) (0 + 30) ∧ W.ownsRow (w.heap.size + 1 + 1) 32 2 (.slice A1 l.length c1) (l.length) (flat l) ∧ (w.heap.size < W.heap.size ∧ ∀ i, W.frozen? ⟨w.heap.size, i, none⟩ = false) ∧ W.cell? ⟨w.heap.size, 0, none⟩ = some (.int .i64 (0)) ∧ W.cell? ⟨w.heap.size, 1, none⟩ = some (.int .i64 (0)) ∧ Below w.heap.size w W) → W.grownBy w2 (some (w.heap.size + 1)) → (Cur w2 (w.heap.size + 1) (0 + 34) ∧ w2.ownsRow (w.heap.size + 1 + 1) 32 2 (.slice A1 l.length c1) (l.length) (flat l) ∧ (w.heap.size < w2.heap.size ∧ ∀ i, w2.frozen? ⟨w.heap.size, i, none⟩ = false) ∧ w2.cell? ⟨w.heap.size, 0, none⟩ = some (.int .i64 (0)) ∧ w2.cell? ⟨w.heap.size, 1, none⟩ = some (.int .i64 (0)) ∧ Below w.heap.size w w2)) _ ⟨(by repeat' (first | (with_reducible exact hS.1) | (with_reducible refine Cur.drew ?_) | (with_reducible refine Cur.alloc ?_ _) | (with_reducible refine Cur.setc ?_ (by first | omega | (simp; done) | (simp; omega)) _))), (by first | (with_reducible assumption) | (exact hS.2.1) | ((refine own_below (by with_reducible assumption) ?_); go_grown)), (by first | (with_reducible assumption) | (simp [go_sem]; done) | (refine keep_fre ?_ ⟨by with_reducible assumption, by with_reducible assumption⟩; go_grown; done) | (simp [go_sem, *]; done)), (by first | (with_reducible assumption) | (simp [go_sem]; done) | ((simp only [go_sem]); (with_reducible assumption)) | ((refine keep_cell ?_ (by with_reducible assumption)); go_grown; done) | (simp [go_sem, *]; done) | (rw [World.cell?_setCell_other _ _ _ _ (by simp; omega)]; with_reducible assumption) | (rw [World.cell?_setCell_other _ _ _ _ (by simp; omega), World.cell?_setCell_other _ _ _ _ (by simp; omega)]; with_reducible assumption)), (by first | (with_reducible assumption) | (simp [go_sem]; done) | ((simp only [go_sem]); (with_reducible assumption)) | ((refine keep_cell ?_ (by with_reducible assumption)); go_grown; done) | (simp [go_sem, *]; done) | (rw [World.cell?_setCell_other _ _ _ _ (by simp; omega)]; with_reducible assumption) | (rw [World.cell?_setCell_other _ _ _ _ (by simp; omega), World.cell?_setCell_other _ _ _ _ (by simp; omega)]; with_reducible assumption)), (by go_grown)⟩ hgn
  (try clear hS)
  have hS := hT
  clear hT hcn hgn
  have hS2 := hS
  obtain ⟨hq0, q0, ⟨f1, fr1⟩, q2, q3, hF⟩ := hS2
  have hgl : w.heap.size + 1 < w2.heap.size := hq0.lt
  have hzw : w.heap.size ≤ w2.heap.size := hF.size
  have hB := hF
  have hz1 : w.heap.size < w2.heap.size := World.block_lt_of_cell? w2 _ q2
  have hsm : Hid (small l) := hide (fun k hk => by have := hp6 _ (px_mem hk); simp only at this; omega)
  go_upto_region 4 with fail
  generalize hgw3 : World.alloc w2 _ = w3
  have hb : Below w2.heap.size w2 w3 := by rw [← hgw3]; go_grown
  obtain ⟨n9, n0, n1⟩ := al2 hgw3
  have hT := ai (hq0.below hb) <| ai (own_below q0 hb) <| ai (kf hb f1 fr1) <| ai (kc hb q2) <| ai (kc hb q3) <| ai (n9) <| ai (n0) <| ai (n1) <| below_via (hS.2.2.2.2.2) hb
  clear n9 n0 n1
  clear hS hb hgw3
  have hS := hT
  clear hT
  have hS2 := hS
  obtain ⟨hq0, q0, ⟨f1, fr1⟩, q2, q3, ⟨f4, fr4⟩, q5, q6, hF⟩ := hS2
  have hgl : w.heap.size + 1 < w3.heap.size := hq0.lt
  have hzw : w.heap.size ≤ w3.heap.size := hF.size
  have hB := hF
  have hz1 : w.heap.size < w3.heap.size := World.block_lt_of_cell? w3 _ q2
  have hz2 : w2.heap.size < w3.heap.size := World.block_lt_of_cell? w3 _ q5
  refine wp_region_all (by kernel_rfl) ?_
  obtain ⟨w4, hwq⟩ : ∃ W, World.drew w3 = W := ⟨_, rfl⟩
  have hb : Below w3.heap.size w3 w4 := by rw [← hwq]; go_grown
  rw [hwq]
  have hT := ai (hq0.below hb) <| ai (own_below q0 hb) <| ai (kf hb f1 fr1) <| ai (kc hb q2) <| ai (kc hb q3) <| ai (kf hb f4 fr4) <| ai (kc hb q5) <| ai (kc hb q6) <| below_via hF hb
  clear hS hb hwq
  have hS := hT
  clear hT
  have hS2 := hS
  obtain ⟨hq0, q0, ⟨f1, fr1⟩, q2, q3, ⟨f4, fr4⟩, q5, q6, hF⟩ := hS2
  have hgl : w.heap.size + 1 < w4.heap.size := hq0.lt
  have hzw : w.heap.size ≤ w4.heap.size := hF.size
  have hB := hF
  have hz1 : w.heap.size < w4.heap.size := World.block_lt_of_cell? w4 _ q2
  have hz2 : w2.heap.size < w4.heap.size := World.block_lt_of_cell? w4 _ q5
  refine all_seq_core [0, 1, 2, 3, 4, 5, 6] (fun W => W.cell? ⟨w2.heap.size, 0, none⟩ = some (.int .i64 (x)) ∧ W.cell? ⟨w2.heap.size, 1, none⟩ = some (.int .i64 (y)) ∧ Below w.heap.size w W) (Core.refl _) (by kernel_rfl) ⟨hS.2.2.2.2.2.2.1, hS.2.2.2.2.2.2.2.1, hS.2.2.2.2.2.2.2.2⟩ ?_
  simp only [byNum, List.getElem?_cons_zero, List.getElem?_cons_succ]
  repeat (first
    | ((refine seq_skip (by rfl) (by rfl) ?_); simp only [Act.put, List.setIfInBounds_toArray, List.set_cons_zero, List.set_cons_succ])
    | ((refine seq_val (v := ?_) (by rfl) (by rfl) (fun w hS => ?_) ?_); rotate_left; (focus ((try dsimp only at hS); go_simp; (try (with_reducible rfl)); done)); simp only [Act.put, List.setIfInBounds_toArray, List.set_cons_zero, List.set_cons_succ]))
  refine seq_deed (v := ?_) (w' := ?_) (by rfl) (by rfl) ?_ ?_
  rotate_left
  rotate_left
  focus (go_simp; (constructor <;> (with_reducible rfl)); done)
  generalize hgw5 : World.alloc w4 _ = w5
  have hb : Below w4.heap.size w4 w5 := by rw [← hgw5]; go_grown
  have hT : Cur w5 (w.heap.size + 1) (0 + 34) ∧ w5.ownsRow (w.heap.size + 1 + 1) 32 2 (.slice A1 l.length c1) (l.length) (flat l) ∧ (w.heap.size < w5.heap.size ∧ ∀ i, w5.frozen? ⟨w.heap.size, i, none⟩ = false) ∧ w5.cell? ⟨w.heap.size, 0, none⟩ = some (.int .i64 (0)) ∧ w5.cell? ⟨w.heap.size, 1, none⟩ = some (.int .i64 (0)) ∧ (w2.heap.size < w5.heap.size ∧ ∀ i, w5.frozen? ⟨w2.heap.size, i, none⟩ = false) ∧ w5.cell? ⟨w2.heap.size, 0, none⟩ = some (.int .i64 (x)) ∧ w5.cell? ⟨w2.heap.size, 1, none⟩ = some (.int .i64 (y)) ∧ (∀ j, j < ([0, 9, 100000] : List Int).length → w5.cell? ((⟨w4.heap.size, 0, none⟩ : Addr).add j) = some (.int .i64 (nth [0, 9, 100000] j))) ∧ Below w.heap.size w w5 := ⟨hS.1.below hb, own_below (hS.2.1) hb, keep_fre hb (hS.2.2.1), keep_cell hb (hS.2.2.2.1), keep_cell hb (hS.2.2.2.2.1), keep_fre hb (hS.2.2.2.2.2.1), keep_cell hb (hS.2.2.2.2.2.2.1), keep_cell hb (hS.2.2.2.2.2.2.2.1), (by rw [← hgw5]; exact lit_at (by rfl) (by simp)), below_via (hS.2.2.2.2.2.2.2.2) hb⟩
  clear hS hb hgw5
  have hS := hT
  clear hT
  have hS2 := hS
  obtain ⟨hq0, q0, ⟨f1, fr1⟩, q2, q3, ⟨f4, fr4⟩, q5, q6, q7, hF⟩ := hS2
  have hgl : w.heap.size + 1 < w5.heap.size := hq0.lt
  have hzw : w.heap.size ≤ w5.heap.size := hF.size
  have hB := hF
  have hz1 : w.heap.size < w5.heap.size := World.block_lt_of_cell? w5 _ q2
  have hz2 : w2.heap.size < w5.heap.size := World.block_lt_of_cell? w5 _ q5
  refine ⟨(fun W => W.cell? ⟨w2.heap.size, 0, none⟩ = some (.int .i64 (x)) ∧ W.cell? ⟨w2.heap.size, 1, none⟩ = some (.int .i64 (y)) ∧ Below w.heap.size w W), ⟨hS.2.2.2.2.2.2.1, hS.2.2.2.2.2.2.2.1, hS.2.2.2.2.2.2.2.2.2⟩, (fun W h => h), ?_⟩
  simp only [Act.put, List.setIfInBounds_toArray, List.set_cons_zero, List.set_cons_succ]
  repeat (first
    | ((refine seq_skip (by rfl) (by rfl) ?_); simp only [Act.put, List.setIfInBounds_toArray, List.set_cons_zero, List.set_cons_succ])
    | ((refine seq_val (v := ?_) (by rfl) (by rfl) (fun w hS => ?_) ?_); rotate_left; (focus ((try dsimp only at hS); go_simp; (try (with_reducible rfl)); done)); simp only [Act.put, List.setIfInBounds_toArray, List.set_cons_zero, List.set_cons_succ]))
  refine seq_call (f := ?_) (args := ?_) (by rfl) (by rfl) ?_ ?_
  rotate_left
  rotate_left
  focus (go_simp; (constructor <;> (with_reducible rfl)); done)
  refine (among_c (0) 100000 [0, 9, 100000] _ _ (w.heap.size + 1) (0 + 34) _ (hide (by repeat' (first | (with_reducible exact hS.1) | (with_reducible refine Cur.drew ?_) | (with_reducible refine Cur.alloc ?_ _) | (with_reducible refine Cur.setc ?_ (by first | omega | (simp; done) | (simp; omega)) _)))) (by omega) (hide q7) (by intro e; (try dsimp only at e); omega) ⟨by decide, by decide⟩ (hide (by decide))).mono ?_
  rintro e w6 ⟨_, rfl, ⟨t, rfl, t0, t1⟩, hcn, hgn⟩
  have hT : Cur w6 (w.heap.size + 1) (0 + 36) ∧ w6.ownsRow (w.heap.size + 1 + 1) 32 2 (.slice A1 l.length c1) (l.length) (flat l) ∧ (w.heap.size < w6.heap.size ∧ ∀ i, w6.frozen? ⟨w.heap.size, i, none⟩ = false) ∧ w6.cell? ⟨w.heap.size, 0, none⟩ = some (.int .i64 (0)) ∧ w6.cell? ⟨w.heap.size, 1, none⟩ = some (.int .i64 (0)) ∧ (w2.heap.size < w6.heap.size ∧ ∀ i, w6.frozen? ⟨w2.heap.size, i, none⟩ = false) ∧ w6.cell? ⟨w2.heap.size, 0, none⟩ = some (.int .i64 (x)) ∧ w6.cell? ⟨w2.heap.size, 1, none⟩ = some (.int .i64 (y)) ∧ (∀ j, j < ([0, 9, 100000] : List Int).length → w6.cell? ((⟨w4.heap.size, 0, none⟩ : Addr).add j) = some (.int .i64 (nth [0, 9, 100000] j))) ∧ Below w.heap.size w w6 := (fun W h hgn => ⟨hcn, World.ownsRow.kept (h.2.1) hgn (own_far (h.2.1) (by first | omega | (simp; done) | (simp; omega))), fre_gb (h.2.2.1) hgn (by intro e; injection e with e; (try dsimp only at e); omega), hgn.cell (h.2.2.2.1) (by intro e; injection e with e; (try dsimp only at e); omega), hgn.cell (h.2.2.2.2.1) (by intro e; injection e with e; (try dsimp only at e); omega), fre_gb (h.2.2.2.2.2.1) hgn (by intro e; injection e with e; (try dsimp only at e); omega), hgn.cell (h.2.2.2.2.2.2.1) (by intro e; injection e with e; (try dsimp only at e); omega), hgn.cell (h.2.2.2.2.2.2.2.1) (by intro e; injection e with e; (try dsimp only at e); omega), (fun j hj => hgn.cell ((h.2.2.2.2.2.2.2.2.1) j hj) (by rw [block_of_add]; intro e; injection e with e; (try dsimp only at e); omega)), below_gb (h.2.2.2.2.2.2.2.2.2) hgn (h.2.2.2.2.2.2.2.2.2).size (by first | omega | (simp; done) | (simp; omega))⟩ : ∀ W : World, (Cur W (w.heap.size + 1) (0 + 34) ∧ W.ownsRow (w.heap.size + 1 + 1) 32 2 (.slice A1 l.length c1) (l.length) (flat l) ∧ (w.heap.size < W.heap.size ∧ ∀ i, W.frozen? ⟨w.heap.size, i, none⟩ = false) ∧ W.cell? ⟨w.heap.size, 0, none⟩ = some (.int .i64 (0)) ∧ W.cell? ⟨w.heap.size, 1, none⟩ = some (.int .i64 (0)) ∧ (w2.heap.size < W.heap.size ∧ ∀ i, W.frozen? ⟨w2.heap.size, i, none⟩ = false) ∧ W.cell? ⟨w2.heap.size, 0, none⟩ = some (.int .i64 (x)) ∧ W.cell? ⟨w2.heap.size, 1, none⟩ = some (.int .i64 (y)) ∧ (∀ j, j < ([0, 9, 100000] : List Int).length → W.cell? ((⟨w4.heap.size, 0, none⟩ : Addr).add j) = some (.int .i64 (nth [0, 9, 100000] j))) ∧ Below w.heap.size w W) → W.grownBy w6 (some (w.heap.size + 1)) → (Cur w6 (w.heap.size + 1) (0 + 36) ∧ w6.ownsRow (w.heap.size + 1 + 1) 32 2 (.slice A1 l.length c1) (l.length) (flat l) ∧ (w.heap.size < w6.heap.size ∧ ∀ i, w6.frozen? ⟨w.heap.size, i, none⟩ = false) ∧ w6.cell? ⟨w.heap.size, 0, none⟩ = some (.int .i64 (0)) ∧ w6.cell? ⟨w.heap.size, 1, none⟩ = some (.int .i64 (0)) ∧ (w2.heap.size < w6.heap.size ∧ ∀ i, w6.frozen? ⟨w2.heap.size, i, none⟩ = false) ∧ w6.cell? ⟨w2.heap.size, 0, none⟩ = some (.int .i64 (x)) ∧ w6.cell? ⟨w2.heap.size, 1, none⟩ = some (.int .i64 (y)) ∧ (∀ j, j < ([0, 9, 100000] : List Int).length → w6.cell? ((⟨w4.heap.size, 0, none⟩ : Addr).add j) = some (.int .i64 (nth [0, 9, 100000] j))) ∧ Below w.heap.size w w6)) _ ⟨(by repeat' (first | (with_reducible exact hS.1) | (with_reducible refine Cur.drew ?_) | (with_reducible refine Cur.alloc ?_ _) | (with_reducible refine Cur.setc ?_ (by first | omega | (simp; done) | (simp; omega)) _))), (by first | (with_reducible assumption) | (exact hS.2.1) | ((refine own_below (by with_reducible assumption) ?_); go_grown)), (by first | (with_reducible assumption) | (simp [go_sem]; done) | (refine keep_fre ?_ ⟨by with_reducible assumption, by with_reducible assumption⟩; go_grown; done) | (simp [go_sem, *]; done)), (by first | (with_reducible assumption) | (simp [go_sem]; done) | ((simp only [go_sem]); (with_reducible assumption)) | ((refine keep_cell ?_ (by with_reducible assumption)); go_grown; done) | (simp [go_sem, *]; done) | (rw [World.cell?_setCell_other _ _ _ _ (by simp; omega)]; with_reducible assumption) | (rw [World.cell?_setCell_other _ _ _ _ (by simp; omega), World.cell?_setCell_other _ _ _ _ (by simp; omega)]; with_reducible assumption)), (by first | (with_reducible assumption) | (simp [go_sem]; done) | ((simp only [go_sem]); (with_reducible assumption)) | ((refine keep_cell ?_ (by with_reducible assumption)); go_grown; done) | (simp [go_sem, *]; done) | (rw [World.cell?_setCell_other _ _ _ _ (by simp; omega)]; with_reducible assumption) | (rw [World.cell?_setCell_other _ _ _ _ (by simp; omega), World.cell?_setCell_other _ _ _ _ (by simp; omega)]; with_reducible assumption)), (by first | (with_reducible assumption) | (simp [go_sem]; done) | (refine keep_fre ?_ ⟨by with_reducible assumption, by with_reducible assumption⟩; go_grown; done) | (simp [go_sem, *]; done)), (by first | (with_reducible assumption) | (simp [go_sem]; done) | ((simp only [go_sem]); (with_reducible assumption)) | ((refine keep_cell ?_ (by with_reducible assumption)); go_grown; done) | (simp [go_sem, *]; done) | (rw [World.cell?_setCell_other _ _ _ _ (by simp; omega)]; with_reducible assumption) | (rw [World.cell?_setCell_other _ _ _ _ (by simp; omega), World.cell?_setCell_other _ _ _ _ (by simp; omega)]; with_reducible assumption)), (by first | (with_reducible assumption) | (simp [go_sem]; done) | ((simp only [go_sem]); (with_reducible assumption)) | ((refine keep_cell ?_ (by with_reducible assumption)); go_grown; done) | (simp [go_sem, *]; done) | (rw [World.cell?_setCell_other _ _ _ _ (by simp; omega)]; with_reducible assumption) | (rw [World.cell?_setCell_other _ _ _ _ (by simp; omega), World.cell?_setCell_other _ _ _ _ (by simp; omega)]; with_reducible assumption)), (by first | (with_reducible assumption) | (exact lit_at (by rfl) (by first | rfl | (with_reducible assumption) | simp))), (by go_grown)⟩ hgn
  (try clear hS)
  have hS := hT
  clear hT hcn hgn
  have hS2 := hS
  obtain ⟨hq0, q0, ⟨f1, fr1⟩, q2, q3, ⟨f4, fr4⟩, q5, q6, q7, hF⟩ := hS2
  have hgl : w.heap.size + 1 < w6.heap.size := hq0.lt
  have hzw : w.heap.size ≤ w6.heap.size := hF.size
  have hB := hF
  have hz1 : w.heap.size < w6.heap.size := World.block_lt_of_cell? w6 _ q2
  have hz2 : w2.heap.size < w6.heap.size := World.block_lt_of_cell? w6 _ q5
  have hT : Cur w6 (w.heap.size + 1) (0 + 36) ∧ w6.ownsRow (w.heap.size + 1 + 1) 32 2 (.slice A1 l.length c1) (l.length) (flat l) ∧ (w.heap.size < w6.heap.size ∧ ∀ i, w6.frozen? ⟨w.heap.size, i, none⟩ = false) ∧ w6.cell? ⟨w.heap.size, 0, none⟩ = some (.int .i64 (0)) ∧ w6.cell? ⟨w.heap.size, 1, none⟩ = some (.int .i64 (0)) ∧ (w2.heap.size < w6.heap.size ∧ ∀ i, w6.frozen? ⟨w2.heap.size, i, none⟩ = false) ∧ w6.cell? ⟨w2.heap.size, 0, none⟩ = some (.int .i64 (x)) ∧ w6.cell? ⟨w2.heap.size, 1, none⟩ = some (.int .i64 (y)) ∧ Below w.heap.size w w6 := ⟨hS.1, hS.2.1, hS.2.2.1, hS.2.2.2.1, hS.2.2.2.2.1, hS.2.2.2.2.2.1, hS.2.2.2.2.2.2.1, hS.2.2.2.2.2.2.2.1, hS.2.2.2.2.2.2.2.2.2⟩
  clear hS
  have hS := hT
  clear hT
  have hS2 := hS
  obtain ⟨hq0, q0, ⟨f1, fr1⟩, q2, q3, ⟨f4, fr4⟩, q5, q6, hF⟩ := hS2
  have hgl : w.heap.size + 1 < w6.heap.size := hq0.lt
  have hzw : w.heap.size ≤ w6.heap.size := hF.size
  have hB := hF
  have hz1 : w.heap.size < w6.heap.size := World.block_lt_of_cell? w6 _ q2
  have hz2 : w2.heap.size < w6.heap.size := World.block_lt_of_cell? w6 _ q5
  refine ⟨_, rfl, (fun W => W.cell? ⟨w2.heap.size, 0, none⟩ = some (.int .i64 (x)) ∧ W.cell? ⟨w2.heap.size, 1, none⟩ = some (.int .i64 (y)) ∧ Below w.heap.size w W), ⟨hS.2.2.2.2.2.2.1, hS.2.2.2.2.2.2.2.1, hS.2.2.2.2.2.2.2.2⟩, (fun W h => h), ?_⟩
  simp only [Act.put, List.setIfInBounds_toArray, List.set_cons_zero, List.set_cons_succ]
  repeat (first
    | ((refine seq_skip (by rfl) (by rfl) ?_); simp only [Act.put, List.setIfInBounds_toArray, List.set_cons_zero, List.set_cons_succ])
    | ((refine seq_val (v := ?_) (by rfl) (by rfl) (fun w hS => ?_) ?_); rotate_left; (focus ((try dsimp only at hS); go_simp; (try (with_reducible rfl)); done)); simp only [Act.put, List.setIfInBounds_toArray, List.set_cons_zero, List.set_cons_succ]))
  refine seq_call (f := ?_) (args := ?_) (by rfl) (by rfl) ?_ ?_
  rotate_left
  rotate_left
  focus (go_simp; (constructor <;> (with_reducible rfl)); done)
  have hxx := hzw
  refine (l10Arrivals_c _ A1 c1 l x y t (hide (own_reads q0)) (by omega) hsm (by omega) (by omega) (by omega) (by omega) (by omega) (by omega)).mono ?_
  rintro e w7 ⟨A2, c2, rfl, hoa, hb⟩
  have hal := arrL_len l (x, y) t
  obtain ⟨a, ha⟩ : ∃ a, arrL l (x, y) t = a := ⟨_, rfl⟩
  rw [ha] at hoa hal
  clear ha
  have hal7 : a.length ≤ 7 := by omega
  have HAL := hide hal
  clear hal
  have hoa1 := own_mono hoa (base' := w.heap.size + 1 + 1) (by first | omega | (simp; omega))
  clear hoa
  have hT : Cur w7 (w.heap.size + 1) (0 + 36) ∧ w7.ownsRow (w.heap.size + 1 + 1) 3 1 (.slice A2 l.length c2) (l.length) (ints a) ∧ w7.ownsRow (w.heap.size + 1 + 1) 32 2 (.slice A1 l.length c1) (l.length) (flat l) ∧ (w.heap.size < w7.heap.size ∧ ∀ i, w7.frozen? ⟨w.heap.size, i, none⟩ = false) ∧ w7.cell? ⟨w.heap.size, 0, none⟩ = some (.int .i64 (0)) ∧ w7.cell? ⟨w.heap.size, 1, none⟩ = some (.int .i64 (0)) ∧ (w2.heap.size < w7.heap.size ∧ ∀ i, w7.frozen? ⟨w2.heap.size, i, none⟩ = false) ∧ w7.cell? ⟨w2.heap.size, 0, none⟩ = some (.int .i64 (x)) ∧ w7.cell? ⟨w2.heap.size, 1, none⟩ = some (.int .i64 (y)) ∧ Below w.heap.size w w7 := ⟨hS.1.below hb, hoa1, own_below (hS.2.1) hb, keep_fre hb (hS.2.2.1), keep_cell hb (hS.2.2.2.1), keep_cell hb (hS.2.2.2.2.1), keep_fre hb (hS.2.2.2.2.2.1), keep_cell hb (hS.2.2.2.2.2.2.1), keep_cell hb (hS.2.2.2.2.2.2.2.1), below_via (hS.2.2.2.2.2.2.2.2) hb⟩
  clear hS hb hoa1
  have hS := hT
  clear hT
  have hS2 := hS
  obtain ⟨hq0, q0, q1, ⟨f2, fr2⟩, q3, q4, ⟨f5, fr5⟩, q6, q7, hF⟩ := hS2
  have hgl : w.heap.size + 1 < w7.heap.size := hq0.lt
  have hzw : w.heap.size ≤ w7.heap.size := hF.size
  have hB := hF
  have hz1 : w.heap.size < w7.heap.size := World.block_lt_of_cell? w7 _ q3
  have hz2 : w2.heap.size < w7.heap.size := World.block_lt_of_cell? w7 _ q6
  refine ⟨_, rfl, (fun W => W.cell? ⟨w2.heap.size, 0, none⟩ = some (.int .i64 (x)) ∧ W.cell? ⟨w2.heap.size, 1, none⟩ = some (.int .i64 (y)) ∧ Below w.heap.size w W), ⟨hS.2.2.2.2.2.2.2.1, hS.2.2.2.2.2.2.2.2.1, hS.2.2.2.2.2.2.2.2.2⟩, (fun W h => h), ?_⟩
  simp only [Act.put, List.setIfInBounds_toArray, List.set_cons_zero, List.set_cons_succ]
  repeat (first
    | ((refine seq_skip (by rfl) (by rfl) ?_); simp only [Act.put, List.setIfInBounds_toArray, List.set_cons_zero, List.set_cons_succ])
    | ((refine seq_val (v := ?_) (by rfl) (by rfl) (fun w hS => ?_) ?_); rotate_left; (focus ((try dsimp only at hS); go_simp; (try (with_reducible rfl)); done)); simp only [Act.put, List.setIfInBounds_toArray, List.set_cons_zero, List.set_cons_succ]))
  refine seq_nil ?_
  go_wp2_with fail
  refine (one_c (3) (by omega) (w.heap.size + 1) (0 + 36) _ (hide (by repeat' (first | (with_reducible exact hS.1) | (with_reducible refine Cur.drew ?_) | (with_reducible refine Cur.alloc ?_ _) | (with_reducible refine Cur.setc ?_ (by first | omega | (simp; done) | (simp; omega)) _)))) (by omega)).mono ?_
  rintro e w8 ⟨_, rfl, ⟨o, rfl⟩, hcn, hgn⟩
  have hT : Cur w8 (w.heap.size + 1) (0 + 38) ∧ w8.ownsRow (w.heap.size + 1 + 1) 3 1 (.slice A2 l.length c2) (l.length) (ints a) ∧ w8.ownsRow (w.heap.size + 1 + 1) 32 2 (.slice A1 l.length c1) (l.length) (flat l) ∧ (w.heap.size < w8.heap.size ∧ ∀ i, w8.frozen? ⟨w.heap.size, i, none⟩ = false) ∧ w8.cell? ⟨w.heap.size, 0, none⟩ = some (.int .i64 (0)) ∧ w8.cell? ⟨w.heap.size, 1, none⟩ = some (.int .i64 (0)) ∧ (w2.heap.size < w8.heap.size ∧ ∀ i, w8.frozen? ⟨w2.heap.size, i, none⟩ = false) ∧ w8.cell? ⟨w2.heap.size, 0, none⟩ = some (.int .i64 (x)) ∧ w8.cell? ⟨w2.heap.size, 1, none⟩ = some (.int .i64 (y)) ∧ Below w.heap.size w w8 := (fun W h hgn => ⟨hcn, World.ownsRow.kept (h.2.1) hgn (own_far (h.2.1) (by first | omega | (simp; done) | (simp; omega))), World.ownsRow.kept (h.2.2.1) hgn (own_far (h.2.2.1) (by first | omega | (simp; done) | (simp; omega))), fre_gb (h.2.2.2.1) hgn (by intro e; injection e with e; (try dsimp only at e); omega), hgn.cell (h.2.2.2.2.1) (by intro e; injection e with e; (try dsimp only at e); omega), hgn.cell (h.2.2.2.2.2.1) (by intro e; injection e with e; (try dsimp only at e); omega), fre_gb (h.2.2.2.2.2.2.1) hgn (by intro e; injection e with e; (try dsimp only at e); omega), hgn.cell (h.2.2.2.2.2.2.2.1) (by intro e; injection e with e; (try dsimp only at e); omega), hgn.cell (h.2.2.2.2.2.2.2.2.1) (by intro e; injection e with e; (try dsimp only at e); omega), below_gb (h.2.2.2.2.2.2.2.2.2) hgn (h.2.2.2.2.2.2.2.2.2).size (by first | omega | (simp; done) | (simp; omega))⟩ : ∀ W : World, (Cur W (w.heap.size + 1) (0 + 36) ∧ W.ownsRow (w.heap.size + 1 + 1) 3 1 (.slice A2 l.length c2) (l.length) (ints a) ∧ W.ownsRow (w.heap.size + 1 + 1) 32 2 (.slice A1 l.length c1) (l.length) (flat l) ∧ (w.heap.size < W.heap.size ∧ ∀ i, W.frozen? ⟨w.heap.size, i, none⟩ = false) ∧ W.cell? ⟨w.heap.size, 0, none⟩ = some (.int .i64 (0)) ∧ W.cell? ⟨w.heap.size, 1, none⟩ = some (.int .i64 (0)) ∧ (w2.heap.size < W.heap.size ∧ ∀ i, W.frozen? ⟨w2.heap.size, i, none⟩ = false) ∧ W.cell? ⟨w2.heap.size, 0, none⟩ = some (.int .i64 (x)) ∧ W.cell? ⟨w2.heap.size, 1, none⟩ = some (.int .i64 (y)) ∧ Below w.heap.size w W) → W.grownBy w8 (some (w.heap.size + 1)) → (Cur w8 (w.heap.size + 1) (0 + 38) ∧ w8.ownsRow (w.heap.size + 1 + 1) 3 1 (.slice A2 l.length c2) (l.length) (ints a) ∧ w8.ownsRow (w.heap.size + 1 + 1) 32 2 (.slice A1 l.length c1) (l.length) (flat l) ∧ (w.heap.size < w8.heap.size ∧ ∀ i, w8.frozen? ⟨w.heap.size, i, none⟩ = false) ∧ w8.cell? ⟨w.heap.size, 0, none⟩ = some (.int .i64 (0)) ∧ w8.cell? ⟨w.heap.size, 1, none⟩ = some (.int .i64 (0)) ∧ (w2.heap.size < w8.heap.size ∧ ∀ i, w8.frozen? ⟨w2.heap.size, i, none⟩ = false) ∧ w8.cell? ⟨w2.heap.size, 0, none⟩ = some (.int .i64 (x)) ∧ w8.cell? ⟨w2.heap.size, 1, none⟩ = some (.int .i64 (y)) ∧ Below w.heap.size w w8)) _ ⟨(by repeat' (first | (with_reducible exact hS.1) | (with_reducible refine Cur.drew ?_) | (with_reducible refine Cur.alloc ?_ _) | (with_reducible refine Cur.setc ?_ (by first | omega | (simp; done) | (simp; omega)) _))), (by first | (with_reducible assumption) | (exact hS.2.1) | ((refine own_below (by with_reducible assumption) ?_); go_grown)), (by first | (with_reducible assumption) | (exact hS.2.2.1) | ((refine own_below (by with_reducible assumption) ?_); go_grown)), (by first | (with_reducible assumption) | (simp [go_sem]; done) | (refine keep_fre ?_ ⟨by with_reducible assumption, by with_reducible assumption⟩; go_grown; done) | (simp [go_sem, *]; done)), (by first | (with_reducible assumption) | (simp [go_sem]; done) | ((simp only [go_sem]); (with_reducible assumption)) | ((refine keep_cell ?_ (by with_reducible assumption)); go_grown; done) | (simp [go_sem, *]; done) | (rw [World.cell?_setCell_other _ _ _ _ (by simp; omega)]; with_reducible assumption) | (rw [World.cell?_setCell_other _ _ _ _ (by simp; omega), World.cell?_setCell_other _ _ _ _ (by simp; omega)]; with_reducible assumption)), (by first | (with_reducible assumption) | (simp [go_sem]; done) | ((simp only [go_sem]); (with_reducible assumption)) | ((refine keep_cell ?_ (by with_reducible assumption)); go_grown; done) | (simp [go_sem, *]; done) | (rw [World.cell?_setCell_other _ _ _ _ (by simp; omega)]; with_reducible assumption) | (rw [World.cell?_setCell_other _ _ _ _ (by simp; omega), World.cell?_setCell_other _ _ _ _ (by simp; omega)]; with_reducible assumption)), (by first | (with_reducible assumption) | (simp [go_sem]; done) | (refine keep_fre ?_ ⟨by with_reducible assumption, by with_reducible assumption⟩; go_grown; done) | (simp [go_sem, *]; done)), (by first | (with_reducible assumption) | (simp [go_sem]; done) | ((simp only [go_sem]); (with_reducible assumption)) | ((refine keep_cell ?_ (by with_reducible assumption)); go_grown; done) | (simp [go_sem, *]; done) | (rw [World.cell?_setCell_other _ _ _ _ (by simp; omega)]; with_reducible assumption) | (rw [World.cell?_setCell_other _ _ _ _ (by simp; omega), World.cell?_setCell_other _ _ _ _ (by simp; omega)]; with_reducible assumption)), (by first | (with_reducible assumption) | (simp [go_sem]; done) | ((simp only [go_sem]); (with_reducible assumption)) | ((refine keep_cell ?_ (by with_reducible assumption)); go_grown; done) | (simp [go_sem, *]; done) | (rw [World.cell?_setCell_other _ _ _ _ (by simp; omega)]; with_reducible assumption) | (rw [World.cell?_setCell_other _ _ _ _ (by simp; omega), World.cell?_setCell_other _ _ _ _ (by simp; omega)]; with_reducible assumption)), (by go_grown)⟩ hgn
  (try clear hS)
  have hS := hT
  clear hT hcn hgn
  have hS2 := hS
  obtain ⟨hq0, q0, q1, ⟨f2, fr2⟩, q3, q4, ⟨f5, fr5⟩, q6, q7, hF⟩ := hS2
  have hgl : w.heap.size + 1 < w8.heap.size := hq0.lt
  have hzw : w.heap.size ≤ w8.heap.size := hF.size
  have hB := hF
  have hz1 : w.heap.size < w8.heap.size := World.block_lt_of_cell? w8 _ q3
  have hz2 : w2.heap.size < w8.heap.size := World.block_lt_of_cell? w8 _ q6
  rcases o with _ | _
  · go_upto_region 7 with fail
    refine wp_region_all (by kernel_rfl) ?_
    obtain ⟨w9, hwq⟩ : ∃ W, World.drew w8 = W := ⟨_, rfl⟩
    have hb : Below w8.heap.size w8 w9 := by rw [← hwq]; go_grown
    rw [hwq]
    have hT := ai (hq0.below hb) <| ai (own_below q0 hb) <| ai (own_below q1 hb) <| ai (kf hb f2 fr2) <| ai (kc hb q3) <| ai (kc hb q4) <| ai (kf hb f5 fr5) <| ai (kc hb q6) <| ai (kc hb q7) <| below_via hF hb
    clear hS hb hwq
    have hS := hT
    clear hT
    have hS2 := hS
    obtain ⟨hq0, q0, q1, ⟨f2, fr2⟩, q3, q4, ⟨f5, fr5⟩, q6, q7, hF⟩ := hS2
    have hgl : w.heap.size + 1 < w9.heap.size := hq0.lt
    have hzw : w.heap.size ≤ w9.heap.size := hF.size
    have hB := hF
    have hz1 : w.heap.size < w9.heap.size := World.block_lt_of_cell? w9 _ q3
    have hz2 : w2.heap.size < w9.heap.size := World.block_lt_of_cell? w9 _ q6
    refine all_seq_core [0, 1, 2, 3, 4, 5] (fun W => W.cell? ⟨w2.heap.size, 0, none⟩ = some (.int .i64 (x)) ∧ W.cell? ⟨w2.heap.size, 1, none⟩ = some (.int .i64 (y)) ∧ Below w.heap.size w W) (Core.refl _) (by kernel_rfl) ⟨hS.2.2.2.2.2.2.2.1, hS.2.2.2.2.2.2.2.2.1, hS.2.2.2.2.2.2.2.2.2⟩ ?_
    simp only [byNum, List.getElem?_cons_zero, List.getElem?_cons_succ]
    repeat (first
      | ((refine seq_skip (by rfl) (by rfl) ?_); simp only [Act.put, List.setIfInBounds_toArray, List.set_cons_zero, List.set_cons_succ])
      | ((refine seq_val (v := ?_) (by rfl) (by rfl) (fun w hS => ?_) ?_); rotate_left; (focus ((try dsimp only at hS); go_simp; (try (with_reducible rfl)); done)); simp only [Act.put, List.setIfInBounds_toArray, List.set_cons_zero, List.set_cons_succ]))
    obtain ⟨w10, hw10⟩ : ∃ W, W = (w9.setCell ⟨w.heap.size, 0, none⟩ (.int .i64 (x))).setCell ⟨w.heap.size, 1, none⟩ (.int .i64 (y)) := ⟨_, rfl⟩
    obtain ⟨dd0, dd1, dd2, dd3⟩ := box2_sets q3 q4 (.int .i64 (x)) (.int .i64 (y))
    refine seq_store (w' := w10) (by rfl) (by rfl) (by rw [hw10]; go_simp; (try (with_reducible rfl)); done) ?_
    have hT : w10.ownsRow (w.heap.size + 1 + 1) 3 1 (.slice A2 l.length c2) (l.length) (ints a) ∧ w10.ownsRow (w.heap.size + 1 + 1) 32 2 (.slice A1 l.length c1) (l.length) (flat l) ∧ (w.heap.size < w10.heap.size ∧ ∀ i, w10.frozen? ⟨w.heap.size, i, none⟩ = false) ∧ w10.cell? ⟨w.heap.size, 0, none⟩ = some (.int .i64 (x)) ∧ w10.cell? ⟨w.heap.size, 1, none⟩ = some (.int .i64 (y)) ∧ (w2.heap.size < w10.heap.size ∧ ∀ i, w10.frozen? ⟨w2.heap.size, i, none⟩ = false) ∧ w10.cell? ⟨w2.heap.size, 0, none⟩ = some (.int .i64 (x)) ∧ w10.cell? ⟨w2.heap.size, 1, none⟩ = some (.int .i64 (y)) ∧ Below w.heap.size w w10 := by rw [hw10]; exact ⟨own_set2 (own_set2 q0 (by show w.heap.size < _; omega) _) (by show w.heap.size < _; omega) _, own_set2 (own_set2 q1 (by show w.heap.size < _; omega) _) (by show w.heap.size < _; omega) _, ⟨by simpa using f2, fun i => by simpa using fr2 i⟩, dd2, dd3, ⟨by simpa using f5, fun i => by simpa using fr5 i⟩, (box2_other (by omega) _ _ 0).trans q6, (box2_other (by omega) _ _ 1).trans q7, by go_grown⟩
    (try clear hS)
    have hS := hT
    clear hT dd0 dd1 dd2 dd3 hw10
    have hS2 := hS
    obtain ⟨q0, q1, ⟨f2, fr2⟩, q3, q4, ⟨f5, fr5⟩, q6, q7, hF⟩ := hS2
    have hzw : w.heap.size ≤ w10.heap.size := hF.size
    have hB := hF
    have hz1 : w.heap.size < w10.heap.size := World.block_lt_of_cell? w10 _ q3
    have hz2 : w2.heap.size < w10.heap.size := World.block_lt_of_cell? w10 _ q6
    refine ⟨(fun W => W.cell? ⟨w2.heap.size, 0, none⟩ = some (.int .i64 (x)) ∧ W.cell? ⟨w2.heap.size, 1, none⟩ = some (.int .i64 (y)) ∧ Below w.heap.size w W), ⟨hS.2.2.2.2.2.2.1, hS.2.2.2.2.2.2.2.1, hS.2.2.2.2.2.2.2.2⟩, (fun W h => h), ?_⟩
    simp only [Act.put, List.setIfInBounds_toArray, List.set_cons_zero, List.set_cons_succ]
    repeat (first
      | ((refine seq_skip (by rfl) (by rfl) ?_); simp only [Act.put, List.setIfInBounds_toArray, List.set_cons_zero, List.set_cons_succ])
      | ((refine seq_val (v := ?_) (by rfl) (by rfl) (fun w hS => ?_) ?_); rotate_left; (focus ((try dsimp only at hS); go_simp; (try (with_reducible rfl)); done)); simp only [Act.put, List.setIfInBounds_toArray, List.set_cons_zero, List.set_cons_succ]))
    refine seq_nil ?_
    go_wp2
    refine bodyPost_ret (by simp [results, Try.results66, go_sem, q3, q4]; try rfl) rfl ?_
    exact ⟨l, A1, c1, a, A2, c2, x, y, by rw [HAL.out], own_mono q1 (by omega), by rw [HAL.out]; exact own_mono q0 (by omega), hl6, by omega, hp6, by omega, by omega, by go_grown⟩
  · have hl9 := hl6
    go_wp2_with fail
    refine (arrivalsD_c A1 c1 (w.heap.size + 1 + 1) l (w.heap.size + 1) (0 + 38) _ (hide (by repeat' (first | (with_reducible exact hS.1) | (with_reducible refine Cur.drew ?_) | (with_reducible refine Cur.alloc ?_ _) | (with_reducible refine Cur.setc ?_ (by first | omega | (simp; done) | (simp; omega)) _)))) (by omega) (hide (by first | (with_reducible assumption) | (exact hS.2.2.1) | ((refine own_below (by with_reducible assumption) ?_); go_grown))) (by omega) hl6 (hide hp6)).mono ?_
    rintro e w9 ⟨_, rfl, ⟨a9, A9, c9, rfl, hoa, ha9⟩, hcn, hgn⟩
    have hT : Cur w9 (w.heap.size + 1) (0 + 52) ∧ w9.ownsRow (w.heap.size + 1 + 1) 3 1 (.slice A2 l.length c2) (l.length) (ints a) ∧ w9.ownsRow (w.heap.size + 1 + 1) 32 2 (.slice A1 l.length c1) (l.length) (flat l) ∧ (w.heap.size < w9.heap.size ∧ ∀ i, w9.frozen? ⟨w.heap.size, i, none⟩ = false) ∧ w9.cell? ⟨w.heap.size, 0, none⟩ = some (.int .i64 (0)) ∧ w9.cell? ⟨w.heap.size, 1, none⟩ = some (.int .i64 (0)) ∧ (w2.heap.size < w9.heap.size ∧ ∀ i, w9.frozen? ⟨w2.heap.size, i, none⟩ = false) ∧ w9.cell? ⟨w2.heap.size, 0, none⟩ = some (.int .i64 (x)) ∧ w9.cell? ⟨w2.heap.size, 1, none⟩ = some (.int .i64 (y)) ∧ Below w.heap.size w w9 := (fun W h hgn => ⟨hcn, World.ownsRow.kept (h.2.1) hgn (own_far (h.2.1) (by first | omega | (simp; done) | (simp; omega))), World.ownsRow.kept (h.2.2.1) hgn (own_far (h.2.2.1) (by first | omega | (simp; done) | (simp; omega))), fre_gb (h.2.2.2.1) hgn (by intro e; injection e with e; (try dsimp only at e); omega), hgn.cell (h.2.2.2.2.1) (by intro e; injection e with e; (try dsimp only at e); omega), hgn.cell (h.2.2.2.2.2.1) (by intro e; injection e with e; (try dsimp only at e); omega), fre_gb (h.2.2.2.2.2.2.1) hgn (by intro e; injection e with e; (try dsimp only at e); omega), hgn.cell (h.2.2.2.2.2.2.2.1) (by intro e; injection e with e; (try dsimp only at e); omega), hgn.cell (h.2.2.2.2.2.2.2.2.1) (by intro e; injection e with e; (try dsimp only at e); omega), below_gb (h.2.2.2.2.2.2.2.2.2) hgn (h.2.2.2.2.2.2.2.2.2).size (by first | omega | (simp; done) | (simp; omega))⟩ : ∀ W : World, (Cur W (w.heap.size + 1) (0 + 38) ∧ W.ownsRow (w.heap.size + 1 + 1) 3 1 (.slice A2 l.length c2) (l.length) (ints a) ∧ W.ownsRow (w.heap.size + 1 + 1) 32 2 (.slice A1 l.length c1) (l.length) (flat l) ∧ (w.heap.size < W.heap.size ∧ ∀ i, W.frozen? ⟨w.heap.size, i, none⟩ = false) ∧ W.cell? ⟨w.heap.size, 0, none⟩ = some (.int .i64 (0)) ∧ W.cell? ⟨w.heap.size, 1, none⟩ = some (.int .i64 (0)) ∧ (w2.heap.size < W.heap.size ∧ ∀ i, W.frozen? ⟨w2.heap.size, i, none⟩ = false) ∧ W.cell? ⟨w2.heap.size, 0, none⟩ = some (.int .i64 (x)) ∧ W.cell? ⟨w2.heap.size, 1, none⟩ = some (.int .i64 (y)) ∧ Below w.heap.size w W) → W.grownBy w9 (some (w.heap.size + 1)) → (Cur w9 (w.heap.size + 1) (0 + 52) ∧ w9.ownsRow (w.heap.size + 1 + 1) 3 1 (.slice A2 l.length c2) (l.length) (ints a) ∧ w9.ownsRow (w.heap.size + 1 + 1) 32 2 (.slice A1 l.length c1) (l.length) (flat l) ∧ (w.heap.size < w9.heap.size ∧ ∀ i, w9.frozen? ⟨w.heap.size, i, none⟩ = false) ∧ w9.cell? ⟨w.heap.size, 0, none⟩ = some (.int .i64 (0)) ∧ w9.cell? ⟨w.heap.size, 1, none⟩ = some (.int .i64 (0)) ∧ (w2.heap.size < w9.heap.size ∧ ∀ i, w9.frozen? ⟨w2.heap.size, i, none⟩ = false) ∧ w9.cell? ⟨w2.heap.size, 0, none⟩ = some (.int .i64 (x)) ∧ w9.cell? ⟨w2.heap.size, 1, none⟩ = some (.int .i64 (y)) ∧ Below w.heap.size w w9)) _ ⟨(by repeat' (first | (with_reducible exact hS.1) | (with_reducible refine Cur.drew ?_) | (with_reducible refine Cur.alloc ?_ _) | (with_reducible refine Cur.setc ?_ (by first | omega | (simp; done) | (simp; omega)) _))), (by first | (with_reducible assumption) | (exact hS.2.1) | ((refine own_below (by with_reducible assumption) ?_); go_grown)), (by first | (with_reducible assumption) | (exact hS.2.2.1) | ((refine own_below (by with_reducible assumption) ?_); go_grown)), (by first | (with_reducible assumption) | (simp [go_sem]; done) | (refine keep_fre ?_ ⟨by with_reducible assumption, by with_reducible assumption⟩; go_grown; done) | (simp [go_sem, *]; done)), (by first | (with_reducible assumption) | (simp [go_sem]; done) | ((simp only [go_sem]); (with_reducible assumption)) | ((refine keep_cell ?_ (by with_reducible assumption)); go_grown; done) | (simp [go_sem, *]; done) | (rw [World.cell?_setCell_other _ _ _ _ (by simp; omega)]; with_reducible assumption) | (rw [World.cell?_setCell_other _ _ _ _ (by simp; omega), World.cell?_setCell_other _ _ _ _ (by simp; omega)]; with_reducible assumption)), (by first | (with_reducible assumption) | (simp [go_sem]; done) | ((simp only [go_sem]); (with_reducible assumption)) | ((refine keep_cell ?_ (by with_reducible assumption)); go_grown; done) | (simp [go_sem, *]; done) | (rw [World.cell?_setCell_other _ _ _ _ (by simp; omega)]; with_reducible assumption) | (rw [World.cell?_setCell_other _ _ _ _ (by simp; omega), World.cell?_setCell_other _ _ _ _ (by simp; omega)]; with_reducible assumption)), (by first | (with_reducible assumption) | (simp [go_sem]; done) | (refine keep_fre ?_ ⟨by with_reducible assumption, by with_reducible assumption⟩; go_grown; done) | (simp [go_sem, *]; done)), (by first | (with_reducible assumption) | (simp [go_sem]; done) | ((simp only [go_sem]); (with_reducible assumption)) | ((refine keep_cell ?_ (by with_reducible assumption)); go_grown; done) | (simp [go_sem, *]; done) | (rw [World.cell?_setCell_other _ _ _ _ (by simp; omega)]; with_reducible assumption) | (rw [World.cell?_setCell_other _ _ _ _ (by simp; omega), World.cell?_setCell_other _ _ _ _ (by simp; omega)]; with_reducible assumption)), (by first | (with_reducible assumption) | (simp [go_sem]; done) | ((simp only [go_sem]); (with_reducible assumption)) | ((refine keep_cell ?_ (by with_reducible assumption)); go_grown; done) | (simp [go_sem, *]; done) | (rw [World.cell?_setCell_other _ _ _ _ (by simp; omega)]; with_reducible assumption) | (rw [World.cell?_setCell_other _ _ _ _ (by simp; omega), World.cell?_setCell_other _ _ _ _ (by simp; omega)]; with_reducible assumption)), (by go_grown)⟩ hgn
    (try clear hS)
    have hS := hT
    clear hT hcn hgn
    have hS2 := hS
    obtain ⟨hq0, q0, q1, ⟨f2, fr2⟩, q3, q4, ⟨f5, fr5⟩, q6, q7, hF⟩ := hS2
    have hgl : w.heap.size + 1 < w9.heap.size := hq0.lt
    have hzw : w.heap.size ≤ w9.heap.size := hF.size
    have hB := hF
    have hz1 : w.heap.size < w9.heap.size := World.block_lt_of_cell? w9 _ q3
    have hz2 : w2.heap.size < w9.heap.size := World.block_lt_of_cell? w9 _ q6
    have hoa1 := own_mono hoa (base' := w.heap.size + 1 + 1) (by first | omega | (simp; omega))
    clear hoa
    have hT : Cur w9 (w.heap.size + 1) (0 + 52) ∧ w9.ownsRow (w.heap.size + 1 + 1) 3 1 (.slice A9 a9.length c9) (a9.length) (ints a9) ∧ w9.ownsRow (w.heap.size + 1 + 1) 3 1 (.slice A2 l.length c2) (l.length) (ints a) ∧ w9.ownsRow (w.heap.size + 1 + 1) 32 2 (.slice A1 l.length c1) (l.length) (flat l) ∧ (w.heap.size < w9.heap.size ∧ ∀ i, w9.frozen? ⟨w.heap.size, i, none⟩ = false) ∧ w9.cell? ⟨w.heap.size, 0, none⟩ = some (.int .i64 (0)) ∧ w9.cell? ⟨w.heap.size, 1, none⟩ = some (.int .i64 (0)) ∧ (w2.heap.size < w9.heap.size ∧ ∀ i, w9.frozen? ⟨w2.heap.size, i, none⟩ = false) ∧ w9.cell? ⟨w2.heap.size, 0, none⟩ = some (.int .i64 (x)) ∧ w9.cell? ⟨w2.heap.size, 1, none⟩ = some (.int .i64 (y)) ∧ Below w.heap.size w w9 := ⟨hS.1, hoa1, hS.2⟩
    clear hS
    have hS := hT
    clear hT hoa1 hq0 hF
    have hS2 := hS
    obtain ⟨hq0, q0, q1, q2, ⟨f3, fr3⟩, q4, q5, ⟨f6, fr6⟩, q7, q8, hF⟩ := hS2
    have hgl : w.heap.size + 1 < w9.heap.size := hq0.lt
    have hzw : w.heap.size ≤ w9.heap.size := hF.size
    have hB := hF
    have hz1 : w.heap.size < w9.heap.size := World.block_lt_of_cell? w9 _ q4
    have hz2 : w2.heap.size < w9.heap.size := World.block_lt_of_cell? w9 _ q7
    go_upto_region 7 with fail
    refine wp_region_all (by kernel_rfl) ?_
    obtain ⟨w10, hwq⟩ : ∃ W, World.drew w9 = W := ⟨_, rfl⟩
    have hb : Below w9.heap.size w9 w10 := by rw [← hwq]; go_grown
    rw [hwq]
    have hT := ai (hq0.below hb) <| ai (own_below q0 hb) <| ai (own_below q1 hb) <| ai (own_below q2 hb) <| ai (kf hb f3 fr3) <| ai (kc hb q4) <| ai (kc hb q5) <| ai (kf hb f6 fr6) <| ai (kc hb q7) <| ai (kc hb q8) <| below_via hF hb
    clear hS hb hwq
    have hS := hT
    clear hT
    have hS2 := hS
    obtain ⟨hq0, q0, q1, q2, ⟨f3, fr3⟩, q4, q5, ⟨f6, fr6⟩, q7, q8, hF⟩ := hS2
    have hgl : w.heap.size + 1 < w10.heap.size := hq0.lt
    have hzw : w.heap.size ≤ w10.heap.size := hF.size
    have hB := hF
    have hz1 : w.heap.size < w10.heap.size := World.block_lt_of_cell? w10 _ q4
    have hz2 : w2.heap.size < w10.heap.size := World.block_lt_of_cell? w10 _ q7
    refine all_seq_core [0, 1, 2, 3, 4, 5] (fun W => W.cell? ⟨w2.heap.size, 0, none⟩ = some (.int .i64 (x)) ∧ W.cell? ⟨w2.heap.size, 1, none⟩ = some (.int .i64 (y)) ∧ Below w.heap.size w W) (Core.refl _) (by kernel_rfl) ⟨hS.2.2.2.2.2.2.2.2.1, hS.2.2.2.2.2.2.2.2.2.1, hS.2.2.2.2.2.2.2.2.2.2⟩ ?_
    simp only [byNum, List.getElem?_cons_zero, List.getElem?_cons_succ]
    repeat (first
      | ((refine seq_skip (by rfl) (by rfl) ?_); simp only [Act.put, List.setIfInBounds_toArray, List.set_cons_zero, List.set_cons_succ])
      | ((refine seq_val (v := ?_) (by rfl) (by rfl) (fun w hS => ?_) ?_); rotate_left; (focus ((try dsimp only at hS); go_simp; (try (with_reducible rfl)); done)); simp only [Act.put, List.setIfInBounds_toArray, List.set_cons_zero, List.set_cons_succ]))
    obtain ⟨w11, hw11⟩ : ∃ W, W = (w10.setCell ⟨w.heap.size, 0, none⟩ (.int .i64 (x))).setCell ⟨w.heap.size, 1, none⟩ (.int .i64 (y)) := ⟨_, rfl⟩
    obtain ⟨dd0, dd1, dd2, dd3⟩ := box2_sets q4 q5 (.int .i64 (x)) (.int .i64 (y))
    refine seq_store (w' := w11) (by rfl) (by rfl) (by rw [hw11]; go_simp; (try (with_reducible rfl)); done) ?_
    have hT : w11.ownsRow (w.heap.size + 1 + 1) 3 1 (.slice A9 a9.length c9) (a9.length) (ints a9) ∧ w11.ownsRow (w.heap.size + 1 + 1) 3 1 (.slice A2 l.length c2) (l.length) (ints a) ∧ w11.ownsRow (w.heap.size + 1 + 1) 32 2 (.slice A1 l.length c1) (l.length) (flat l) ∧ (w.heap.size < w11.heap.size ∧ ∀ i, w11.frozen? ⟨w.heap.size, i, none⟩ = false) ∧ w11.cell? ⟨w.heap.size, 0, none⟩ = some (.int .i64 (x)) ∧ w11.cell? ⟨w.heap.size, 1, none⟩ = some (.int .i64 (y)) ∧ (w2.heap.size < w11.heap.size ∧ ∀ i, w11.frozen? ⟨w2.heap.size, i, none⟩ = false) ∧ w11.cell? ⟨w2.heap.size, 0, none⟩ = some (.int .i64 (x)) ∧ w11.cell? ⟨w2.heap.size, 1, none⟩ = some (.int .i64 (y)) ∧ Below w.heap.size w w11 := by rw [hw11]; exact ⟨own_set2 (own_set2 q0 (by show w.heap.size < _; omega) _) (by show w.heap.size < _; omega) _, own_set2 (own_set2 q1 (by show w.heap.size < _; omega) _) (by show w.heap.size < _; omega) _, own_set2 (own_set2 q2 (by show w.heap.size < _; omega) _) (by show w.heap.size < _; omega) _, ⟨by simpa using f3, fun i => by simpa using fr3 i⟩, dd2, dd3, ⟨by simpa using f6, fun i => by simpa using fr6 i⟩, (box2_other (by omega) _ _ 0).trans q7, (box2_other (by omega) _ _ 1).trans q8, by go_grown⟩
    (try clear hS)
    have hS := hT
    clear hT dd0 dd1 dd2 dd3 hw11
    have hS2 := hS
    obtain ⟨q0, q1, q2, ⟨f3, fr3⟩, q4, q5, ⟨f6, fr6⟩, q7, q8, hF⟩ := hS2
    have hzw : w.heap.size ≤ w11.heap.size := hF.size
    have hB := hF
    have hz1 : w.heap.size < w11.heap.size := World.block_lt_of_cell? w11 _ q4
    have hz2 : w2.heap.size < w11.heap.size := World.block_lt_of_cell? w11 _ q7
    refine ⟨(fun W => W.cell? ⟨w2.heap.size, 0, none⟩ = some (.int .i64 (x)) ∧ W.cell? ⟨w2.heap.size, 1, none⟩ = some (.int .i64 (y)) ∧ Below w.heap.size w W), ⟨hS.2.2.2.2.2.2.2.1, hS.2.2.2.2.2.2.2.2.1, hS.2.2.2.2.2.2.2.2.2⟩, (fun W h => h), ?_⟩
    simp only [Act.put, List.setIfInBounds_toArray, List.set_cons_zero, List.set_cons_succ]
    repeat (first
      | ((refine seq_skip (by rfl) (by rfl) ?_); simp only [Act.put, List.setIfInBounds_toArray, List.set_cons_zero, List.set_cons_succ])
      | ((refine seq_val (v := ?_) (by rfl) (by rfl) (fun w hS => ?_) ?_); rotate_left; (focus ((try dsimp only at hS); go_simp; (try (with_reducible rfl)); done)); simp only [Act.put, List.setIfInBounds_toArray, List.set_cons_zero, List.set_cons_succ]))
    refine seq_nil ?_
    go_wp2
    refine bodyPost_ret (by simp [results, Try.results66, go_sem, q4, q5]; try rfl) rfl ?_
    exact ⟨l, A1, c1, a9, A9, c9, x, y, rfl, own_mono q2 (by omega), own_mono q0 (by omega), hl6, by omega, hp6, by omega, by omega, by go_grown⟩

theorem drawHelp_c (A : Option Addr) (n c : Nat) (w : World) (h1 : Hid (CodeOk w A n)) (hn : n ≤ 65536)  : Calls Try.prog 65 #[.slice A n c] w (DrawsLAI 32 3 w) := by
  go_enter Try.func65, Try.ntmps65
  go_wp2_with fail
  refine (drawFit_c A n c _ (hide (h1.out.below (by go_grown))) hn).mono ?_
  rintro e w1 ⟨l, A1, c1, a, A2, c2, x0, rfl, r1, r2, hl6, ha7, hp6, b0, hb⟩
  go_wp2
  go_returns
  exact ⟨l, A1, c1, a, A2, c2, x0, rfl, r1, r2, hl6, ha7, hp6, b0, hb⟩
end Go.Proofs.Ytnocgcfepkdjeaa
