/- Contracts: what is drawn for the laws of sites. -/
import Derived.Test.YtnocgcfepkdjeaaCurT
namespace Go.Proofs.Ytnocgcfepkdjeaa
open Go.RowKit

theorem own_set2 {w : World} {B e size n : Nat} {v : Value} {xs : List Value} (h : w.ownsRow B e size v n xs) {p : Addr} (hp : p.block < B) (u : Value) : (w.setCell p u).ownsRow B e size v n xs := by
  obtain ⟨h1, h2⟩ := h
  refine ⟨h1, ?_⟩
  rcases h2 with h2 | ⟨g, cap, cur, hv, hb, hh, h3⟩
  · exact Or.inl h2
  · exact Or.inr ⟨g, cap, cur, hv, hb, (Below.heap_setCell w p u g (by omega)).trans hh, h3⟩

def DrawsCover (E : TypeId) (w : World) (e : Ending) (w' : World) : Prop := ∃ (l : List Pt) (A : Option Addr) (c : Nat) (x y t : Int), e = .returned (.tuple #[.slice A l.length c, .agg #[.int .i64 x, .int .i64 y], .int .i64 t]) ∧ w'.ownsRow w.heap.size E 2 (.slice A l.length c) l.length (flat l) ∧ l.length ≤ 6 ∧ (∀ p ∈ l, (-1000 ≤ p.1 ∧ p.1 ≤ 1000) ∧ -1000 ≤ p.2 ∧ p.2 ≤ 1000) ∧ ((-1000000 ≤ x ∧ x ≤ 1000000) ∧ (-1000000 ≤ y ∧ y ≤ 1000000) ∧ -1000000 ≤ t ∧ t ≤ 1000000) ∧ Below w.heap.size w w'

def DrawsPts2 (E : TypeId) (w : World) (e : Ending) (w' : World) : Prop := ∃ (l : List Pt) (A : Option Addr) (c : Nat) (x y : Int), e = .returned (.tuple #[.slice A l.length c, .int .i64 x, .int .i64 y]) ∧ w'.ownsRow w.heap.size E 2 (.slice A l.length c) l.length (flat l) ∧ l.length ≤ 6 ∧ (∀ p ∈ l, (-1000 ≤ p.1 ∧ p.1 ≤ 1000) ∧ -1000 ≤ p.2 ∧ p.2 ≤ 1000) ∧ ((-1000000 ≤ x ∧ x ≤ 1000000) ∧ -1000000 ≤ y ∧ y ≤ 1000000) ∧ Below w.heap.size w w'

def DrawsPts1 (E : TypeId) (w : World) (e : Ending) (w' : World) : Prop := ∃ (l : List Pt) (A : Option Addr) (c : Nat) (x : Int), e = .returned (.tuple #[.slice A l.length c, .int .i64 x]) ∧ w'.ownsRow w.heap.size E 2 (.slice A l.length c) l.length (flat l) ∧ l.length ≤ 6 ∧ (∀ p ∈ l, (-1000 ≤ p.1 ∧ p.1 ≤ 1000) ∧ -1000 ≤ p.2 ∧ p.2 ≤ 1000) ∧ (-1000000 ≤ x ∧ x ≤ 1000000) ∧ Below w.heap.size w w'

theorem drawCover_c (A : Option Addr) (n c : Nat) (w : World) (h1 : Hid (CodeOk w A n)) (hn : n ≤ 65536)  : Calls Try.prog 28 #[.slice A n c] w (DrawsCover 32 w) := by
  go_enter Try.func28, Try.ntmps28
  go_wp2_with fail
  refine (sites_c (w.heap.size + 1) (0) _ (hide (cur_new (h1.out.below (by go_grown)) hn (by first | rfl | (simp; done)) 0)) (by omega)).mono ?_
  rintro e w1 ⟨_, rfl, ⟨l, A1, c1, rfl, ho, hl6, hp6⟩, hcn, hgn⟩
  have hT : Cur w1 (w.heap.size + 1) (0 + 30) ∧ (w.heap.size < w1.heap.size ∧ ∀ i, w1.frozen? ⟨w.heap.size, i, none⟩ = false) ∧ w1.cell? ⟨w.heap.size, 0, none⟩ = some (.int .i64 (0)) ∧ w1.cell? ⟨w.heap.size, 1, none⟩ = some (.int .i64 (0)) ∧ Below w.heap.size w w1 := (fun W h hgn => ⟨hcn, fre_gb (h.2.1) hgn (by intro e; injection e with e; (try dsimp only at e); omega), hgn.cell (h.2.2.1) (by intro e; injection e with e; (try dsimp only at e); omega), hgn.cell (h.2.2.2.1) (by intro e; injection e with e; (try dsimp only at e); omega), below_gb (h.2.2.2.2) hgn (h.2.2.2.2).size (by first | omega | (simp; done) | (simp; omega))⟩ : ∀ W : World, (Cur W (w.heap.size + 1) (0) ∧ (w.heap.size < W.heap.size ∧ ∀ i, W.frozen? ⟨w.heap.size, i, none⟩ = false) ∧ W.cell? ⟨w.heap.size, 0, none⟩ = some (.int .i64 (0)) ∧ W.cell? ⟨w.heap.size, 1, none⟩ = some (.int .i64 (0)) ∧ Below w.heap.size w W) → W.grownBy w1 (some (w.heap.size + 1)) → (Cur w1 (w.heap.size + 1) (0 + 30) ∧ (w.heap.size < w1.heap.size ∧ ∀ i, w1.frozen? ⟨w.heap.size, i, none⟩ = false) ∧ w1.cell? ⟨w.heap.size, 0, none⟩ = some (.int .i64 (0)) ∧ w1.cell? ⟨w.heap.size, 1, none⟩ = some (.int .i64 (0)) ∧ Below w.heap.size w w1)) _ ⟨(cur_new (h1.out.below (by go_grown)) hn (by first | rfl | (simp; done)) 0), (by first | (with_reducible assumption) | (simp [go_sem]; done) | (refine keep_fre ?_ ⟨by with_reducible assumption, by with_reducible assumption⟩; go_grown; done) | (simp [go_sem, *]; done)), (by first | (with_reducible assumption) | (simp [go_sem]; done) | ((simp only [go_sem]); (with_reducible assumption)) | ((refine keep_cell ?_ (by with_reducible assumption)); go_grown; done) | (simp [go_sem, *]; done) | (rw [World.cell?_setCell_other _ _ _ _ (by simp; omega)]; with_reducible assumption) | (rw [World.cell?_setCell_other _ _ _ _ (by simp; omega), World.cell?_setCell_other _ _ _ _ (by simp; omega)]; with_reducible assumption)), (by first | (with_reducible assumption) | (simp [go_sem]; done) | ((simp only [go_sem]); (with_reducible assumption)) | ((refine keep_cell ?_ (by with_reducible assumption)); go_grown; done) | (simp [go_sem, *]; done) | (rw [World.cell?_setCell_other _ _ _ _ (by simp; omega)]; with_reducible assumption) | (rw [World.cell?_setCell_other _ _ _ _ (by simp; omega), World.cell?_setCell_other _ _ _ _ (by simp; omega)]; with_reducible assumption)), (by go_grown)⟩ hgn
  (try clear hS)
  have hS := hT
  clear hT hcn hgn
  have hS2 := hS
  obtain ⟨hq0, ⟨f0, fr0⟩, q1, q2, hF⟩ := hS2
  have hgl : w.heap.size + 1 < w1.heap.size := hq0.lt
  have hzw : w.heap.size ≤ w1.heap.size := hF.size
  have hB := hF
  have hz1 : w.heap.size < w1.heap.size := World.block_lt_of_cell? w1 _ q1
  have hlb : (w.heap.size + 1) < (w.heap.size + 1 + 1) := Nat.lt_succ_self _
  have ho1 := own_mono ho (base' := w.heap.size + 1 + 1) (by simp)
  clear ho
  have hT : Cur w1 (w.heap.size + 1) (0 + 30) ∧ w1.ownsRow (w.heap.size + 1 + 1) 32 2 (.slice A1 l.length c1) (l.length) (flat l) ∧ (w.heap.size < w1.heap.size ∧ ∀ i, w1.frozen? ⟨w.heap.size, i, none⟩ = false) ∧ w1.cell? ⟨w.heap.size, 0, none⟩ = some (.int .i64 (0)) ∧ w1.cell? ⟨w.heap.size, 1, none⟩ = some (.int .i64 (0)) ∧ Below w.heap.size w w1 := ⟨hS.1, ho1, hS.2⟩
  clear hS
  have hS := hT
  clear hT ho1 hq0 hF
  have hS2 := hS
  obtain ⟨hq0, q0, ⟨f1, fr1⟩, q2, q3, hF⟩ := hS2
  have hgl : w.heap.size + 1 < w1.heap.size := hq0.lt
  have hzw : w.heap.size ≤ w1.heap.size := hF.size
  have hB := hF
  have hz1 : w.heap.size < w1.heap.size := World.block_lt_of_cell? w1 _ q2
  go_wp2_with fail
  refine (anyPoint_c (w.heap.size + 1) (0 + 30) _ (hide (by repeat' (first | (with_reducible exact hS.1) | (with_reducible refine Cur.drew ?_) | (with_reducible refine Cur.alloc ?_ _) | (with_reducible refine Cur.setc ?_ (by first | omega | (simp; done) | (simp; omega)) _)))) (by omega)).mono ?_
  rintro e w2 ⟨_, rfl, ⟨x, y, rfl, ⟨x0, x1⟩, y0, y1⟩, hcn, hgn⟩
  have hT : Cur w2 (w.heap.size + 1) (0 + 38) ∧ w2.ownsRow (w.heap.size + 1 + 1) 32 2 (.slice A1 l.length c1) (l.length) (flat l) ∧ (w.heap.size < w2.heap.size ∧ ∀ i, w2.frozen? ⟨w.heap.size, i, none⟩ = false) ∧ w2.cell? ⟨w.heap.size, 0, none⟩ = some (.int .i64 (0)) ∧ w2.cell? ⟨w.heap.size, 1, none⟩ = some (.int .i64 (0)) ∧ Below w.heap.size w w2 := (fun W h hgn => ⟨hcn, World.ownsRow.kept (h.2.1) hgn (own_far (h.2.1) (by first | omega | (simp; done) | (simp; omega))), fre_gb (h.2.2.1) hgn (by intro e; injection e with e; (try dsimp only at e); omega), hgn.cell (h.2.2.2.1) (by intro e; injection e with e; (try dsimp only at e); omega), hgn.cell (h.2.2.2.2.1) (by intro e; injection e with e; (try dsimp only at e); omega), below_gb (h.2.2.2.2.2) hgn (h.2.2.2.2.2).size (by first | omega | (simp; done) | (simp; omega))⟩ : ∀ W : World, (Cur W (w.heap.size + 1) (0 + 30) ∧ W.ownsRow (w.heap.size + 1 + 1) 32 2 (.slice A1 l.length c1) (l.length) (flat l) ∧ (w.heap.size < W.heap.size ∧ ∀ i, W.frozen? ⟨w.heap.size, i, none⟩ = false) ∧ W.cell? ⟨w.heap.size, 0, none⟩ = some (.int .i64 (0)) ∧ W.cell? ⟨w.heap.size, 1, none⟩ = some (.int .i64 (0)) ∧ Below w.heap.size w W) → W.grownBy w2 (some (w.heap.size + 1)) → (Cur w2 (w.heap.size + 1) (0 + 38) ∧ w2.ownsRow (w.heap.size + 1 + 1) 32 2 (.slice A1 l.length c1) (l.length) (flat l) ∧ (w.heap.size < w2.heap.size ∧ ∀ i, w2.frozen? ⟨w.heap.size, i, none⟩ = false) ∧ w2.cell? ⟨w.heap.size, 0, none⟩ = some (.int .i64 (0)) ∧ w2.cell? ⟨w.heap.size, 1, none⟩ = some (.int .i64 (0)) ∧ Below w.heap.size w w2)) _ ⟨(by repeat' (first | (with_reducible exact hS.1) | (with_reducible refine Cur.drew ?_) | (with_reducible refine Cur.alloc ?_ _) | (with_reducible refine Cur.setc ?_ (by first | omega | (simp; done) | (simp; omega)) _))), (by first | (with_reducible assumption) | (exact hS.2.1) | ((refine own_below (by with_reducible assumption) ?_); go_grown)), (by first | (with_reducible assumption) | (simp [go_sem]; done) | (refine keep_fre ?_ ⟨by with_reducible assumption, by with_reducible assumption⟩; go_grown; done) | (simp [go_sem, *]; done)), (by first | (with_reducible assumption) | (simp [go_sem]; done) | ((simp only [go_sem]); (with_reducible assumption)) | ((refine keep_cell ?_ (by with_reducible assumption)); go_grown; done) | (simp [go_sem, *]; done) | (rw [World.cell?_setCell_other _ _ _ _ (by simp; omega)]; with_reducible assumption) | (rw [World.cell?_setCell_other _ _ _ _ (by simp; omega), World.cell?_setCell_other _ _ _ _ (by simp; omega)]; with_reducible assumption)), (by first | (with_reducible assumption) | (simp [go_sem]; done) | ((simp only [go_sem]); (with_reducible assumption)) | ((refine keep_cell ?_ (by with_reducible assumption)); go_grown; done) | (simp [go_sem, *]; done) | (rw [World.cell?_setCell_other _ _ _ _ (by simp; omega)]; with_reducible assumption) | (rw [World.cell?_setCell_other _ _ _ _ (by simp; omega), World.cell?_setCell_other _ _ _ _ (by simp; omega)]; with_reducible assumption)), (by go_grown)⟩ hgn
  (try clear hS)
  have hS := hT
  clear hT hcn hgn
  have hS2 := hS
  obtain ⟨hq0, q0, ⟨f1, fr1⟩, q2, q3, hF⟩ := hS2
  have hgl : w.heap.size + 1 < w2.heap.size := hq0.lt
  have hzw : w.heap.size ≤ w2.heap.size := hF.size
  have hB := hF
  have hz1 : w.heap.size < w2.heap.size := World.block_lt_of_cell? w2 _ q2
  go_wp2_with fail
  refine (among_c (-1) (61) [0, 10, 20, 30, 60, 61, -1] _ _ (w.heap.size + 1) (0 + 38) _ (hide (by repeat' (first | (with_reducible exact hS.1) | (with_reducible refine Cur.drew ?_) | (with_reducible refine Cur.alloc ?_ _) | (with_reducible refine Cur.setc ?_ (by first | omega | (simp; done) | (simp; omega)) _)))) (by omega) (hide (lit_at (by rfl) (by simp))) (by intro e; (try dsimp only at e); omega) ⟨by decide, by decide⟩ (hide (by decide))).mono ?_
  rintro e w3 ⟨_, rfl, ⟨t, rfl, t0, t1⟩, hcn, hgn⟩
  have hT : Cur w3 (w.heap.size + 1) (0 + 40) ∧ w3.ownsRow (w.heap.size + 1 + 1) 32 2 (.slice A1 l.length c1) (l.length) (flat l) ∧ (w.heap.size < w3.heap.size ∧ ∀ i, w3.frozen? ⟨w.heap.size, i, none⟩ = false) ∧ w3.cell? ⟨w.heap.size, 0, none⟩ = some (.int .i64 (0)) ∧ w3.cell? ⟨w.heap.size, 1, none⟩ = some (.int .i64 (0)) ∧ Below w.heap.size w w3 := (fun W h hgn => ⟨hcn, World.ownsRow.kept (h.2.1) hgn (own_far (h.2.1) (by first | omega | (simp; done) | (simp; omega))), fre_gb (h.2.2.1) hgn (by intro e; injection e with e; (try dsimp only at e); omega), hgn.cell (h.2.2.2.1) (by intro e; injection e with e; (try dsimp only at e); omega), hgn.cell (h.2.2.2.2.1) (by intro e; injection e with e; (try dsimp only at e); omega), below_gb (h.2.2.2.2.2) hgn (h.2.2.2.2.2).size (by first | omega | (simp; done) | (simp; omega))⟩ : ∀ W : World, (Cur W (w.heap.size + 1) (0 + 38) ∧ W.ownsRow (w.heap.size + 1 + 1) 32 2 (.slice A1 l.length c1) (l.length) (flat l) ∧ (w.heap.size < W.heap.size ∧ ∀ i, W.frozen? ⟨w.heap.size, i, none⟩ = false) ∧ W.cell? ⟨w.heap.size, 0, none⟩ = some (.int .i64 (0)) ∧ W.cell? ⟨w.heap.size, 1, none⟩ = some (.int .i64 (0)) ∧ Below w.heap.size w W) → W.grownBy w3 (some (w.heap.size + 1)) → (Cur w3 (w.heap.size + 1) (0 + 40) ∧ w3.ownsRow (w.heap.size + 1 + 1) 32 2 (.slice A1 l.length c1) (l.length) (flat l) ∧ (w.heap.size < w3.heap.size ∧ ∀ i, w3.frozen? ⟨w.heap.size, i, none⟩ = false) ∧ w3.cell? ⟨w.heap.size, 0, none⟩ = some (.int .i64 (0)) ∧ w3.cell? ⟨w.heap.size, 1, none⟩ = some (.int .i64 (0)) ∧ Below w.heap.size w w3)) _ ⟨(by repeat' (first | (with_reducible exact hS.1) | (with_reducible refine Cur.drew ?_) | (with_reducible refine Cur.alloc ?_ _) | (with_reducible refine Cur.setc ?_ (by first | omega | (simp; done) | (simp; omega)) _))), (by first | (with_reducible assumption) | (exact hS.2.1) | ((refine own_below (by with_reducible assumption) ?_); go_grown)), (by first | (with_reducible assumption) | (simp [go_sem]; done) | (refine keep_fre ?_ ⟨by with_reducible assumption, by with_reducible assumption⟩; go_grown; done) | (simp [go_sem, *]; done)), (by first | (with_reducible assumption) | (simp [go_sem]; done) | ((simp only [go_sem]); (with_reducible assumption)) | ((refine keep_cell ?_ (by with_reducible assumption)); go_grown; done) | (simp [go_sem, *]; done) | (rw [World.cell?_setCell_other _ _ _ _ (by simp; omega)]; with_reducible assumption) | (rw [World.cell?_setCell_other _ _ _ _ (by simp; omega), World.cell?_setCell_other _ _ _ _ (by simp; omega)]; with_reducible assumption)), (by first | (with_reducible assumption) | (simp [go_sem]; done) | ((simp only [go_sem]); (with_reducible assumption)) | ((refine keep_cell ?_ (by with_reducible assumption)); go_grown; done) | (simp [go_sem, *]; done) | (rw [World.cell?_setCell_other _ _ _ _ (by simp; omega)]; with_reducible assumption) | (rw [World.cell?_setCell_other _ _ _ _ (by simp; omega), World.cell?_setCell_other _ _ _ _ (by simp; omega)]; with_reducible assumption)), (by go_grown)⟩ hgn
  (try clear hS)
  have hS := hT
  clear hT hcn hgn
  have hS2 := hS
  obtain ⟨hq0, q0, ⟨f1, fr1⟩, q2, q3, hF⟩ := hS2
  have hgl : w.heap.size + 1 < w3.heap.size := hq0.lt
  have hzw : w.heap.size ≤ w3.heap.size := hF.size
  have hB := hF
  have hz1 : w.heap.size < w3.heap.size := World.block_lt_of_cell? w3 _ q2
  obtain ⟨d0, d1, d2, d3⟩ := box2_sets q2 q3 (.int .i64 x) (.int .i64 y)
  go_wp2
  refine bodyPost_ret (by simp [results, Try.results28, go_sem, d2, d3]; try rfl) rfl ?_
  exact ⟨l, A1, c1, x, y, t, rfl, own_mono (own_set2 (own_set2 q0 (by show w.heap.size < _; omega) _) (by show w.heap.size < _; omega) _) (by omega), hl6, hp6, by omega, by go_grown⟩

theorem drawCovered_c (A : Option Addr) (n c : Nat) (w : World) (h1 : Hid (CodeOk w A n)) (hn : n ≤ 65536)  : Calls Try.prog 34 #[.slice A n c] w (DrawsPts2 32 w) := by
  go_enter Try.func34, Try.ntmps34
  go_wp2_with fail
  refine (sites_c (w.heap.size) (0) _ (hide (cur_new (h1.out.below (by go_grown)) hn (by first | rfl | (simp; done)) 0)) (by omega)).mono ?_
  rintro e w1 ⟨_, rfl, ⟨l, A1, c1, rfl, ho, hl6, hp6⟩, hcn, hgn⟩
  have hT : Cur w1 (w.heap.size) (0 + 30) ∧ Below w.heap.size w w1 := (fun W h hgn => ⟨hcn, below_gb (h.2) hgn (h.2).size (by first | omega | (simp; done) | (simp; omega))⟩ : ∀ W : World, (Cur W (w.heap.size) (0) ∧ Below w.heap.size w W) → W.grownBy w1 (some (w.heap.size)) → (Cur w1 (w.heap.size) (0 + 30) ∧ Below w.heap.size w w1)) _ ⟨(cur_new (h1.out.below (by go_grown)) hn (by first | rfl | (simp; done)) 0), (by go_grown)⟩ hgn
  (try clear hS)
  have hS := hT
  clear hT hcn hgn
  have hS2 := hS
  obtain ⟨hq0, hF⟩ := hS2
  have hgl : w.heap.size < w1.heap.size := hq0.lt
  have hzw : w.heap.size ≤ w1.heap.size := hF.size
  have hB := hF
  have hlb : (w.heap.size) < (w.heap.size + 1) := Nat.lt_succ_self _
  have ho1 := own_mono ho (base' := w.heap.size + 1) (by simp)
  clear ho
  have hT : Cur w1 (w.heap.size) (0 + 30) ∧ w1.ownsRow (w.heap.size + 1) 32 2 (.slice A1 l.length c1) (l.length) (flat l) ∧ Below w.heap.size w w1 := ⟨hS.1, ho1, hS.2⟩
  clear hS
  have hS := hT
  clear hT ho1 hq0 hF
  have hS2 := hS
  obtain ⟨hq0, q0, hF⟩ := hS2
  have hgl : w.heap.size < w1.heap.size := hq0.lt
  have hzw : w.heap.size ≤ w1.heap.size := hF.size
  have hB := hF
  go_wp2_with fail
  refine (among_c (0) (61) [0, 5, 10, 20, 60, 61] _ _ (w.heap.size) (0 + 30) _ (hide (by repeat' (first | (with_reducible exact hS.1) | (with_reducible refine Cur.drew ?_) | (with_reducible refine Cur.alloc ?_ _) | (with_reducible refine Cur.setc ?_ (by first | omega | (simp; done) | (simp; omega)) _)))) (by omega) (hide (lit_at (by rfl) (by simp))) (by intro e; (try dsimp only at e); omega) ⟨by decide, by decide⟩ (hide (by decide))).mono ?_
  rintro e w2 ⟨_, rfl, ⟨x, rfl, x0, x1⟩, hcn, hgn⟩
  have hT : Cur w2 (w.heap.size) (0 + 32) ∧ w2.ownsRow (w.heap.size + 1) 32 2 (.slice A1 l.length c1) (l.length) (flat l) ∧ Below w.heap.size w w2 := (fun W h hgn => ⟨hcn, World.ownsRow.kept (h.2.1) hgn (own_far (h.2.1) (by first | omega | (simp; done) | (simp; omega))), below_gb (h.2.2) hgn (h.2.2).size (by first | omega | (simp; done) | (simp; omega))⟩ : ∀ W : World, (Cur W (w.heap.size) (0 + 30) ∧ W.ownsRow (w.heap.size + 1) 32 2 (.slice A1 l.length c1) (l.length) (flat l) ∧ Below w.heap.size w W) → W.grownBy w2 (some (w.heap.size)) → (Cur w2 (w.heap.size) (0 + 32) ∧ w2.ownsRow (w.heap.size + 1) 32 2 (.slice A1 l.length c1) (l.length) (flat l) ∧ Below w.heap.size w w2)) _ ⟨(by repeat' (first | (with_reducible exact hS.1) | (with_reducible refine Cur.drew ?_) | (with_reducible refine Cur.alloc ?_ _) | (with_reducible refine Cur.setc ?_ (by first | omega | (simp; done) | (simp; omega)) _))), (by first | (with_reducible assumption) | (exact hS.2.1) | ((refine own_below (by with_reducible assumption) ?_); go_grown)), (by go_grown)⟩ hgn
  (try clear hS)
  have hS := hT
  clear hT hcn hgn
  have hS2 := hS
  obtain ⟨hq0, q0, hF⟩ := hS2
  have hgl : w.heap.size < w2.heap.size := hq0.lt
  have hzw : w.heap.size ≤ w2.heap.size := hF.size
  have hB := hF
  go_wp2_with fail
  refine (among_c (0) (6) [1, 1, 2, 3, 5, 0, 6] _ _ (w.heap.size) (0 + 32) _ (hide (by repeat' (first | (with_reducible exact hS.1) | (with_reducible refine Cur.drew ?_) | (with_reducible refine Cur.alloc ?_ _) | (with_reducible refine Cur.setc ?_ (by first | omega | (simp; done) | (simp; omega)) _)))) (by omega) (hide (lit_at (by rfl) (by simp))) (by intro e; (try dsimp only at e); omega) ⟨by decide, by decide⟩ (hide (by decide))).mono ?_
  rintro e w3 ⟨_, rfl, ⟨y, rfl, y0, y1⟩, hcn, hgn⟩
  have hT : Cur w3 (w.heap.size) (0 + 34) ∧ w3.ownsRow (w.heap.size + 1) 32 2 (.slice A1 l.length c1) (l.length) (flat l) ∧ Below w.heap.size w w3 := (fun W h hgn => ⟨hcn, World.ownsRow.kept (h.2.1) hgn (own_far (h.2.1) (by first | omega | (simp; done) | (simp; omega))), below_gb (h.2.2) hgn (h.2.2).size (by first | omega | (simp; done) | (simp; omega))⟩ : ∀ W : World, (Cur W (w.heap.size) (0 + 32) ∧ W.ownsRow (w.heap.size + 1) 32 2 (.slice A1 l.length c1) (l.length) (flat l) ∧ Below w.heap.size w W) → W.grownBy w3 (some (w.heap.size)) → (Cur w3 (w.heap.size) (0 + 34) ∧ w3.ownsRow (w.heap.size + 1) 32 2 (.slice A1 l.length c1) (l.length) (flat l) ∧ Below w.heap.size w w3)) _ ⟨(by repeat' (first | (with_reducible exact hS.1) | (with_reducible refine Cur.drew ?_) | (with_reducible refine Cur.alloc ?_ _) | (with_reducible refine Cur.setc ?_ (by first | omega | (simp; done) | (simp; omega)) _))), (by first | (with_reducible assumption) | (exact hS.2.1) | ((refine own_below (by with_reducible assumption) ?_); go_grown)), (by go_grown)⟩ hgn
  (try clear hS)
  have hS := hT
  clear hT hcn hgn
  have hS2 := hS
  obtain ⟨hq0, q0, hF⟩ := hS2
  have hgl : w.heap.size < w3.heap.size := hq0.lt
  have hzw : w.heap.size ≤ w3.heap.size := hF.size
  have hB := hF
  go_wp2
  go_returns
  exact ⟨l, A1, c1, x, y, rfl, own_mono q0 (by omega), hl6, hp6, by omega, by go_grown⟩

theorem drawDrop_c (A : Option Addr) (n c : Nat) (w : World) (h1 : Hid (CodeOk w A n)) (hn : n ≤ 65536)  : Calls Try.prog 38 #[.slice A n c] w (DrawsPts1 32 w) := by
  go_enter Try.func38, Try.ntmps38
  go_wp2_with fail
  refine (sites_c (w.heap.size) (0) _ (hide (cur_new (h1.out.below (by go_grown)) hn (by first | rfl | (simp; done)) 0)) (by omega)).mono ?_
  rintro e w1 ⟨_, rfl, ⟨l, A1, c1, rfl, ho, hl6, hp6⟩, hcn, hgn⟩
  have hT : Cur w1 (w.heap.size) (0 + 30) ∧ Below w.heap.size w w1 := (fun W h hgn => ⟨hcn, below_gb (h.2) hgn (h.2).size (by first | omega | (simp; done) | (simp; omega))⟩ : ∀ W : World, (Cur W (w.heap.size) (0) ∧ Below w.heap.size w W) → W.grownBy w1 (some (w.heap.size)) → (Cur w1 (w.heap.size) (0 + 30) ∧ Below w.heap.size w w1)) _ ⟨(cur_new (h1.out.below (by go_grown)) hn (by first | rfl | (simp; done)) 0), (by go_grown)⟩ hgn
  (try clear hS)
  have hS := hT
  clear hT hcn hgn
  have hS2 := hS
  obtain ⟨hq0, hF⟩ := hS2
  have hgl : w.heap.size < w1.heap.size := hq0.lt
  have hzw : w.heap.size ≤ w1.heap.size := hF.size
  have hB := hF
  have hlb : (w.heap.size) < (w.heap.size + 1) := Nat.lt_succ_self _
  have ho1 := own_mono ho (base' := w.heap.size + 1) (by simp)
  clear ho
  have hT : Cur w1 (w.heap.size) (0 + 30) ∧ w1.ownsRow (w.heap.size + 1) 32 2 (.slice A1 l.length c1) (l.length) (flat l) ∧ Below w.heap.size w w1 := ⟨hS.1, ho1, hS.2⟩
  clear hS
  have hS := hT
  clear hT ho1 hq0 hF
  have hS2 := hS
  obtain ⟨hq0, q0, hF⟩ := hS2
  have hgl : w.heap.size < w1.heap.size := hq0.lt
  have hzw : w.heap.size ≤ w1.heap.size := hF.size
  have hB := hF
  have ewl : IntKind.i64.wrap ((l.length : Int) + 2) = (l.length : Int) + 2 := IntWalk.i64_in _ (by omega)
  go_wp2_with fail
  refine (pick_c ((l.length : Int) + 2) (by omega) (w.heap.size) (0 + 30) _ (hide (by repeat' (first | (with_reducible exact hS.1) | (with_reducible refine Cur.drew ?_) | (with_reducible refine Cur.alloc ?_ _) | (with_reducible refine Cur.setc ?_ (by first | omega | (simp; done) | (simp; omega)) _)))) (by omega)).mono ?_
  rintro e w2 ⟨_, rfl, ⟨x, rfl, x0, x1⟩, hcn, hgn⟩
  have hT : Cur w2 (w.heap.size) (0 + 32) ∧ w2.ownsRow (w.heap.size + 1) 32 2 (.slice A1 l.length c1) (l.length) (flat l) ∧ Below w.heap.size w w2 := (fun W h hgn => ⟨hcn, World.ownsRow.kept (h.2.1) hgn (own_far (h.2.1) (by first | omega | (simp; done) | (simp; omega))), below_gb (h.2.2) hgn (h.2.2).size (by first | omega | (simp; done) | (simp; omega))⟩ : ∀ W : World, (Cur W (w.heap.size) (0 + 30) ∧ W.ownsRow (w.heap.size + 1) 32 2 (.slice A1 l.length c1) (l.length) (flat l) ∧ Below w.heap.size w W) → W.grownBy w2 (some (w.heap.size)) → (Cur w2 (w.heap.size) (0 + 32) ∧ w2.ownsRow (w.heap.size + 1) 32 2 (.slice A1 l.length c1) (l.length) (flat l) ∧ Below w.heap.size w w2)) _ ⟨(by repeat' (first | (with_reducible exact hS.1) | (with_reducible refine Cur.drew ?_) | (with_reducible refine Cur.alloc ?_ _) | (with_reducible refine Cur.setc ?_ (by first | omega | (simp; done) | (simp; omega)) _))), (by first | (with_reducible assumption) | (exact hS.2.1) | ((refine own_below (by with_reducible assumption) ?_); go_grown)), (by go_grown)⟩ hgn
  (try clear hS)
  have hS := hT
  clear hT hcn hgn
  have hS2 := hS
  obtain ⟨hq0, q0, hF⟩ := hS2
  have hgl : w.heap.size < w2.heap.size := hq0.lt
  have hzw : w.heap.size ≤ w2.heap.size := hF.size
  have hB := hF
  have hx9 : x ≤ 1000 := by omega
  go_wp2
  go_returns
  exact ⟨l, A1, c1, x - 1, rfl, own_mono q0 (by omega), hl6, hp6, by omega, by go_grown⟩
end Go.Proofs.Ytnocgcfepkdjeaa
