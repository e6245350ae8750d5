/- Contracts: what is drawn for the laws of arrivals. -/
import Derived.Test.YtnocgcfepkdjeaaDrB
namespace Go.Proofs.Ytnocgcfepkdjeaa
open Go.RowKit

def DrawsLA (E EI : TypeId) (w : World) (e : Ending) (w' : World) : Prop := ∃ (l : List Pt) (A : Option Addr) (c : Nat) (a : List Int) (A2 : Option Addr) (c2 : Nat), e = .returned (.tuple #[.slice A l.length c, .slice A2 a.length c2]) ∧ w'.ownsRow w.heap.size E 2 (.slice A l.length c) l.length (flat l) ∧ w'.ownsRow w.heap.size EI 1 (.slice A2 a.length c2) a.length (ints a) ∧ l.length ≤ 6 ∧ a.length ≤ 7 ∧ (∀ p ∈ l, (-1000 ≤ p.1 ∧ p.1 ≤ 1000) ∧ -1000 ≤ p.2 ∧ p.2 ≤ 1000) ∧ Below w.heap.size w w'

def DrawsLPA (E EI : TypeId) (w : World) (e : Ending) (w' : World) : Prop := ∃ (l : List Pt) (A : Option Addr) (c : Nat) (a : List Int) (A2 : Option Addr) (c2 : Nat) (x y : Int), e = .returned (.tuple #[.slice A l.length c, .agg #[.int .i64 x, .int .i64 y], .slice A2 a.length c2]) ∧ w'.ownsRow w.heap.size E 2 (.slice A l.length c) l.length (flat l) ∧ w'.ownsRow w.heap.size EI 1 (.slice A2 a.length c2) a.length (ints a) ∧ l.length ≤ 6 ∧ a.length ≤ 7 ∧ (∀ p ∈ l, (-1000 ≤ p.1 ∧ p.1 ≤ 1000) ∧ -1000 ≤ p.2 ∧ p.2 ≤ 1000) ∧ (-1000000 ≤ x ∧ x ≤ 1000000) ∧ (-1000000 ≤ y ∧ y ≤ 1000000) ∧ Below w.heap.size w w'

def DrawsLAI (E EI : TypeId) (w : World) (e : Ending) (w' : World) : Prop := ∃ (l : List Pt) (A : Option Addr) (c : Nat) (a : List Int) (A2 : Option Addr) (c2 : Nat) (x : Int), e = .returned (.tuple #[.slice A l.length c, .slice A2 a.length c2, .int .i64 x]) ∧ w'.ownsRow w.heap.size E 2 (.slice A l.length c) l.length (flat l) ∧ w'.ownsRow w.heap.size EI 1 (.slice A2 a.length c2) a.length (ints a) ∧ l.length ≤ 6 ∧ a.length ≤ 7 ∧ (∀ p ∈ l, (-1000 ≤ p.1 ∧ p.1 ≤ 1000) ∧ -1000 ≤ p.2 ∧ p.2 ≤ 1000) ∧ (-1000000 ≤ x ∧ x ≤ 1000000) ∧ Below w.heap.size w w'

def DrawsLAP (E EI : TypeId) (w : World) (e : Ending) (w' : World) : Prop := ∃ (l : List Pt) (A : Option Addr) (c : Nat) (a : List Int) (A2 : Option Addr) (c2 : Nat) (x y : Int), e = .returned (.tuple #[.slice A l.length c, .slice A2 a.length c2, .agg #[.int .i64 x, .int .i64 y]]) ∧ w'.ownsRow w.heap.size E 2 (.slice A l.length c) l.length (flat l) ∧ w'.ownsRow w.heap.size EI 1 (.slice A2 a.length c2) a.length (ints a) ∧ l.length ≤ 6 ∧ a.length ≤ 7 ∧ (∀ p ∈ l, (-1000 ≤ p.1 ∧ p.1 ≤ 1000) ∧ -1000 ≤ p.2 ∧ p.2 ≤ 1000) ∧ (-1000000 ≤ x ∧ x ≤ 1000000) ∧ (-1000000 ≤ y ∧ y ≤ 1000000) ∧ Below w.heap.size w w'

theorem drawFirst_c (A : Option Addr) (n c : Nat) (w : World) (h1 : Hid (CodeOk w A n)) (hn : n ≤ 65536)  : Calls Try.prog 102 #[.slice A n c] w (DrawsLA 32 3 w) := by
  go_enter Try.func102, Try.ntmps102
  go_wp2_with fail
  refine (sites_c (w.heap.size) (0) _ (hide (cur_new (h1.out.below (by go_grown)) hn (by first | rfl | (simp; done)) 0)) (by omega)).mono ?_
  rintro e w1 ⟨_, rfl, ⟨l, A1, c1, rfl, ho, hl6, hp6⟩, hcn, hgn⟩
  have hT : Cur w1 (w.heap.size) (0 + 30) ∧ Below w.heap.size w w1 := (fun W h hgn => ⟨hcn, below_gb (h.2) hgn (h.2).size (by first | omega | (simp; done) | (simp; omega))⟩ : ∀ W : World, (Cur W (w.heap.size) (0) ∧ Below w.heap.size w W) → W.grownBy w1 (some (w.heap.size)) → (Cur w1 (w.heap.size) (0 + 30) ∧ Below w.heap.size w w1)) _ ⟨(cur_new (h1.out.below (by go_grown)) hn (by first | rfl | (simp; done)) 0), (by go_grown)⟩ hgn
  (try clear hS)
  have hS := hT
  clear hT hcn hgn
  have hS2 := hS
  obtain ⟨hq0, hF⟩ := hS2
  have hgl : w.heap.size < w1.heap.size := hq0.lt
  have hzw : w.heap.size ≤ w1.heap.size := hF.size
  have hB := hF
  have hlb : (w.heap.size) < (w.heap.size + 1) := Nat.lt_succ_self _
  have ho1 := own_mono ho (base' := w.heap.size + 1) (by simp)
  clear ho
  have hT : Cur w1 (w.heap.size) (0 + 30) ∧ w1.ownsRow (w.heap.size + 1) 32 2 (.slice A1 l.length c1) (l.length) (flat l) ∧ Below w.heap.size w w1 := ⟨hS.1, ho1, hS.2⟩
  clear hS
  have hS := hT
  clear hT ho1 hq0 hF
  have hS2 := hS
  obtain ⟨hq0, q0, hF⟩ := hS2
  have hgl : w.heap.size < w1.heap.size := hq0.lt
  have hzw : w.heap.size ≤ w1.heap.size := hF.size
  have hB := hF
  go_wp2_with fail
  refine (arrivalsD_c A1 c1 (w.heap.size + 1) l (w.heap.size) (0 + 30) _ (hide (by repeat' (first | (with_reducible exact hS.1) | (with_reducible refine Cur.drew ?_) | (with_reducible refine Cur.alloc ?_ _) | (with_reducible refine Cur.setc ?_ (by first | omega | (simp; done) | (simp; omega)) _)))) (by omega) (hide (by first | (with_reducible assumption) | (exact hS.2.1) | ((refine own_below (by with_reducible assumption) ?_); go_grown))) (by omega) hl6 (hide hp6)).mono ?_
  rintro e w2 ⟨_, rfl, ⟨a, A2, c2, rfl, hoa, ha7⟩, hcn, hgn⟩
  have hT : Cur w2 (w.heap.size) (0 + 44) ∧ w2.ownsRow (w.heap.size + 1) 32 2 (.slice A1 l.length c1) (l.length) (flat l) ∧ Below w.heap.size w w2 := (fun W h hgn => ⟨hcn, World.ownsRow.kept (h.2.1) hgn (own_far (h.2.1) (by first | omega | (simp; done) | (simp; omega))), below_gb (h.2.2) hgn (h.2.2).size (by first | omega | (simp; done) | (simp; omega))⟩ : ∀ W : World, (Cur W (w.heap.size) (0 + 30) ∧ W.ownsRow (w.heap.size + 1) 32 2 (.slice A1 l.length c1) (l.length) (flat l) ∧ Below w.heap.size w W) → W.grownBy w2 (some (w.heap.size)) → (Cur w2 (w.heap.size) (0 + 44) ∧ w2.ownsRow (w.heap.size + 1) 32 2 (.slice A1 l.length c1) (l.length) (flat l) ∧ Below w.heap.size w w2)) _ ⟨(by repeat' (first | (with_reducible exact hS.1) | (with_reducible refine Cur.drew ?_) | (with_reducible refine Cur.alloc ?_ _) | (with_reducible refine Cur.setc ?_ (by first | omega | (simp; done) | (simp; omega)) _))), (by first | (with_reducible assumption) | (exact hS.2.1) | ((refine own_below (by with_reducible assumption) ?_); go_grown)), (by go_grown)⟩ hgn
  (try clear hS)
  have hS := hT
  clear hT hcn hgn
  have hS2 := hS
  obtain ⟨hq0, q0, hF⟩ := hS2
  have hgl : w.heap.size < w2.heap.size := hq0.lt
  have hzw : w.heap.size ≤ w2.heap.size := hF.size
  have hB := hF
  have hoa1 := own_mono hoa (base' := w.heap.size + 1) (by first | omega | (simp; omega))
  clear hoa
  have hT : Cur w2 (w.heap.size) (0 + 44) ∧ w2.ownsRow (w.heap.size + 1) 3 1 (.slice A2 a.length c2) (a.length) (ints a) ∧ w2.ownsRow (w.heap.size + 1) 32 2 (.slice A1 l.length c1) (l.length) (flat l) ∧ Below w.heap.size w w2 := ⟨hS.1, hoa1, hS.2⟩
  clear hS
  have hS := hT
  clear hT hoa1 hq0 hF
  have hS2 := hS
  obtain ⟨hq0, q0, q1, hF⟩ := hS2
  have hgl : w.heap.size < w2.heap.size := hq0.lt
  have hzw : w.heap.size ≤ w2.heap.size := hF.size
  have hB := hF
  go_wp2
  go_returns
  exact ⟨l, A1, c1, a, A2, c2, rfl, own_mono q1 (by omega), own_mono q0 (by omega), hl6, ha7, hp6, by go_grown⟩

theorem drawPoss_c (A : Option Addr) (n c : Nat) (w : World) (h1 : Hid (CodeOk w A n)) (hn : n ≤ 65536)  : Calls Try.prog 57 #[.slice A n c] w (DrawsLA 32 3 w) := by
  go_enter Try.func57, Try.ntmps57
  go_wp2_with fail
  refine (drawFirst_c A n c _ (hide (h1.out.below (by go_grown))) hn).mono ?_
  rintro e w1 ⟨l, A1, c1, a, A2, c2, rfl, r1, r2, hl6, ha7, hp6, hb⟩
  go_wp2
  go_returns
  exact ⟨l, A1, c1, a, A2, c2, rfl, r1, r2, hl6, ha7, hp6, hb⟩

theorem drawSend_c (A : Option Addr) (n c : Nat) (w : World) (h1 : Hid (CodeOk w A n)) (hn : n ≤ 65536)  : Calls Try.prog 59 #[.slice A n c] w (DrawsLPA 32 3 w) := by
  go_enter Try.func59, Try.ntmps59
  go_wp2_with fail
  refine (sites_c (w.heap.size + 1) (0) _ (hide (cur_new (h1.out.below (by go_grown)) hn (by first | rfl | (simp; done)) 0)) (by omega)).mono ?_
  rintro e w1 ⟨_, rfl, ⟨l, A1, c1, rfl, ho, hl6, hp6⟩, hcn, hgn⟩
  have hT : Cur w1 (w.heap.size + 1) (0 + 30) ∧ (w.heap.size < w1.heap.size ∧ ∀ i, w1.frozen? ⟨w.heap.size, i, none⟩ = false) ∧ w1.cell? ⟨w.heap.size, 0, none⟩ = some (.int .i64 (0)) ∧ w1.cell? ⟨w.heap.size, 1, none⟩ = some (.int .i64 (0)) ∧ Below w.heap.size w w1 := (fun W h hgn => ⟨hcn, fre_gb (h.2.1) hgn (by intro e; injection e with e; (try dsimp only at e); omega), hgn.cell (h.2.2.1) (by intro e; injection e with e; (try dsimp only at e); omega), hgn.cell (h.2.2.2.1) (by intro e; injection e with e; (try dsimp only at e); omega), below_gb (h.2.2.2.2) hgn (h.2.2.2.2).size (by first | omega | (simp; done) | (simp; omega))⟩ : ∀ W : World, (Cur W (w.heap.size + 1) (0) ∧ (w.heap.size < W.heap.size ∧ ∀ i, W.frozen? ⟨w.heap.size, i, none⟩ = false) ∧ W.cell? ⟨w.heap.size, 0, none⟩ = some (.int .i64 (0)) ∧ W.cell? ⟨w.heap.size, 1, none⟩ = some (.int .i64 (0)) ∧ Below w.heap.size w W) → W.grownBy w1 (some (w.heap.size + 1)) → (Cur w1 (w.heap.size + 1) (0 + 30) ∧ (w.heap.size < w1.heap.size ∧ ∀ i, w1.frozen? ⟨w.heap.size, i, none⟩ = false) ∧ w1.cell? ⟨w.heap.size, 0, none⟩ = some (.int .i64 (0)) ∧ w1.cell? ⟨w.heap.size, 1, none⟩ = some (.int .i64 (0)) ∧ Below w.heap.size w w1)) _ ⟨(cur_new (h1.out.below (by go_grown)) hn (by first | rfl | (simp; done)) 0), (by first | (with_reducible assumption) | (simp [go_sem]; done) | (refine keep_fre ?_ ⟨by with_reducible assumption, by with_reducible assumption⟩; go_grown; done) | (simp [go_sem, *]; done)), (by first | (with_reducible assumption) | (simp [go_sem]; done) | ((simp only [go_sem]); (with_reducible assumption)) | ((refine keep_cell ?_ (by with_reducible assumption)); go_grown; done) | (simp [go_sem, *]; done) | (rw [World.cell?_setCell_other _ _ _ _ (by simp; omega)]; with_reducible assumption) | (rw [World.cell?_setCell_other _ _ _ _ (by simp; omega), World.cell?_setCell_other _ _ _ _ (by simp; omega)]; with_reducible assumption)), (by first | (with_reducible assumption) | (simp [go_sem]; done) | ((simp only [go_sem]); (with_reducible assumption)) | ((refine keep_cell ?_ (by with_reducible assumption)); go_grown; done) | (simp [go_sem, *]; done) | (rw [World.cell?_setCell_other _ _ _ _ (by simp; omega)]; with_reducible assumption) | (rw [World.cell?_setCell_other _ _ _ _ (by simp; omega), World.cell?_setCell_other _ _ _ _ (by simp; omega)]; with_reducible assumption)), (by go_grown)⟩ hgn
  (try clear hS)
  have hS := hT
  clear hT hcn hgn
  have hS2 := hS
  obtain ⟨hq0, ⟨f0, fr0⟩, q1, q2, hF⟩ := hS2
  have hgl : w.heap.size + 1 < w1.heap.size := hq0.lt
  have hzw : w.heap.size ≤ w1.heap.size := hF.size
  have hB := hF
  have hz1 : w.heap.size < w1.heap.size := World.block_lt_of_cell? w1 _ q1
  have hlb : (w.heap.size + 1) < (w.heap.size + 1 + 1) := Nat.lt_succ_self _
  have ho1 := own_mono ho (base' := w.heap.size + 1 + 1) (by simp)
  clear ho
  have hT : Cur w1 (w.heap.size + 1) (0 + 30) ∧ w1.ownsRow (w.heap.size + 1 + 1) 32 2 (.slice A1 l.length c1) (l.length) (flat l) ∧ (w.heap.size < w1.heap.size ∧ ∀ i, w1.frozen? ⟨w.heap.size, i, none⟩ = false) ∧ w1.cell? ⟨w.heap.size, 0, none⟩ = some (.int .i64 (0)) ∧ w1.cell? ⟨w.heap.size, 1, none⟩ = some (.int .i64 (0)) ∧ Below w.heap.size w w1 := ⟨hS.1, ho1, hS.2⟩
  clear hS
  have hS := hT
  clear hT ho1 hq0 hF
  have hS2 := hS
  obtain ⟨hq0, q0, ⟨f1, fr1⟩, q2, q3, hF⟩ := hS2
  have hgl : w.heap.size + 1 < w1.heap.size := hq0.lt
  have hzw : w.heap.size ≤ w1.heap.size := hF.size
  have hB := hF
  have hz1 : w.heap.size < w1.heap.size := World.block_lt_of_cell? w1 _ q2
  go_wp2_with fail
  refine (anyPoint_c (w.heap.size + 1) (0 + 30) _ (hide (by repeat' (first | (with_reducible exact hS.1) | (with_reducible refine Cur.drew ?_) | (with_reducible refine Cur.alloc ?_ _) | (with_reducible refine Cur.setc ?_ (by first | omega | (simp; done) | (simp; omega)) _)))) (by omega)).mono ?_
  rintro e w2 ⟨_, rfl, ⟨x, y, rfl, ⟨x0, x1⟩, y0, y1⟩, hcn, hgn⟩
  have hT : Cur w2 (w.heap.size + 1) (0 + 38) ∧ w2.ownsRow (w.heap.size + 1 + 1) 32 2 (.slice A1 l.length c1) (l.length) (flat l) ∧ (w.heap.size < w2.heap.size ∧ ∀ i, w2.frozen? ⟨w.heap.size, i, none⟩ = false) ∧ w2.cell? ⟨w.heap.size, 0, none⟩ = some (.int .i64 (0)) ∧ w2.cell? ⟨w.heap.size, 1, none⟩ = some (.int .i64 (0)) ∧ Below w.heap.size w w2 := (fun W h hgn => ⟨hcn, World.ownsRow.kept (h.2.1) hgn (own_far (h.2.1) (by first | omega | (simp; done) | (simp; omega))), fre_gb (h.2.2.1) hgn (by intro e; injection e with e; (try dsimp only at e); omega), hgn.cell (h.2.2.2.1) (by intro e; injection e with e; (try dsimp only at e); omega), hgn.cell (h.2.2.2.2.1) (by intro e; injection e with e; (try dsimp only at e); omega), below_gb (h.2.2.2.2.2) hgn (h.2.2.2.2.2).size (by first | omega | (simp; done) | (simp; omega))⟩ : ∀ W : World, (Cur W (w.heap.size + 1) (0 + 30) ∧ W.ownsRow (w.heap.size + 1 + 1) 32 2 (.slice A1 l.length c1) (l.length) (flat l) ∧ (w.heap.size < W.heap.size ∧ ∀ i, W.frozen? ⟨w.heap.size, i, none⟩ = false) ∧ W.cell? ⟨w.heap.size, 0, none⟩ = some (.int .i64 (0)) ∧ W.cell? ⟨w.heap.size, 1, none⟩ = some (.int .i64 (0)) ∧ Below w.heap.size w W) → W.grownBy w2 (some (w.heap.size + 1)) → (Cur w2 (w.heap.size + 1) (0 + 38) ∧ w2.ownsRow (w.heap.size + 1 + 1) 32 2 (.slice A1 l.length c1) (l.length) (flat l) ∧ (w.heap.size < w2.heap.size ∧ ∀ i, w2.frozen? ⟨w.heap.size, i, none⟩ = false) ∧ w2.cell? ⟨w.heap.size, 0, none⟩ = some (.int .i64 (0)) ∧ w2.cell? ⟨w.heap.size, 1, none⟩ = some (.int .i64 (0)) ∧ Below w.heap.size w w2)) _ ⟨(by repeat' (first | (with_reducible exact hS.1) | (with_reducible refine Cur.drew ?_) | (with_reducible refine Cur.alloc ?_ _) | (with_reducible refine Cur.setc ?_ (by first | omega | (simp; done) | (simp; omega)) _))), (by first | (with_reducible assumption) | (exact hS.2.1) | ((refine own_below (by with_reducible assumption) ?_); go_grown)), (by first | (with_reducible assumption) | (simp [go_sem]; done) | (refine keep_fre ?_ ⟨by with_reducible assumption, by with_reducible assumption⟩; go_grown; done) | (simp [go_sem, *]; done)), (by first | (with_reducible assumption) | (simp [go_sem]; done) | ((simp only [go_sem]); (with_reducible assumption)) | ((refine keep_cell ?_ (by with_reducible assumption)); go_grown; done) | (simp [go_sem, *]; done) | (rw [World.cell?_setCell_other _ _ _ _ (by simp; omega)]; with_reducible assumption) | (rw [World.cell?_setCell_other _ _ _ _ (by simp; omega), World.cell?_setCell_other _ _ _ _ (by simp; omega)]; with_reducible assumption)), (by first | (with_reducible assumption) | (simp [go_sem]; done) | ((simp only [go_sem]); (with_reducible assumption)) | ((refine keep_cell ?_ (by with_reducible assumption)); go_grown; done) | (simp [go_sem, *]; done) | (rw [World.cell?_setCell_other _ _ _ _ (by simp; omega)]; with_reducible assumption) | (rw [World.cell?_setCell_other _ _ _ _ (by simp; omega), World.cell?_setCell_other _ _ _ _ (by simp; omega)]; with_reducible assumption)), (by go_grown)⟩ hgn
  (try clear hS)
  have hS := hT
  clear hT hcn hgn
  have hS2 := hS
  obtain ⟨hq0, q0, ⟨f1, fr1⟩, q2, q3, hF⟩ := hS2
  have hgl : w.heap.size + 1 < w2.heap.size := hq0.lt
  have hzw : w.heap.size ≤ w2.heap.size := hF.size
  have hB := hF
  have hz1 : w.heap.size < w2.heap.size := World.block_lt_of_cell? w2 _ q2
  go_wp2_with fail
  refine (arrivalsD_c A1 c1 (w.heap.size + 1 + 1) l (w.heap.size + 1) (0 + 38) _ (hide (by repeat' (first | (with_reducible exact hS.1) | (with_reducible refine Cur.drew ?_) | (with_reducible refine Cur.alloc ?_ _) | (with_reducible refine Cur.setc ?_ (by first | omega | (simp; done) | (simp; omega)) _)))) (by omega) (hide (by first | (with_reducible assumption) | (exact hS.2.1) | ((refine own_below (by with_reducible assumption) ?_); go_grown))) (by omega) hl6 (hide hp6)).mono ?_
  rintro e w3 ⟨_, rfl, ⟨a, A2, c2, rfl, hoa, ha7⟩, hcn, hgn⟩
  have hT : Cur w3 (w.heap.size + 1) (0 + 52) ∧ w3.ownsRow (w.heap.size + 1 + 1) 32 2 (.slice A1 l.length c1) (l.length) (flat l) ∧ (w.heap.size < w3.heap.size ∧ ∀ i, w3.frozen? ⟨w.heap.size, i, none⟩ = false) ∧ w3.cell? ⟨w.heap.size, 0, none⟩ = some (.int .i64 (0)) ∧ w3.cell? ⟨w.heap.size, 1, none⟩ = some (.int .i64 (0)) ∧ Below w.heap.size w w3 := (fun W h hgn => ⟨hcn, World.ownsRow.kept (h.2.1) hgn (own_far (h.2.1) (by first | omega | (simp; done) | (simp; omega))), fre_gb (h.2.2.1) hgn (by intro e; injection e with e; (try dsimp only at e); omega), hgn.cell (h.2.2.2.1) (by intro e; injection e with e; (try dsimp only at e); omega), hgn.cell (h.2.2.2.2.1) (by intro e; injection e with e; (try dsimp only at e); omega), below_gb (h.2.2.2.2.2) hgn (h.2.2.2.2.2).size (by first | omega | (simp; done) | (simp; omega))⟩ : ∀ W : World, (Cur W (w.heap.size + 1) (0 + 38) ∧ W.ownsRow (w.heap.size + 1 + 1) 32 2 (.slice A1 l.length c1) (l.length) (flat l) ∧ (w.heap.size < W.heap.size ∧ ∀ i, W.frozen? ⟨w.heap.size, i, none⟩ = false) ∧ W.cell? ⟨w.heap.size, 0, none⟩ = some (.int .i64 (0)) ∧ W.cell? ⟨w.heap.size, 1, none⟩ = some (.int .i64 (0)) ∧ Below w.heap.size w W) → W.grownBy w3 (some (w.heap.size + 1)) → (Cur w3 (w.heap.size + 1) (0 + 52) ∧ w3.ownsRow (w.heap.size + 1 + 1) 32 2 (.slice A1 l.length c1) (l.length) (flat l) ∧ (w.heap.size < w3.heap.size ∧ ∀ i, w3.frozen? ⟨w.heap.size, i, none⟩ = false) ∧ w3.cell? ⟨w.heap.size, 0, none⟩ = some (.int .i64 (0)) ∧ w3.cell? ⟨w.heap.size, 1, none⟩ = some (.int .i64 (0)) ∧ Below w.heap.size w w3)) _ ⟨(by repeat' (first | (with_reducible exact hS.1) | (with_reducible refine Cur.drew ?_) | (with_reducible refine Cur.alloc ?_ _) | (with_reducible refine Cur.setc ?_ (by first | omega | (simp; done) | (simp; omega)) _))), (by first | (with_reducible assumption) | (exact hS.2.1) | ((refine own_below (by with_reducible assumption) ?_); go_grown)), (by first | (with_reducible assumption) | (simp [go_sem]; done) | (refine keep_fre ?_ ⟨by with_reducible assumption, by with_reducible assumption⟩; go_grown; done) | (simp [go_sem, *]; done)), (by first | (with_reducible assumption) | (simp [go_sem]; done) | ((simp only [go_sem]); (with_reducible assumption)) | ((refine keep_cell ?_ (by with_reducible assumption)); go_grown; done) | (simp [go_sem, *]; done) | (rw [World.cell?_setCell_other _ _ _ _ (by simp; omega)]; with_reducible assumption) | (rw [World.cell?_setCell_other _ _ _ _ (by simp; omega), World.cell?_setCell_other _ _ _ _ (by simp; omega)]; with_reducible assumption)), (by first | (with_reducible assumption) | (simp [go_sem]; done) | ((simp only [go_sem]); (with_reducible assumption)) | ((refine keep_cell ?_ (by with_reducible assumption)); go_grown; done) | (simp [go_sem, *]; done) | (rw [World.cell?_setCell_other _ _ _ _ (by simp; omega)]; with_reducible assumption) | (rw [World.cell?_setCell_other _ _ _ _ (by simp; omega), World.cell?_setCell_other _ _ _ _ (by simp; omega)]; with_reducible assumption)), (by go_grown)⟩ hgn
  (try clear hS)
  have hS := hT
  clear hT hcn hgn
  have hS2 := hS
  obtain ⟨hq0, q0, ⟨f1, fr1⟩, q2, q3, hF⟩ := hS2
  have hgl : w.heap.size + 1 < w3.heap.size := hq0.lt
  have hzw : w.heap.size ≤ w3.heap.size := hF.size
  have hB := hF
  have hz1 : w.heap.size < w3.heap.size := World.block_lt_of_cell? w3 _ q2
  have hoa1 := own_mono hoa (base' := w.heap.size + 1 + 1) (by first | omega | (simp; omega))
  clear hoa
  have hT : Cur w3 (w.heap.size + 1) (0 + 52) ∧ w3.ownsRow (w.heap.size + 1 + 1) 3 1 (.slice A2 a.length c2) (a.length) (ints a) ∧ w3.ownsRow (w.heap.size + 1 + 1) 32 2 (.slice A1 l.length c1) (l.length) (flat l) ∧ (w.heap.size < w3.heap.size ∧ ∀ i, w3.frozen? ⟨w.heap.size, i, none⟩ = false) ∧ w3.cell? ⟨w.heap.size, 0, none⟩ = some (.int .i64 (0)) ∧ w3.cell? ⟨w.heap.size, 1, none⟩ = some (.int .i64 (0)) ∧ Below w.heap.size w w3 := ⟨hS.1, hoa1, hS.2⟩
  clear hS
  have hS := hT
  clear hT hoa1 hq0 hF
  have hS2 := hS
  obtain ⟨hq0, q0, q1, ⟨f2, fr2⟩, q3, q4, hF⟩ := hS2
  have hgl : w.heap.size + 1 < w3.heap.size := hq0.lt
  have hzw : w.heap.size ≤ w3.heap.size := hF.size
  have hB := hF
  have hz1 : w.heap.size < w3.heap.size := World.block_lt_of_cell? w3 _ q3
  obtain ⟨d0, d1, d2, d3⟩ := box2_sets q3 q4 (.int .i64 x) (.int .i64 y)
  go_wp2
  refine bodyPost_ret (by simp [results, Try.results59, go_sem, d2, d3]; try rfl) rfl ?_
  exact ⟨l, A1, c1, a, A2, c2, x, y, rfl, own_mono (own_set2 (own_set2 q1 (by show w.heap.size < _; omega) _) (by show w.heap.size < _; omega) _) (by omega), own_mono (own_set2 (own_set2 q0 (by show w.heap.size < _; omega) _) (by show w.heap.size < _; omega) _) (by omega), hl6, ha7, hp6, by omega, by omega, by go_grown⟩

theorem drawArr_c (A : Option Addr) (n c : Nat) (w : World) (h1 : Hid (CodeOk w A n)) (hn : n ≤ 65536)  : Calls Try.prog 48 #[.slice A n c] w (DrawsCover 32 w) := by
  go_enter Try.func48, Try.ntmps48
  go_wp2_with fail
  refine (sites_c (w.heap.size + 1) (0) _ (hide (cur_new (h1.out.below (by go_grown)) hn (by first | rfl | (simp; done)) 0)) (by omega)).mono ?_
  rintro e w1 ⟨_, rfl, ⟨l, A1, c1, rfl, ho, hl6, hp6⟩, hcn, hgn⟩
  have hT : Cur w1 (w.heap.size + 1) (0 + 30) ∧ (w.heap.size < w1.heap.size ∧ ∀ i, w1.frozen? ⟨w.heap.size, i, none⟩ = false) ∧ w1.cell? ⟨w.heap.size, 0, none⟩ = some (.int .i64 (0)) ∧ w1.cell? ⟨w.heap.size, 1, none⟩ = some (.int .i64 (0)) ∧ Below w.heap.size w w1 := (fun W h hgn => ⟨hcn, fre_gb (h.2.1) hgn (by intro e; injection e with e; (try dsimp only at e); omega), hgn.cell (h.2.2.1) (by intro e; injection e with e; (try dsimp only at e); omega), hgn.cell (h.2.2.2.1) (by intro e; injection e with e; (try dsimp only at e); omega), below_gb (h.2.2.2.2) hgn (h.2.2.2.2).size (by first | omega | (simp; done) | (simp; omega))⟩ : ∀ W : World, (Cur W (w.heap.size + 1) (0) ∧ (w.heap.size < W.heap.size ∧ ∀ i, W.frozen? ⟨w.heap.size, i, none⟩ = false) ∧ W.cell? ⟨w.heap.size, 0, none⟩ = some (.int .i64 (0)) ∧ W.cell? ⟨w.heap.size, 1, none⟩ = some (.int .i64 (0)) ∧ Below w.heap.size w W) → W.grownBy w1 (some (w.heap.size + 1)) → (Cur w1 (w.heap.size + 1) (0 + 30) ∧ (w.heap.size < w1.heap.size ∧ ∀ i, w1.frozen? ⟨w.heap.size, i, none⟩ = false) ∧ w1.cell? ⟨w.heap.size, 0, none⟩ = some (.int .i64 (0)) ∧ w1.cell? ⟨w.heap.size, 1, none⟩ = some (.int .i64 (0)) ∧ Below w.heap.size w w1)) _ ⟨(cur_new (h1.out.below (by go_grown)) hn (by first | rfl | (simp; done)) 0), (by first | (with_reducible assumption) | (simp [go_sem]; done) | (refine keep_fre ?_ ⟨by with_reducible assumption, by with_reducible assumption⟩; go_grown; done) | (simp [go_sem, *]; done)), (by first | (with_reducible assumption) | (simp [go_sem]; done) | ((simp only [go_sem]); (with_reducible assumption)) | ((refine keep_cell ?_ (by with_reducible assumption)); go_grown; done) | (simp [go_sem, *]; done) | (rw [World.cell?_setCell_other _ _ _ _ (by simp; omega)]; with_reducible assumption) | (rw [World.cell?_setCell_other _ _ _ _ (by simp; omega), World.cell?_setCell_other _ _ _ _ (by simp; omega)]; with_reducible assumption)), (by first | (with_reducible assumption) | (simp [go_sem]; done) | ((simp only [go_sem]); (with_reducible assumption)) | ((refine keep_cell ?_ (by with_reducible assumption)); go_grown; done) | (simp [go_sem, *]; done) | (rw [World.cell?_setCell_other _ _ _ _ (by simp; omega)]; with_reducible assumption) | (rw [World.cell?_setCell_other _ _ _ _ (by simp; omega), World.cell?_setCell_other _ _ _ _ (by simp; omega)]; with_reducible assumption)), (by go_grown)⟩ hgn
  (try clear hS)
  have hS := hT
  clear hT hcn hgn
  have hS2 := hS
  obtain ⟨hq0, ⟨f0, fr0⟩, q1, q2, hF⟩ := hS2
  have hgl : w.heap.size + 1 < w1.heap.size := hq0.lt
  have hzw : w.heap.size ≤ w1.heap.size := hF.size
  have hB := hF
  have hz1 : w.heap.size < w1.heap.size := World.block_lt_of_cell? w1 _ q1
  have hlb : (w.heap.size + 1) < (w.heap.size + 1 + 1) := Nat.lt_succ_self _
  have ho1 := own_mono ho (base' := w.heap.size + 1 + 1) (by simp)
  clear ho
  have hT : Cur w1 (w.heap.size + 1) (0 + 30) ∧ w1.ownsRow (w.heap.size + 1 + 1) 32 2 (.slice A1 l.length c1) (l.length) (flat l) ∧ (w.heap.size < w1.heap.size ∧ ∀ i, w1.frozen? ⟨w.heap.size, i, none⟩ = false) ∧ w1.cell? ⟨w.heap.size, 0, none⟩ = some (.int .i64 (0)) ∧ w1.cell? ⟨w.heap.size, 1, none⟩ = some (.int .i64 (0)) ∧ Below w.heap.size w w1 := ⟨hS.1, ho1, hS.2⟩
  clear hS
  have hS := hT
  clear hT ho1 hq0 hF
  have hS2 := hS
  obtain ⟨hq0, q0, ⟨f1, fr1⟩, q2, q3, hF⟩ := hS2
  have hgl : w.heap.size + 1 < w1.heap.size := hq0.lt
  have hzw : w.heap.size ≤ w1.heap.size := hF.size
  have hB := hF
  have hz1 : w.heap.size < w1.heap.size := World.block_lt_of_cell? w1 _ q2
  go_wp2_with fail
  refine (anyPoint_c (w.heap.size + 1) (0 + 30) _ (hide (by repeat' (first | (with_reducible exact hS.1) | (with_reducible refine Cur.drew ?_) | (with_reducible refine Cur.alloc ?_ _) | (with_reducible refine Cur.setc ?_ (by first | omega | (simp; done) | (simp; omega)) _)))) (by omega)).mono ?_
  rintro e w2 ⟨_, rfl, ⟨x, y, rfl, ⟨x0, x1⟩, y0, y1⟩, hcn, hgn⟩
  have hT : Cur w2 (w.heap.size + 1) (0 + 38) ∧ w2.ownsRow (w.heap.size + 1 + 1) 32 2 (.slice A1 l.length c1) (l.length) (flat l) ∧ (w.heap.size < w2.heap.size ∧ ∀ i, w2.frozen? ⟨w.heap.size, i, none⟩ = false) ∧ w2.cell? ⟨w.heap.size, 0, none⟩ = some (.int .i64 (0)) ∧ w2.cell? ⟨w.heap.size, 1, none⟩ = some (.int .i64 (0)) ∧ Below w.heap.size w w2 := (fun W h hgn => ⟨hcn, World.ownsRow.kept (h.2.1) hgn (own_far (h.2.1) (by first | omega | (simp; done) | (simp; omega))), fre_gb (h.2.2.1) hgn (by intro e; injection e with e; (try dsimp only at e); omega), hgn.cell (h.2.2.2.1) (by intro e; injection e with e; (try dsimp only at e); omega), hgn.cell (h.2.2.2.2.1) (by intro e; injection e with e; (try dsimp only at e); omega), below_gb (h.2.2.2.2.2) hgn (h.2.2.2.2.2).size (by first | omega | (simp; done) | (simp; omega))⟩ : ∀ W : World, (Cur W (w.heap.size + 1) (0 + 30) ∧ W.ownsRow (w.heap.size + 1 + 1) 32 2 (.slice A1 l.length c1) (l.length) (flat l) ∧ (w.heap.size < W.heap.size ∧ ∀ i, W.frozen? ⟨w.heap.size, i, none⟩ = false) ∧ W.cell? ⟨w.heap.size, 0, none⟩ = some (.int .i64 (0)) ∧ W.cell? ⟨w.heap.size, 1, none⟩ = some (.int .i64 (0)) ∧ Below w.heap.size w W) → W.grownBy w2 (some (w.heap.size + 1)) → (Cur w2 (w.heap.size + 1) (0 + 38) ∧ w2.ownsRow (w.heap.size + 1 + 1) 32 2 (.slice A1 l.length c1) (l.length) (flat l) ∧ (w.heap.size < w2.heap.size ∧ ∀ i, w2.frozen? ⟨w.heap.size, i, none⟩ = false) ∧ w2.cell? ⟨w.heap.size, 0, none⟩ = some (.int .i64 (0)) ∧ w2.cell? ⟨w.heap.size, 1, none⟩ = some (.int .i64 (0)) ∧ Below w.heap.size w w2)) _ ⟨(by repeat' (first | (with_reducible exact hS.1) | (with_reducible refine Cur.drew ?_) | (with_reducible refine Cur.alloc ?_ _) | (with_reducible refine Cur.setc ?_ (by first | omega | (simp; done) | (simp; omega)) _))), (by first | (with_reducible assumption) | (exact hS.2.1) | ((refine own_below (by with_reducible assumption) ?_); go_grown)), (by first | (with_reducible assumption) | (simp [go_sem]; done) | (refine keep_fre ?_ ⟨by with_reducible assumption, by with_reducible assumption⟩; go_grown; done) | (simp [go_sem, *]; done)), (by first | (with_reducible assumption) | (simp [go_sem]; done) | ((simp only [go_sem]); (with_reducible assumption)) | ((refine keep_cell ?_ (by with_reducible assumption)); go_grown; done) | (simp [go_sem, *]; done) | (rw [World.cell?_setCell_other _ _ _ _ (by simp; omega)]; with_reducible assumption) | (rw [World.cell?_setCell_other _ _ _ _ (by simp; omega), World.cell?_setCell_other _ _ _ _ (by simp; omega)]; with_reducible assumption)), (by first | (with_reducible assumption) | (simp [go_sem]; done) | ((simp only [go_sem]); (with_reducible assumption)) | ((refine keep_cell ?_ (by with_reducible assumption)); go_grown; done) | (simp [go_sem, *]; done) | (rw [World.cell?_setCell_other _ _ _ _ (by simp; omega)]; with_reducible assumption) | (rw [World.cell?_setCell_other _ _ _ _ (by simp; omega), World.cell?_setCell_other _ _ _ _ (by simp; omega)]; with_reducible assumption)), (by go_grown)⟩ hgn
  (try clear hS)
  have hS := hT
  clear hT hcn hgn
  have hS2 := hS
  obtain ⟨hq0, q0, ⟨f1, fr1⟩, q2, q3, hF⟩ := hS2
  have hgl : w.heap.size + 1 < w2.heap.size := hq0.lt
  have hzw : w.heap.size ≤ w2.heap.size := hF.size
  have hB := hF
  have hz1 : w.heap.size < w2.heap.size := World.block_lt_of_cell? w2 _ q2
  go_wp2_with fail
  refine (among_c (-1) (100001) [0, 7, 100000, 100001, -1, 500] _ _ (w.heap.size + 1) (0 + 38) _ (hide (by repeat' (first | (with_reducible exact hS.1) | (with_reducible refine Cur.drew ?_) | (with_reducible refine Cur.alloc ?_ _) | (with_reducible refine Cur.setc ?_ (by first | omega | (simp; done) | (simp; omega)) _)))) (by omega) (hide (lit_at (by rfl) (by simp))) (by intro e; (try dsimp only at e); omega) ⟨by decide, by decide⟩ (hide (by decide))).mono ?_
  rintro e w3 ⟨_, rfl, ⟨t, rfl, t0, t1⟩, hcn, hgn⟩
  have hT : Cur w3 (w.heap.size + 1) (0 + 40) ∧ w3.ownsRow (w.heap.size + 1 + 1) 32 2 (.slice A1 l.length c1) (l.length) (flat l) ∧ (w.heap.size < w3.heap.size ∧ ∀ i, w3.frozen? ⟨w.heap.size, i, none⟩ = false) ∧ w3.cell? ⟨w.heap.size, 0, none⟩ = some (.int .i64 (0)) ∧ w3.cell? ⟨w.heap.size, 1, none⟩ = some (.int .i64 (0)) ∧ Below w.heap.size w w3 := (fun W h hgn => ⟨hcn, World.ownsRow.kept (h.2.1) hgn (own_far (h.2.1) (by first | omega | (simp; done) | (simp; omega))), fre_gb (h.2.2.1) hgn (by intro e; injection e with e; (try dsimp only at e); omega), hgn.cell (h.2.2.2.1) (by intro e; injection e with e; (try dsimp only at e); omega), hgn.cell (h.2.2.2.2.1) (by intro e; injection e with e; (try dsimp only at e); omega), below_gb (h.2.2.2.2.2) hgn (h.2.2.2.2.2).size (by first | omega | (simp; done) | (simp; omega))⟩ : ∀ W : World, (Cur W (w.heap.size + 1) (0 + 38) ∧ W.ownsRow (w.heap.size + 1 + 1) 32 2 (.slice A1 l.length c1) (l.length) (flat l) ∧ (w.heap.size < W.heap.size ∧ ∀ i, W.frozen? ⟨w.heap.size, i, none⟩ = false) ∧ W.cell? ⟨w.heap.size, 0, none⟩ = some (.int .i64 (0)) ∧ W.cell? ⟨w.heap.size, 1, none⟩ = some (.int .i64 (0)) ∧ Below w.heap.size w W) → W.grownBy w3 (some (w.heap.size + 1)) → (Cur w3 (w.heap.size + 1) (0 + 40) ∧ w3.ownsRow (w.heap.size + 1 + 1) 32 2 (.slice A1 l.length c1) (l.length) (flat l) ∧ (w.heap.size < w3.heap.size ∧ ∀ i, w3.frozen? ⟨w.heap.size, i, none⟩ = false) ∧ w3.cell? ⟨w.heap.size, 0, none⟩ = some (.int .i64 (0)) ∧ w3.cell? ⟨w.heap.size, 1, none⟩ = some (.int .i64 (0)) ∧ Below w.heap.size w w3)) _ ⟨(by repeat' (first | (with_reducible exact hS.1) | (with_reducible refine Cur.drew ?_) | (with_reducible refine Cur.alloc ?_ _) | (with_reducible refine Cur.setc ?_ (by first | omega | (simp; done) | (simp; omega)) _))), (by first | (with_reducible assumption) | (exact hS.2.1) | ((refine own_below (by with_reducible assumption) ?_); go_grown)), (by first | (with_reducible assumption) | (simp [go_sem]; done) | (refine keep_fre ?_ ⟨by with_reducible assumption, by with_reducible assumption⟩; go_grown; done) | (simp [go_sem, *]; done)), (by first | (with_reducible assumption) | (simp [go_sem]; done) | ((simp only [go_sem]); (with_reducible assumption)) | ((refine keep_cell ?_ (by with_reducible assumption)); go_grown; done) | (simp [go_sem, *]; done) | (rw [World.cell?_setCell_other _ _ _ _ (by simp; omega)]; with_reducible assumption) | (rw [World.cell?_setCell_other _ _ _ _ (by simp; omega), World.cell?_setCell_other _ _ _ _ (by simp; omega)]; with_reducible assumption)), (by first | (with_reducible assumption) | (simp [go_sem]; done) | ((simp only [go_sem]); (with_reducible assumption)) | ((refine keep_cell ?_ (by with_reducible assumption)); go_grown; done) | (simp [go_sem, *]; done) | (rw [World.cell?_setCell_other _ _ _ _ (by simp; omega)]; with_reducible assumption) | (rw [World.cell?_setCell_other _ _ _ _ (by simp; omega), World.cell?_setCell_other _ _ _ _ (by simp; omega)]; with_reducible assumption)), (by go_grown)⟩ hgn
  (try clear hS)
  have hS := hT
  clear hT hcn hgn
  have hS2 := hS
  obtain ⟨hq0, q0, ⟨f1, fr1⟩, q2, q3, hF⟩ := hS2
  have hgl : w.heap.size + 1 < w3.heap.size := hq0.lt
  have hzw : w.heap.size ≤ w3.heap.size := hF.size
  have hB := hF
  have hz1 : w.heap.size < w3.heap.size := World.block_lt_of_cell? w3 _ q2
  obtain ⟨d0, d1, d2, d3⟩ := box2_sets q2 q3 (.int .i64 x) (.int .i64 y)
  go_wp2
  refine bodyPost_ret (by simp [results, Try.results48, go_sem, d2, d3]; try rfl) rfl ?_
  exact ⟨l, A1, c1, x, y, t, rfl, own_mono (own_set2 (own_set2 q0 (by show w.heap.size < _; omega) _) (by show w.heap.size < _; omega) _) (by omega), hl6, hp6, by omega, by go_grown⟩

theorem drawFit_c (A : Option Addr) (n c : Nat) (w : World) (h1 : Hid (CodeOk w A n)) (hn : n ≤ 65536)  : Calls Try.prog 62 #[.slice A n c] w (DrawsLAI 32 3 w) := by
  go_enter Try.func62, Try.ntmps62
  go_wp2_with fail
  refine (sites_c (w.heap.size) (0) _ (hide (cur_new (h1.out.below (by go_grown)) hn (by first | rfl | (simp; done)) 0)) (by omega)).mono ?_
  rintro e w1 ⟨_, rfl, ⟨l, A1, c1, rfl, ho, hl6, hp6⟩, hcn, hgn⟩
  have hT : Cur w1 (w.heap.size) (0 + 30) ∧ Below w.heap.size w w1 := (fun W h hgn => ⟨hcn, below_gb (h.2) hgn (h.2).size (by first | omega | (simp; done) | (simp; omega))⟩ : ∀ W : World, (Cur W (w.heap.size) (0) ∧ Below w.heap.size w W) → W.grownBy w1 (some (w.heap.size)) → (Cur w1 (w.heap.size) (0 + 30) ∧ Below w.heap.size w w1)) _ ⟨(cur_new (h1.out.below (by go_grown)) hn (by first | rfl | (simp; done)) 0), (by go_grown)⟩ hgn
  (try clear hS)
  have hS := hT
  clear hT hcn hgn
  have hS2 := hS
  obtain ⟨hq0, hF⟩ := hS2
  have hgl : w.heap.size < w1.heap.size := hq0.lt
  have hzw : w.heap.size ≤ w1.heap.size := hF.size
  have hB := hF
  have hlb : (w.heap.size) < (w.heap.size + 1) := Nat.lt_succ_self _
  have ho1 := own_mono ho (base' := w.heap.size + 1) (by simp)
  clear ho
  have hT : Cur w1 (w.heap.size) (0 + 30) ∧ w1.ownsRow (w.heap.size + 1) 32 2 (.slice A1 l.length c1) (l.length) (flat l) ∧ Below w.heap.size w w1 := ⟨hS.1, ho1, hS.2⟩
  clear hS
  have hS := hT
  clear hT ho1 hq0 hF
  have hS2 := hS
  obtain ⟨hq0, q0, hF⟩ := hS2
  have hgl : w.heap.size < w1.heap.size := hq0.lt
  have hzw : w.heap.size ≤ w1.heap.size := hF.size
  have hB := hF
  go_wp2_with fail
  refine (arrivalsD_c A1 c1 (w.heap.size + 1) l (w.heap.size) (0 + 30) _ (hide (by repeat' (first | (with_reducible exact hS.1) | (with_reducible refine Cur.drew ?_) | (with_reducible refine Cur.alloc ?_ _) | (with_reducible refine Cur.setc ?_ (by first | omega | (simp; done) | (simp; omega)) _)))) (by omega) (hide (by first | (with_reducible assumption) | (exact hS.2.1) | ((refine own_below (by with_reducible assumption) ?_); go_grown))) (by omega) hl6 (hide hp6)).mono ?_
  rintro e w2 ⟨_, rfl, ⟨a, A2, c2, rfl, hoa, ha7⟩, hcn, hgn⟩
  have hT : Cur w2 (w.heap.size) (0 + 44) ∧ w2.ownsRow (w.heap.size + 1) 32 2 (.slice A1 l.length c1) (l.length) (flat l) ∧ Below w.heap.size w w2 := (fun W h hgn => ⟨hcn, World.ownsRow.kept (h.2.1) hgn (own_far (h.2.1) (by first | omega | (simp; done) | (simp; omega))), below_gb (h.2.2) hgn (h.2.2).size (by first | omega | (simp; done) | (simp; omega))⟩ : ∀ W : World, (Cur W (w.heap.size) (0 + 30) ∧ W.ownsRow (w.heap.size + 1) 32 2 (.slice A1 l.length c1) (l.length) (flat l) ∧ Below w.heap.size w W) → W.grownBy w2 (some (w.heap.size)) → (Cur w2 (w.heap.size) (0 + 44) ∧ w2.ownsRow (w.heap.size + 1) 32 2 (.slice A1 l.length c1) (l.length) (flat l) ∧ Below w.heap.size w w2)) _ ⟨(by repeat' (first | (with_reducible exact hS.1) | (with_reducible refine Cur.drew ?_) | (with_reducible refine Cur.alloc ?_ _) | (with_reducible refine Cur.setc ?_ (by first | omega | (simp; done) | (simp; omega)) _))), (by first | (with_reducible assumption) | (exact hS.2.1) | ((refine own_below (by with_reducible assumption) ?_); go_grown)), (by go_grown)⟩ hgn
  (try clear hS)
  have hS := hT
  clear hT hcn hgn
  have hS2 := hS
  obtain ⟨hq0, q0, hF⟩ := hS2
  have hgl : w.heap.size < w2.heap.size := hq0.lt
  have hzw : w.heap.size ≤ w2.heap.size := hF.size
  have hB := hF
  have hoa1 := own_mono hoa (base' := w.heap.size + 1) (by first | omega | (simp; omega))
  clear hoa
  have hT : Cur w2 (w.heap.size) (0 + 44) ∧ w2.ownsRow (w.heap.size + 1) 3 1 (.slice A2 a.length c2) (a.length) (ints a) ∧ w2.ownsRow (w.heap.size + 1) 32 2 (.slice A1 l.length c1) (l.length) (flat l) ∧ Below w.heap.size w w2 := ⟨hS.1, hoa1, hS.2⟩
  clear hS
  have hS := hT
  clear hT hoa1 hq0 hF
  have hS2 := hS
  obtain ⟨hq0, q0, q1, hF⟩ := hS2
  have hgl : w.heap.size < w2.heap.size := hq0.lt
  have hzw : w.heap.size ≤ w2.heap.size := hF.size
  have hB := hF
  go_wp2_with fail
  refine (among_c (-1) (6) [0, 0, 1, 2, 5, 6, -1] _ _ (w.heap.size) (0 + 44) _ (hide (by repeat' (first | (with_reducible exact hS.1) | (with_reducible refine Cur.drew ?_) | (with_reducible refine Cur.alloc ?_ _) | (with_reducible refine Cur.setc ?_ (by first | omega | (simp; done) | (simp; omega)) _)))) (by omega) (hide (lit_at (by rfl) (by simp))) (by intro e; (try dsimp only at e); omega) ⟨by decide, by decide⟩ (hide (by decide))).mono ?_
  rintro e w3 ⟨_, rfl, ⟨x, rfl, x0, x1⟩, hcn, hgn⟩
  have hT : Cur w3 (w.heap.size) (0 + 46) ∧ w3.ownsRow (w.heap.size + 1) 3 1 (.slice A2 a.length c2) (a.length) (ints a) ∧ w3.ownsRow (w.heap.size + 1) 32 2 (.slice A1 l.length c1) (l.length) (flat l) ∧ Below w.heap.size w w3 := (fun W h hgn => ⟨hcn, World.ownsRow.kept (h.2.1) hgn (own_far (h.2.1) (by first | omega | (simp; done) | (simp; omega))), World.ownsRow.kept (h.2.2.1) hgn (own_far (h.2.2.1) (by first | omega | (simp; done) | (simp; omega))), below_gb (h.2.2.2) hgn (h.2.2.2).size (by first | omega | (simp; done) | (simp; omega))⟩ : ∀ W : World, (Cur W (w.heap.size) (0 + 44) ∧ W.ownsRow (w.heap.size + 1) 3 1 (.slice A2 a.length c2) (a.length) (ints a) ∧ W.ownsRow (w.heap.size + 1) 32 2 (.slice A1 l.length c1) (l.length) (flat l) ∧ Below w.heap.size w W) → W.grownBy w3 (some (w.heap.size)) → (Cur w3 (w.heap.size) (0 + 46) ∧ w3.ownsRow (w.heap.size + 1) 3 1 (.slice A2 a.length c2) (a.length) (ints a) ∧ w3.ownsRow (w.heap.size + 1) 32 2 (.slice A1 l.length c1) (l.length) (flat l) ∧ Below w.heap.size w w3)) _ ⟨(by repeat' (first | (with_reducible exact hS.1) | (with_reducible refine Cur.drew ?_) | (with_reducible refine Cur.alloc ?_ _) | (with_reducible refine Cur.setc ?_ (by first | omega | (simp; done) | (simp; omega)) _))), (by first | (with_reducible assumption) | (exact hS.2.1) | ((refine own_below (by with_reducible assumption) ?_); go_grown)), (by first | (with_reducible assumption) | (exact hS.2.2.1) | ((refine own_below (by with_reducible assumption) ?_); go_grown)), (by go_grown)⟩ hgn
  (try clear hS)
  have hS := hT
  clear hT hcn hgn
  have hS2 := hS
  obtain ⟨hq0, q0, q1, hF⟩ := hS2
  have hgl : w.heap.size < w3.heap.size := hq0.lt
  have hzw : w.heap.size ≤ w3.heap.size := hF.size
  have hB := hF
  go_wp2
  go_returns
  exact ⟨l, A1, c1, a, A2, c2, x, rfl, own_mono q1 (by omega), own_mono q0 (by omega), hl6, ha7, hp6, by omega, by go_grown⟩
end Go.Proofs.Ytnocgcfepkdjeaa
