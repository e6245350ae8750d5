/- Contracts: reports that are drawn for a law. -/
import Derived.Test.YtpabfkodlgglcaaCurR
import Derived.Test.YtpabfkodlgglcaaPoD
namespace Go.Proofs.Ytpabfkodlgglcaa
open Go.RowKit

def DrawsR (w : World) (e : Ending) (w' : World) : Prop := ∃ (o : Bool) (a b : Int), e = .returned (.agg #[.bool o, .int .i64 a, .int .i64 b]) ∧ Below w.heap.size w w'
def DrawsD (w : World) (e : Ending) (w' : World) : Prop := ∃ n : Int, e = .returned (.int .i64 n) ∧ (-1 ≤ n ∧ n ≤ 40000) ∧ Below w.heap.size w w'
def DrawsRP (w : World) (e : Ending) (w' : World) : Prop := ∃ (o : Bool) (a b x y : Int), e = .returned (.tuple #[.agg #[.bool o, .int .i64 a, .int .i64 b], .agg #[.int .i64 x, .int .i64 y]]) ∧ Below w.heap.size w w'
def DrawsRPP (w : World) (e : Ending) (w' : World) : Prop := ∃ (o : Bool) (a b x y u v : Int), e = .returned (.tuple #[.agg #[.bool o, .int .i64 a, .int .i64 b], .agg #[.int .i64 x, .int .i64 y], .agg #[.int .i64 u, .int .i64 v]]) ∧ Below w.heap.size w w'

theorem drawRep_c (A : Option Addr) (n c : Nat) (w : World) (h1 : Hid (CodeOk w A n)) (hn : n ≤ 65536)  : Calls Try.prog 75 #[.slice A n c] w (DrawsR w) := by
  go_enter Try.func75, Try.ntmps75
  go_wp2_with fail
  refine (report_c (w.heap.size + 1) (0) _ (hide (cur_new (h1.out.below (by go_grown)) hn (by first | rfl | (simp; done)) 0)) (by omega)).mono ?_
  rintro e w1 ⟨_, rfl, ⟨o, a, b, rfl, ⟨a0, a1⟩, b0, b1⟩, hcn, hgn⟩
  have hT : Cur w1 (w.heap.size + 1) (0 + 14) ∧ (w.heap.size < w1.heap.size ∧ ∀ i, w1.frozen? ⟨w.heap.size, i, none⟩ = false) ∧ w1.cell? ⟨w.heap.size, 0, none⟩ = some (.bool (false)) ∧ w1.cell? ⟨w.heap.size, 1, none⟩ = some (.int .i64 (0)) ∧ w1.cell? ⟨w.heap.size, 2, none⟩ = some (.int .i64 (0)) ∧ Below w.heap.size w w1 := (fun W h hgn => ⟨hcn, fre_gb (h.2.1) hgn (by intro e; injection e with e; (try dsimp only at e); omega), hgn.cell (h.2.2.1) (by intro e; injection e with e; (try dsimp only at e); omega), hgn.cell (h.2.2.2.1) (by intro e; injection e with e; (try dsimp only at e); omega), hgn.cell (h.2.2.2.2.1) (by intro e; injection e with e; (try dsimp only at e); omega), below_gb (h.2.2.2.2.2) hgn (h.2.2.2.2.2).size (by first | omega | (simp; done) | (simp; omega))⟩ : ∀ W : World, (Cur W (w.heap.size + 1) (0) ∧ (w.heap.size < W.heap.size ∧ ∀ i, W.frozen? ⟨w.heap.size, i, none⟩ = false) ∧ W.cell? ⟨w.heap.size, 0, none⟩ = some (.bool (false)) ∧ W.cell? ⟨w.heap.size, 1, none⟩ = some (.int .i64 (0)) ∧ W.cell? ⟨w.heap.size, 2, none⟩ = some (.int .i64 (0)) ∧ Below w.heap.size w W) → W.grownBy w1 (some (w.heap.size + 1)) → (Cur w1 (w.heap.size + 1) (0 + 14) ∧ (w.heap.size < w1.heap.size ∧ ∀ i, w1.frozen? ⟨w.heap.size, i, none⟩ = false) ∧ w1.cell? ⟨w.heap.size, 0, none⟩ = some (.bool (false)) ∧ w1.cell? ⟨w.heap.size, 1, none⟩ = some (.int .i64 (0)) ∧ w1.cell? ⟨w.heap.size, 2, none⟩ = some (.int .i64 (0)) ∧ Below w.heap.size w w1)) _ ⟨(cur_new (h1.out.below (by go_grown)) hn (by first | rfl | (simp; done)) 0), (by first | (with_reducible assumption) | (simp [go_sem]; done) | (refine keep_fre ?_ ⟨by with_reducible assumption, by with_reducible assumption⟩; go_grown; done) | (simp [go_sem, *]; done)), (by first | (with_reducible assumption) | (simp [go_sem]; done) | ((simp only [go_sem]); (with_reducible assumption)) | ((refine keep_cell ?_ (by with_reducible assumption)); go_grown; done) | (simp [go_sem, *]; done) | (rw [World.cell?_setCell_other _ _ _ _ (by simp; omega)]; with_reducible assumption) | (rw [World.cell?_setCell_other _ _ _ _ (by simp; omega), World.cell?_setCell_other _ _ _ _ (by simp; omega)]; with_reducible assumption)), (by first | (with_reducible assumption) | (simp [go_sem]; done) | ((simp only [go_sem]); (with_reducible assumption)) | ((refine keep_cell ?_ (by with_reducible assumption)); go_grown; done) | (simp [go_sem, *]; done) | (rw [World.cell?_setCell_other _ _ _ _ (by simp; omega)]; with_reducible assumption) | (rw [World.cell?_setCell_other _ _ _ _ (by simp; omega), World.cell?_setCell_other _ _ _ _ (by simp; omega)]; with_reducible assumption)), (by first | (with_reducible assumption) | (simp [go_sem]; done) | ((simp only [go_sem]); (with_reducible assumption)) | ((refine keep_cell ?_ (by with_reducible assumption)); go_grown; done) | (simp [go_sem, *]; done) | (rw [World.cell?_setCell_other _ _ _ _ (by simp; omega)]; with_reducible assumption) | (rw [World.cell?_setCell_other _ _ _ _ (by simp; omega), World.cell?_setCell_other _ _ _ _ (by simp; omega)]; with_reducible assumption)), (by go_grown)⟩ hgn
  (try clear hS)
  have hS := hT
  clear hT hcn hgn
  have hS2 := hS
  obtain ⟨hq0, ⟨f0, fr0⟩, q1, q2, q3, hF⟩ := hS2
  have hgl : w.heap.size + 1 < w1.heap.size := hq0.lt
  have hzw : w.heap.size ≤ w1.heap.size := hF.size
  have hB := hF
  have hz1 : w.heap.size < w1.heap.size := World.block_lt_of_cell? w1 _ q1
  obtain ⟨e0_0, e0_1, e0_2, e0_3, e0_4⟩ := box3_sets (w := w1) q1 q2 q3 (.bool o) (.int .i64 a) (.int .i64 b)
  go_wp2
  refine bodyPost_ret (by simp [results, Try.results75, go_sem, e0_2, e0_3, e0_4]; try rfl) rfl ?_
  exact ⟨_, _, _, rfl, by go_grown⟩

theorem drawPack_c (A : Option Addr) (n c : Nat) (w : World) (h1 : Hid (CodeOk w A n)) (hn : n ≤ 65536)  : Calls Try.prog 45 #[.slice A n c] w (DrawsR w) := by
  go_enter Try.func45, Try.ntmps45
  go_wp2_with fail
  refine (drawRep_c A n c _ (hide (h1.out.below (by go_grown))) hn).mono ?_
  rintro e w1 ⟨o, a, b, rfl, hb⟩
  have q0 : w1.cell? ⟨w.heap.size, 0, none⟩ = some (.bool false) := keep_cell hb (by simp [go_sem])
  have q1 : w1.cell? ⟨w.heap.size, 1, none⟩ = some (.int .i64 0) := keep_cell hb (by simp [go_sem])
  have q2 : w1.cell? ⟨w.heap.size, 2, none⟩ = some (.int .i64 0) := keep_cell hb (by simp [go_sem])
  have hfr : w.heap.size < w1.heap.size ∧ ∀ i, w1.frozen? ⟨w.heap.size, i, none⟩ = false := keep_fre hb ⟨by simp [go_sem], by simp [go_sem]⟩
  obtain ⟨hz1, hfr⟩ := hfr
  obtain ⟨d0, d1, d2, d3, d4⟩ := box3_sets q0 q1 q2 (.bool o) (.int .i64 a) (.int .i64 b)
  have hB : Below w.heap.size w w1 := below_via (by go_grown) hb
  clear hb
  go_wp2
  refine bodyPost_ret (by simp [results, Try.results45, go_sem, d2, d3, d4]; try rfl) rfl ?_
  exact ⟨_, _, _, rfl, by go_grown⟩

theorem drawUnpack_c (A : Option Addr) (n c : Nat) (w : World) (h1 : Hid (CodeOk w A n)) (hn : n ≤ 65536)  : Calls Try.prog 46 #[.slice A n c] w (DrawsD w) := by
  go_enter Try.func46, Try.ntmps46
  go_wp2_with fail
  refine (place_c (w.heap.size) (0) _ (hide (cur_new (h1.out.below (by go_grown)) hn (by first | rfl | (simp; done)) 0)) (by omega)).mono ?_
  rintro e w1 ⟨_, rfl, ⟨x, y, rfl, ⟨x0, x1⟩, y0, y1⟩, hcn, hgn⟩
  have hT : Cur w1 (w.heap.size) (0 + 8) ∧ Below w.heap.size w w1 := (fun W h hgn => ⟨hcn, below_gb (h.2) hgn (h.2).size (by first | omega | (simp; done) | (simp; omega))⟩ : ∀ W : World, (Cur W (w.heap.size) (0) ∧ Below w.heap.size w W) → W.grownBy w1 (some (w.heap.size)) → (Cur w1 (w.heap.size) (0 + 8) ∧ Below w.heap.size w w1)) _ ⟨(cur_new (h1.out.below (by go_grown)) hn (by first | rfl | (simp; done)) 0), (by go_grown)⟩ hgn
  (try clear hS)
  have hS := hT
  clear hT hcn hgn
  have hS2 := hS
  obtain ⟨hq0, hF⟩ := hS2
  have hgl : w.heap.size < w1.heap.size := hq0.lt
  have hzw : w.heap.size ≤ w1.heap.size := hF.size
  have hB := hF
  go_wp2_with fail
  refine (one_c (2) (by omega) (w.heap.size) (0 + 8) _ (hide (by repeat' (first | (with_reducible exact hS.1) | (with_reducible refine Cur.drew ?_) | (with_reducible refine Cur.alloc ?_ _) | (with_reducible refine Cur.setc ?_ (by first | omega | (simp; done) | (simp; omega)) _)))) (by omega)).mono ?_
  rintro e w2 ⟨_, rfl, ⟨o, rfl⟩, hcn, hgn⟩
  have hT : Cur w2 (w.heap.size) (0 + 10) ∧ Below w.heap.size w w2 := (fun W h hgn => ⟨hcn, below_gb (h.2) hgn (h.2).size (by first | omega | (simp; done) | (simp; omega))⟩ : ∀ W : World, (Cur W (w.heap.size) (0 + 8) ∧ Below w.heap.size w W) → W.grownBy w2 (some (w.heap.size)) → (Cur w2 (w.heap.size) (0 + 10) ∧ Below w.heap.size w w2)) _ ⟨(by repeat' (first | (with_reducible exact hS.1) | (with_reducible refine Cur.drew ?_) | (with_reducible refine Cur.alloc ?_ _) | (with_reducible refine Cur.setc ?_ (by first | omega | (simp; done) | (simp; omega)) _))), (by go_grown)⟩ hgn
  (try clear hS)
  have hS := hT
  clear hT hcn hgn
  have hS2 := hS
  obtain ⟨hq0, hF⟩ := hS2
  have hgl : w.heap.size < w2.heap.size := hq0.lt
  have hzw : w.heap.size ≤ w2.heap.size := hF.size
  have hB := hF
  go_wp2_with fail
  refine (l7Of_c x y o (by omega) (by omega) _).mono ?_
  rintro e w3 ⟨rfl, hb⟩
  have hT : Cur w3 (w.heap.size) (0 + 10) ∧ Below w.heap.size w w3 := (fun W h hb => ⟨h.1.below hb, below_via (h.2) hb⟩ : ∀ W : World, (Cur W (w.heap.size) (0 + 10) ∧ Below w.heap.size w W) → Below W.heap.size W w3 → (Cur w3 (w.heap.size) (0 + 10) ∧ Below w.heap.size w w3)) _ ⟨(by repeat' (first | (with_reducible exact hS.1) | (with_reducible refine Cur.drew ?_) | (with_reducible refine Cur.alloc ?_ _) | (with_reducible refine Cur.setc ?_ (by first | omega | (simp; done) | (simp; omega)) _))), (by go_grown)⟩ hb
  (try clear hS)
  have hS := hT
  clear hT hb
  have hS2 := hS
  obtain ⟨hq0, hF⟩ := hS2
  have hgl : w.heap.size < w3.heap.size := hq0.lt
  have hzw : w.heap.size ≤ w3.heap.size := hF.size
  have hB := hF
  have hs2 := szOf_two o
  have hp : 0 ≤ pkU o (x % szOf o) (y % szOf o) ∧ pkU o (x % szOf o) (y % szOf o) ≤ 40000 := by unfold pkU; rcases hs2 with e | e <;> rw [e] <;> split <;> omega
  have ha : (0 ≤ x % szOf o ∧ x % szOf o < 100) ∧ 0 ≤ y % szOf o ∧ y % szOf o < 100 := by rcases hs2 with e | e <;> rw [e] <;> omega
  go_wp2_with fail
  refine (l7Pack_c o _ _ ha.1.1 ha.1.2 ha.2.1 ha.2.2 _).mono ?_
  rintro e w4 ⟨rfl, hb⟩
  have hT : Cur w4 (w.heap.size) (0 + 10) ∧ Below w.heap.size w w4 := (fun W h hb => ⟨h.1.below hb, below_via (h.2) hb⟩ : ∀ W : World, (Cur W (w.heap.size) (0 + 10) ∧ Below w.heap.size w W) → Below W.heap.size W w4 → (Cur w4 (w.heap.size) (0 + 10) ∧ Below w.heap.size w w4)) _ ⟨(by repeat' (first | (with_reducible exact hS.1) | (with_reducible refine Cur.drew ?_) | (with_reducible refine Cur.alloc ?_ _) | (with_reducible refine Cur.setc ?_ (by first | omega | (simp; done) | (simp; omega)) _))), (by go_grown)⟩ hb
  (try clear hS)
  have hS := hT
  clear hT hb
  have hS2 := hS
  obtain ⟨hq0, hF⟩ := hS2
  have hgl : w.heap.size < w4.heap.size := hq0.lt
  have hzw : w.heap.size ≤ w4.heap.size := hF.size
  have hB := hF
  obtain ⟨D, hD⟩ : ∃ D, pkU o (x % szOf o) (y % szOf o) = D := ⟨_, rfl⟩
  rw [hD] at hp ⊢
  clear hD ha hs2
  go_wp2_with fail
  refine (one_c (4) (by omega) (w.heap.size) (0 + 10) _ (hide (by repeat' (first | (with_reducible exact hS.1) | (with_reducible refine Cur.drew ?_) | (with_reducible refine Cur.alloc ?_ _) | (with_reducible refine Cur.setc ?_ (by first | omega | (simp; done) | (simp; omega)) _)))) (by omega)).mono ?_
  rintro e w5 ⟨_, rfl, ⟨z, rfl⟩, hcn, hgn⟩
  have hT : Cur w5 (w.heap.size) (0 + 12) ∧ Below w.heap.size w w5 := (fun W h hgn => ⟨hcn, below_gb (h.2) hgn (h.2).size (by first | omega | (simp; done) | (simp; omega))⟩ : ∀ W : World, (Cur W (w.heap.size) (0 + 10) ∧ Below w.heap.size w W) → W.grownBy w5 (some (w.heap.size)) → (Cur w5 (w.heap.size) (0 + 12) ∧ Below w.heap.size w w5)) _ ⟨(by repeat' (first | (with_reducible exact hS.1) | (with_reducible refine Cur.drew ?_) | (with_reducible refine Cur.alloc ?_ _) | (with_reducible refine Cur.setc ?_ (by first | omega | (simp; done) | (simp; omega)) _))), (by go_grown)⟩ hgn
  (try clear hS)
  have hS := hT
  clear hT hcn hgn
  have hS2 := hS
  obtain ⟨hq0, hF⟩ := hS2
  have hgl : w.heap.size < w5.heap.size := hq0.lt
  have hzw : w.heap.size ≤ w5.heap.size := hF.size
  have hB := hF
  rcases z with _ | _
  · go_wp2
    go_returns
    exact ⟨_, rfl, by omega, by go_grown⟩
  · go_wp2_with fail
    refine (among_c (-1) (32768) [-1, 0, 100, 12799, 16383, 32767, 32768, 29026, 29056] _ _ (w.heap.size) (0 + 12) _ (hide (by repeat' (first | (with_reducible exact hS.1) | (with_reducible refine Cur.drew ?_) | (with_reducible refine Cur.alloc ?_ _) | (with_reducible refine Cur.setc ?_ (by first | omega | (simp; done) | (simp; omega)) _)))) (by omega) (hide (lit_at (by rfl) (by simp))) (by intro e; (try dsimp only at e); omega) ⟨by decide, by decide⟩ (hide (by decide))).mono ?_
    rintro e w6 ⟨_, rfl, ⟨p, rfl, p0, p1⟩, hcn, hgn⟩
    have hT : Cur w6 (w.heap.size) (0 + 14) ∧ Below w.heap.size w w6 := (fun W h hgn => ⟨hcn, below_gb (h.2) hgn (h.2).size (by first | omega | (simp; done) | (simp; omega))⟩ : ∀ W : World, (Cur W (w.heap.size) (0 + 12) ∧ Below w.heap.size w W) → W.grownBy w6 (some (w.heap.size)) → (Cur w6 (w.heap.size) (0 + 14) ∧ Below w.heap.size w w6)) _ ⟨(by repeat' (first | (with_reducible exact hS.1) | (with_reducible refine Cur.drew ?_) | (with_reducible refine Cur.alloc ?_ _) | (with_reducible refine Cur.setc ?_ (by first | omega | (simp; done) | (simp; omega)) _))), (by go_grown)⟩ hgn
    (try clear hS)
    have hS := hT
    clear hT hcn hgn
    have hS2 := hS
    obtain ⟨hq0, hF⟩ := hS2
    have hgl : w.heap.size < w6.heap.size := hq0.lt
    have hzw : w.heap.size ≤ w6.heap.size := hF.size
    have hB := hF
    go_wp2
    go_returns
    exact ⟨_, rfl, by omega, by go_grown⟩

theorem drawNear_c (A : Option Addr) (n c : Nat) (w : World) (h1 : Hid (CodeOk w A n)) (hn : n ≤ 65536)  : Calls Try.prog 47 #[.slice A n c] w (DrawsRP w) := by
  go_enter Try.func47, Try.ntmps47
  go_wp2_with fail
  refine (report_c (w.heap.size + 2) (0) _ (hide (cur_new (h1.out.below (by go_grown)) hn (by first | rfl | (simp; done)) 0)) (by omega)).mono ?_
  rintro e w1 ⟨_, rfl, ⟨o, a, b, rfl, ⟨a0, a1⟩, b0, b1⟩, hcn, hgn⟩
  have hT : Cur w1 (w.heap.size + 2) (0 + 14) ∧ (w.heap.size < w1.heap.size ∧ ∀ i, w1.frozen? ⟨w.heap.size, i, none⟩ = false) ∧ w1.cell? ⟨w.heap.size, 0, none⟩ = some (.bool (false)) ∧ w1.cell? ⟨w.heap.size, 1, none⟩ = some (.int .i64 (0)) ∧ w1.cell? ⟨w.heap.size, 2, none⟩ = some (.int .i64 (0)) ∧ (w.heap.size + 1 < w1.heap.size ∧ ∀ i, w1.frozen? ⟨w.heap.size + 1, i, none⟩ = false) ∧ w1.cell? ⟨w.heap.size + 1, 0, none⟩ = some (.int .i64 (0)) ∧ w1.cell? ⟨w.heap.size + 1, 1, none⟩ = some (.int .i64 (0)) ∧ Below w.heap.size w w1 := (fun W h hgn => ⟨hcn, fre_gb (h.2.1) hgn (by intro e; injection e with e; (try dsimp only at e); omega), hgn.cell (h.2.2.1) (by intro e; injection e with e; (try dsimp only at e); omega), hgn.cell (h.2.2.2.1) (by intro e; injection e with e; (try dsimp only at e); omega), hgn.cell (h.2.2.2.2.1) (by intro e; injection e with e; (try dsimp only at e); omega), fre_gb (h.2.2.2.2.2.1) hgn (by intro e; injection e with e; (try dsimp only at e); omega), hgn.cell (h.2.2.2.2.2.2.1) (by intro e; injection e with e; (try dsimp only at e); omega), hgn.cell (h.2.2.2.2.2.2.2.1) (by intro e; injection e with e; (try dsimp only at e); omega), below_gb (h.2.2.2.2.2.2.2.2) hgn (h.2.2.2.2.2.2.2.2).size (by first | omega | (simp; done) | (simp; omega))⟩ : ∀ W : World, (Cur W (w.heap.size + 2) (0) ∧ (w.heap.size < W.heap.size ∧ ∀ i, W.frozen? ⟨w.heap.size, i, none⟩ = false) ∧ W.cell? ⟨w.heap.size, 0, none⟩ = some (.bool (false)) ∧ W.cell? ⟨w.heap.size, 1, none⟩ = some (.int .i64 (0)) ∧ W.cell? ⟨w.heap.size, 2, none⟩ = some (.int .i64 (0)) ∧ (w.heap.size + 1 < W.heap.size ∧ ∀ i, W.frozen? ⟨w.heap.size + 1, i, none⟩ = false) ∧ W.cell? ⟨w.heap.size + 1, 0, none⟩ = some (.int .i64 (0)) ∧ W.cell? ⟨w.heap.size + 1, 1, none⟩ = some (.int .i64 (0)) ∧ Below w.heap.size w W) → W.grownBy w1 (some (w.heap.size + 2)) → (Cur w1 (w.heap.size + 2) (0 + 14) ∧ (w.heap.size < w1.heap.size ∧ ∀ i, w1.frozen? ⟨w.heap.size, i, none⟩ = false) ∧ w1.cell? ⟨w.heap.size, 0, none⟩ = some (.bool (false)) ∧ w1.cell? ⟨w.heap.size, 1, none⟩ = some (.int .i64 (0)) ∧ w1.cell? ⟨w.heap.size, 2, none⟩ = some (.int .i64 (0)) ∧ (w.heap.size + 1 < w1.heap.size ∧ ∀ i, w1.frozen? ⟨w.heap.size + 1, i, none⟩ = false) ∧ w1.cell? ⟨w.heap.size + 1, 0, none⟩ = some (.int .i64 (0)) ∧ w1.cell? ⟨w.heap.size + 1, 1, none⟩ = some (.int .i64 (0)) ∧ Below w.heap.size w w1)) _ ⟨(cur_new (h1.out.below (by go_grown)) hn (by first | rfl | (simp; done)) 0), (by first | (with_reducible assumption) | (simp [go_sem]; done) | (refine keep_fre ?_ ⟨by with_reducible assumption, by with_reducible assumption⟩; go_grown; done) | (simp [go_sem, *]; done)), (by first | (with_reducible assumption) | (simp [go_sem]; done) | ((simp only [go_sem]); (with_reducible assumption)) | ((refine keep_cell ?_ (by with_reducible assumption)); go_grown; done) | (simp [go_sem, *]; done) | (rw [World.cell?_setCell_other _ _ _ _ (by simp; omega)]; with_reducible assumption) | (rw [World.cell?_setCell_other _ _ _ _ (by simp; omega), World.cell?_setCell_other _ _ _ _ (by simp; omega)]; with_reducible assumption)), (by first | (with_reducible assumption) | (simp [go_sem]; done) | ((simp only [go_sem]); (with_reducible assumption)) | ((refine keep_cell ?_ (by with_reducible assumption)); go_grown; done) | (simp [go_sem, *]; done) | (rw [World.cell?_setCell_other _ _ _ _ (by simp; omega)]; with_reducible assumption) | (rw [World.cell?_setCell_other _ _ _ _ (by simp; omega), World.cell?_setCell_other _ _ _ _ (by simp; omega)]; with_reducible assumption)), (by first | (with_reducible assumption) | (simp [go_sem]; done) | ((simp only [go_sem]); (with_reducible assumption)) | ((refine keep_cell ?_ (by with_reducible assumption)); go_grown; done) | (simp [go_sem, *]; done) | (rw [World.cell?_setCell_other _ _ _ _ (by simp; omega)]; with_reducible assumption) | (rw [World.cell?_setCell_other _ _ _ _ (by simp; omega), World.cell?_setCell_other _ _ _ _ (by simp; omega)]; with_reducible assumption)), (by first | (with_reducible assumption) | (simp [go_sem]; done) | (refine keep_fre ?_ ⟨by with_reducible assumption, by with_reducible assumption⟩; go_grown; done) | (simp [go_sem, *]; done)), (by first | (with_reducible assumption) | (simp [go_sem]; done) | ((simp only [go_sem]); (with_reducible assumption)) | ((refine keep_cell ?_ (by with_reducible assumption)); go_grown; done) | (simp [go_sem, *]; done) | (rw [World.cell?_setCell_other _ _ _ _ (by simp; omega)]; with_reducible assumption) | (rw [World.cell?_setCell_other _ _ _ _ (by simp; omega), World.cell?_setCell_other _ _ _ _ (by simp; omega)]; with_reducible assumption)), (by first | (with_reducible assumption) | (simp [go_sem]; done) | ((simp only [go_sem]); (with_reducible assumption)) | ((refine keep_cell ?_ (by with_reducible assumption)); go_grown; done) | (simp [go_sem, *]; done) | (rw [World.cell?_setCell_other _ _ _ _ (by simp; omega)]; with_reducible assumption) | (rw [World.cell?_setCell_other _ _ _ _ (by simp; omega), World.cell?_setCell_other _ _ _ _ (by simp; omega)]; with_reducible assumption)), (by go_grown)⟩ hgn
  (try clear hS)
  have hS := hT
  clear hT hcn hgn
  have hS2 := hS
  obtain ⟨hq0, ⟨f0, fr0⟩, q1, q2, q3, ⟨f4, fr4⟩, q5, q6, hF⟩ := hS2
  have hgl : w.heap.size + 2 < w1.heap.size := hq0.lt
  have hzw : w.heap.size ≤ w1.heap.size := hF.size
  have hB := hF
  have hz1 : w.heap.size < w1.heap.size := World.block_lt_of_cell? w1 _ q1
  have hz2 : w.heap.size + 1 < w1.heap.size := World.block_lt_of_cell? w1 _ q5
  go_wp2_with fail
  refine (anyPlace_c (w.heap.size + 2) (0 + 14) _ (hide (by repeat' (first | (with_reducible exact hS.1) | (with_reducible refine Cur.drew ?_) | (with_reducible refine Cur.alloc ?_ _) | (with_reducible refine Cur.setc ?_ (by first | omega | (simp; done) | (simp; omega)) _)))) (by omega)).mono ?_
  rintro e w2 ⟨_, rfl, ⟨x, y, rfl, ⟨x0, x1⟩, y0, y1⟩, hcn, hgn⟩
  have hT : Cur w2 (w.heap.size + 2) (0 + 26) ∧ (w.heap.size < w2.heap.size ∧ ∀ i, w2.frozen? ⟨w.heap.size, i, none⟩ = false) ∧ w2.cell? ⟨w.heap.size, 0, none⟩ = some (.bool (false)) ∧ w2.cell? ⟨w.heap.size, 1, none⟩ = some (.int .i64 (0)) ∧ w2.cell? ⟨w.heap.size, 2, none⟩ = some (.int .i64 (0)) ∧ (w.heap.size + 1 < w2.heap.size ∧ ∀ i, w2.frozen? ⟨w.heap.size + 1, i, none⟩ = false) ∧ w2.cell? ⟨w.heap.size + 1, 0, none⟩ = some (.int .i64 (0)) ∧ w2.cell? ⟨w.heap.size + 1, 1, none⟩ = some (.int .i64 (0)) ∧ Below w.heap.size w w2 := (fun W h hgn => ⟨hcn, fre_gb (h.2.1) hgn (by intro e; injection e with e; (try dsimp only at e); omega), hgn.cell (h.2.2.1) (by intro e; injection e with e; (try dsimp only at e); omega), hgn.cell (h.2.2.2.1) (by intro e; injection e with e; (try dsimp only at e); omega), hgn.cell (h.2.2.2.2.1) (by intro e; injection e with e; (try dsimp only at e); omega), fre_gb (h.2.2.2.2.2.1) hgn (by intro e; injection e with e; (try dsimp only at e); omega), hgn.cell (h.2.2.2.2.2.2.1) (by intro e; injection e with e; (try dsimp only at e); omega), hgn.cell (h.2.2.2.2.2.2.2.1) (by intro e; injection e with e; (try dsimp only at e); omega), below_gb (h.2.2.2.2.2.2.2.2) hgn (h.2.2.2.2.2.2.2.2).size (by first | omega | (simp; done) | (simp; omega))⟩ : ∀ W : World, (Cur W (w.heap.size + 2) (0 + 14) ∧ (w.heap.size < W.heap.size ∧ ∀ i, W.frozen? ⟨w.heap.size, i, none⟩ = false) ∧ W.cell? ⟨w.heap.size, 0, none⟩ = some (.bool (false)) ∧ W.cell? ⟨w.heap.size, 1, none⟩ = some (.int .i64 (0)) ∧ W.cell? ⟨w.heap.size, 2, none⟩ = some (.int .i64 (0)) ∧ (w.heap.size + 1 < W.heap.size ∧ ∀ i, W.frozen? ⟨w.heap.size + 1, i, none⟩ = false) ∧ W.cell? ⟨w.heap.size + 1, 0, none⟩ = some (.int .i64 (0)) ∧ W.cell? ⟨w.heap.size + 1, 1, none⟩ = some (.int .i64 (0)) ∧ Below w.heap.size w W) → W.grownBy w2 (some (w.heap.size + 2)) → (Cur w2 (w.heap.size + 2) (0 + 26) ∧ (w.heap.size < w2.heap.size ∧ ∀ i, w2.frozen? ⟨w.heap.size, i, none⟩ = false) ∧ w2.cell? ⟨w.heap.size, 0, none⟩ = some (.bool (false)) ∧ w2.cell? ⟨w.heap.size, 1, none⟩ = some (.int .i64 (0)) ∧ w2.cell? ⟨w.heap.size, 2, none⟩ = some (.int .i64 (0)) ∧ (w.heap.size + 1 < w2.heap.size ∧ ∀ i, w2.frozen? ⟨w.heap.size + 1, i, none⟩ = false) ∧ w2.cell? ⟨w.heap.size + 1, 0, none⟩ = some (.int .i64 (0)) ∧ w2.cell? ⟨w.heap.size + 1, 1, none⟩ = some (.int .i64 (0)) ∧ Below w.heap.size w w2)) _ ⟨(by repeat' (first | (with_reducible exact hS.1) | (with_reducible refine Cur.drew ?_) | (with_reducible refine Cur.alloc ?_ _) | (with_reducible refine Cur.setc ?_ (by first | omega | (simp; done) | (simp; omega)) _))), (by first | (with_reducible assumption) | (simp [go_sem]; done) | (refine keep_fre ?_ ⟨by with_reducible assumption, by with_reducible assumption⟩; go_grown; done) | (simp [go_sem, *]; done)), (by first | (with_reducible assumption) | (simp [go_sem]; done) | ((simp only [go_sem]); (with_reducible assumption)) | ((refine keep_cell ?_ (by with_reducible assumption)); go_grown; done) | (simp [go_sem, *]; done) | (rw [World.cell?_setCell_other _ _ _ _ (by simp; omega)]; with_reducible assumption) | (rw [World.cell?_setCell_other _ _ _ _ (by simp; omega), World.cell?_setCell_other _ _ _ _ (by simp; omega)]; with_reducible assumption)), (by first | (with_reducible assumption) | (simp [go_sem]; done) | ((simp only [go_sem]); (with_reducible assumption)) | ((refine keep_cell ?_ (by with_reducible assumption)); go_grown; done) | (simp [go_sem, *]; done) | (rw [World.cell?_setCell_other _ _ _ _ (by simp; omega)]; with_reducible assumption) | (rw [World.cell?_setCell_other _ _ _ _ (by simp; omega), World.cell?_setCell_other _ _ _ _ (by simp; omega)]; with_reducible assumption)), (by first | (with_reducible assumption) | (simp [go_sem]; done) | ((simp only [go_sem]); (with_reducible assumption)) | ((refine keep_cell ?_ (by with_reducible assumption)); go_grown; done) | (simp [go_sem, *]; done) | (rw [World.cell?_setCell_other _ _ _ _ (by simp; omega)]; with_reducible assumption) | (rw [World.cell?_setCell_other _ _ _ _ (by simp; omega), World.cell?_setCell_other _ _ _ _ (by simp; omega)]; with_reducible assumption)), (by first | (with_reducible assumption) | (simp [go_sem]; done) | (refine keep_fre ?_ ⟨by with_reducible assumption, by with_reducible assumption⟩; go_grown; done) | (simp [go_sem, *]; done)), (by first | (with_reducible assumption) | (simp [go_sem]; done) | ((simp only [go_sem]); (with_reducible assumption)) | ((refine keep_cell ?_ (by with_reducible assumption)); go_grown; done) | (simp [go_sem, *]; done) | (rw [World.cell?_setCell_other _ _ _ _ (by simp; omega)]; with_reducible assumption) | (rw [World.cell?_setCell_other _ _ _ _ (by simp; omega), World.cell?_setCell_other _ _ _ _ (by simp; omega)]; with_reducible assumption)), (by first | (with_reducible assumption) | (simp [go_sem]; done) | ((simp only [go_sem]); (with_reducible assumption)) | ((refine keep_cell ?_ (by with_reducible assumption)); go_grown; done) | (simp [go_sem, *]; done) | (rw [World.cell?_setCell_other _ _ _ _ (by simp; omega)]; with_reducible assumption) | (rw [World.cell?_setCell_other _ _ _ _ (by simp; omega), World.cell?_setCell_other _ _ _ _ (by simp; omega)]; with_reducible assumption)), (by go_grown)⟩ hgn
  (try clear hS)
  have hS := hT
  clear hT hcn hgn
  have hS2 := hS
  obtain ⟨hq0, ⟨f0, fr0⟩, q1, q2, q3, ⟨f4, fr4⟩, q5, q6, hF⟩ := hS2
  have hgl : w.heap.size + 2 < w2.heap.size := hq0.lt
  have hzw : w.heap.size ≤ w2.heap.size := hF.size
  have hB := hF
  have hz1 : w.heap.size < w2.heap.size := World.block_lt_of_cell? w2 _ q1
  have hz2 : w.heap.size + 1 < w2.heap.size := World.block_lt_of_cell? w2 _ q5
  obtain ⟨e0_0, e0_1, e0_2, e0_3, e0_4⟩ := box3_sets (w := w2) q1 q2 q3 (.bool o) (.int .i64 a) (.int .i64 b)
  have k0_0wheapsize1 := (box3_other (w := w2) (g := w.heap.size) (b := w.heap.size + 1) (by first | omega | (simp; done) | (simp; omega)) (.bool o) (.int .i64 a) (.int .i64 b) 0).trans q5
  have k0_1wheapsize1 := (box3_other (w := w2) (g := w.heap.size) (b := w.heap.size + 1) (by first | omega | (simp; done) | (simp; omega)) (.bool o) (.int .i64 a) (.int .i64 b) 1).trans q6
  obtain ⟨e1_0, e1_1, e1_2, e1_3⟩ := box2_sets (w := (((w2.setCell ⟨w.heap.size, 0, none⟩ (.bool o)).setCell ⟨w.heap.size, 1, none⟩ (.int .i64 a)).setCell ⟨w.heap.size, 2, none⟩ (.int .i64 b))) k0_0wheapsize1 k0_1wheapsize1 (.int .i64 x) (.int .i64 y)
  have k1_0wheapsize := (box2_other (w := (((w2.setCell ⟨w.heap.size, 0, none⟩ (.bool o)).setCell ⟨w.heap.size, 1, none⟩ (.int .i64 a)).setCell ⟨w.heap.size, 2, none⟩ (.int .i64 b))) (g := w.heap.size + 1) (b := w.heap.size) (by first | omega | (simp; done) | (simp; omega)) (.int .i64 x) (.int .i64 y) 0).trans e0_2
  have k1_1wheapsize := (box2_other (w := (((w2.setCell ⟨w.heap.size, 0, none⟩ (.bool o)).setCell ⟨w.heap.size, 1, none⟩ (.int .i64 a)).setCell ⟨w.heap.size, 2, none⟩ (.int .i64 b))) (g := w.heap.size + 1) (b := w.heap.size) (by first | omega | (simp; done) | (simp; omega)) (.int .i64 x) (.int .i64 y) 1).trans e0_3
  have k1_2wheapsize := (box2_other (w := (((w2.setCell ⟨w.heap.size, 0, none⟩ (.bool o)).setCell ⟨w.heap.size, 1, none⟩ (.int .i64 a)).setCell ⟨w.heap.size, 2, none⟩ (.int .i64 b))) (g := w.heap.size + 1) (b := w.heap.size) (by first | omega | (simp; done) | (simp; omega)) (.int .i64 x) (.int .i64 y) 2).trans e0_4
  go_wp2
  refine bodyPost_ret (by simp [results, Try.results47, go_sem, k1_0wheapsize, k1_1wheapsize, k1_2wheapsize, e1_2, e1_3]; try rfl) rfl ?_
  exact ⟨_, _, _, _, _, rfl, by go_grown⟩
end Go.Proofs.Ytpabfkodlgglcaa
