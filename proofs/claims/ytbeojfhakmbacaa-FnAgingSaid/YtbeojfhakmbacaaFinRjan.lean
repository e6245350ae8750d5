/- What is proved here is used by the law below: contracts of functions and plain lemmas (part 14 of 17). Their conditions stand in each. -/
import Derived.Deep.DeepCutAuto
import Derived.Test.YtbeojfhakmbacaaFinRjaa
import Derived.Test.YtbeojfhakmbacaaFinRjab
import Derived.Test.YtbeojfhakmbacaaFinRjac
import Derived.Test.YtbeojfhakmbacaaFinRjad
import Derived.Test.YtbeojfhakmbacaaFinRjam
namespace Go.Proofs.Ytbeojfhakmbacaa
open Go.RowKit
def IsFr (v : Value) (_ : World) : Prop := ∃ a b c : Int, v = .agg #[.int .i64 a, .int .i64 b, .int .i64 c] ∧ (0 ≤ a ∧ a ≤ 1000000) ∧ (0 ≤ b ∧ b ≤ 1000000) ∧ 0 ≤ c ∧ c ≤ 100000000
def IsTx (m : Nat) (v : Value) (_ : World) : Prop := ∃ z : ByteArray, v = .string z ∧ z.size ≤ m
theorem l7Of_c (x y : Int) (o : Bool) (hx0 : 0 ≤ x) (hy0 : 0 ≤ y) (w : World) : Calls Try.prog 72 #[.agg #[.int .i64 x, .int .i64 y], .bool o] w (Gives w (.agg #[.bool o, .int .i64 (x % szOf o), .int .i64 (y % szOf o)])) := by
  have hs := szOf_two o
  have hs1 : ¬ szOf o = 0 := by omega
  have hm1 := Int.tmod_eq_emod_of_nonneg (b := szOf o) hx0
  have hm2 := Int.tmod_eq_emod_of_nonneg (b := szOf o) hy0
  go_enter Try.func72, Try.ntmps72
  go_wp2
  refine wp_region_ph [] (fun p w' => w'.cell? ⟨w.heap.size, 0, none⟩ = some (.int .i64 x) ∧ w'.cell? ⟨w.heap.size, 1, none⟩ = some (.int .i64 y) ∧ w'.cell? ⟨w.heap.size + 1, 0, none⟩ = some (if p = 0 then .bool false else .bool o) ∧ w'.cell? ⟨w.heap.size + 1, 1, none⟩ = some (if p = 0 then .int .i64 0 else .int .i64 (x % szOf o)) ∧ w'.cell? ⟨w.heap.size + 1, 2, none⟩ = some (if p = 0 then .int .i64 0 else .int .i64 (y % szOf o)) ∧ (w.heap.size + 1 < w'.heap.size ∧ ∀ i, w'.frozen? ⟨w.heap.size + 1, i, none⟩ = false) ∧ Below w.heap.size w w') (by kernel_rfl) (by kernel_rfl) (by kernel_rfl) (by first | assumption | (exact hS) | (refine ⟨?_, ?_, ?_, ?_, ?_, ?_, ?_⟩ <;> (first | (simp [go_sem]; done) | (simp [go_sem, *]; done) | (go_grown; done)))) ?_
  repeat (first
    | ((refine wpPh_skip (by rfl) (by rfl) ?_); simp only [Act.put, zp1, zp2, zp3])
    | ((refine wpPh_pure (v := ?_) (by rfl) (by rfl) (by rfl) (fun w => ?_) ?_); rotate_left; (focus (go_simp; (try (with_reducible rfl)); done)); simp only [Act.put, zp1, zp2, zp3])
    | ((refine wpPh_val (v := ?_) (by rfl) (by rfl) (by rfl) (fun w hS => ?_) ?_); rotate_left; (focus ((try dsimp only at hS); go_simp; (try (with_reducible rfl)); done)); simp only [Act.put, zp1, zp2, zp3])
    | ((refine wpPh_call (v := ?_) (f := ?_) (args := ?_) (by rfl) (by rfl) (by rfl) (fun w => ?_) (fun w hS => ?_) ?_); rotate_left; rotate_left; rotate_left; (focus (go_simp; (constructor <;> (with_reducible rfl)); done)); (focus (first | (go_at_call 109; refine (l7Size_c _ _).mono ?_; intro e w' h; refine ⟨h.1.trans ?_, h.2 ▸ hS⟩; with_reducible rfl))); simp only [Act.put, zp1, zp2, zp3])
    | ((refine wpPh_store (by rfl) (by rfl) (by rfl) (fun w hS => ?_) ?_); (focus ((try dsimp only at hS); obtain ⟨c0, c1, c2, c3, c4, c5, hB⟩ := hS; apply Exists.intro; refine And.intro ?_ ?_; (focus (go_simp; (with_reducible rfl))); ((try dsimp only); refine ⟨by simp [go_sem, *], by simp [go_sem, *], by simp [go_sem, *], by simp [go_sem, *], by simp [go_sem, *], by simp [go_sem, *], by go_grown⟩)))))
  refine wpPh_nil ?_
  intro w1 hS
  have hT : w1.cell? ⟨w.heap.size, 0, none⟩ = some (.int .i64 x) ∧ w1.cell? ⟨w.heap.size, 1, none⟩ = some (.int .i64 y) ∧ w1.cell? ⟨w.heap.size + 1, 0, none⟩ = some (.bool o) ∧ w1.cell? ⟨w.heap.size + 1, 1, none⟩ = some (.int .i64 (x % szOf o)) ∧ w1.cell? ⟨w.heap.size + 1, 2, none⟩ = some (.int .i64 (y % szOf o)) ∧ (w.heap.size + 1 < w1.heap.size ∧ ∀ i, w1.frozen? ⟨w.heap.size + 1, i, none⟩ = false) ∧ Below w.heap.size w w1 := hS
  clear hS
  have hS := hT
  obtain ⟨c0, c1, c2, c3, c4, c5, hB⟩ := hT
  go_wp2
  refine bodyPost_ret (v := .agg #[.bool o, .int .i64 (x % szOf o), .int .i64 (y % szOf o)]) (by simp [results, Try.results72, go_sem, c2, c3, c4]) rfl ⟨rfl, by go_grown⟩
theorem l7Pack_c (o : Bool) (a b : Int) (ha0 : 0 ≤ a) (ha1 : a < 100) (hb0 : 0 ≤ b) (hb1 : b < 100) (w : World) : Calls Try.prog 71 #[.agg #[.bool o, .int .i64 a, .int .i64 b]] w (Gives w (.int .i64 (pkU o a b))) := by
  cases o
  all_goals
    go_enter Try.func71, Try.ntmps71
    go_wp2
    all_goals (go_returns; exact ⟨ret_eq (by simp [pkU]), by go_grown⟩)
theorem place_c (g k : Nat) (w : World) (hc : Hid (Cur w g k)) (hk : k ≤ 10000)  : Calls Try.prog 69 #[.pointer (some ⟨g, 0, none⟩)] w (CurG w g (k + 8) (IsP 0 9800)) := by
  have hgw : g < w.heap.size := hc.out.lt
  go_enter Try.func69, Try.ntmps69
  go_wp2_with fail
  refine (pick_c (250) (by omega) (g) (k) _ (hide (by repeat' (first | (with_reducible exact hc.out) | (with_reducible refine Cur.drew ?_) | (with_reducible refine Cur.alloc ?_ _) | (with_reducible refine Cur.setc ?_ (by first | omega | (simp; done) | (simp; omega)) _)))) (by omega)).mono ?_
  rintro e w1 ⟨_, rfl, ⟨p, rfl, p0, p1⟩, hcn, hgn⟩
  have hT : Cur w1 (g) (k + 2) ∧ (w.heap.size < w1.heap.size ∧ ∀ i, w1.frozen? ⟨w.heap.size, i, none⟩ = false) ∧ w1.cell? ⟨w.heap.size, 0, none⟩ = some (.int .i64 (0)) ∧ w1.cell? ⟨w.heap.size, 1, none⟩ = some (.int .i64 (0)) ∧ w.grownBy w1 (some g) := (fun W h hgn => ⟨hcn, fre_gb (h.2.1) hgn (by intro e; injection e with e; (try dsimp only at e); omega), hgn.cell (h.2.2.1) (by intro e; injection e with e; (try dsimp only at e); omega), hgn.cell (h.2.2.2.1) (by intro e; injection e with e; (try dsimp only at e); omega), grown_trans (h.2.2.2.2) hgn⟩ : ∀ W : World, (Cur W (g) (k) ∧ (w.heap.size < W.heap.size ∧ ∀ i, W.frozen? ⟨w.heap.size, i, none⟩ = false) ∧ W.cell? ⟨w.heap.size, 0, none⟩ = some (.int .i64 (0)) ∧ W.cell? ⟨w.heap.size, 1, none⟩ = some (.int .i64 (0)) ∧ w.grownBy W (some g)) → W.grownBy w1 (some (g)) → (Cur w1 (g) (k + 2) ∧ (w.heap.size < w1.heap.size ∧ ∀ i, w1.frozen? ⟨w.heap.size, i, none⟩ = false) ∧ w1.cell? ⟨w.heap.size, 0, none⟩ = some (.int .i64 (0)) ∧ w1.cell? ⟨w.heap.size, 1, none⟩ = some (.int .i64 (0)) ∧ w.grownBy w1 (some g))) _ ⟨(by repeat' (first | (with_reducible exact hc.out) | (with_reducible refine Cur.drew ?_) | (with_reducible refine Cur.alloc ?_ _) | (with_reducible refine Cur.setc ?_ (by first | omega | (simp; done) | (simp; omega)) _))), (by first | (with_reducible assumption) | (simp [go_sem]; done) | (refine keep_fre ?_ ⟨by with_reducible assumption, by with_reducible assumption⟩; go_grown; done) | (simp [go_sem, *]; done)), (by first | (with_reducible assumption) | (simp [go_sem]; done) | ((simp only [go_sem]); (with_reducible assumption)) | ((refine keep_cell ?_ (by with_reducible assumption)); go_grown; done) | (simp [go_sem, *]; done) | (rw [World.cell?_setCell_other _ _ _ _ (by simp; omega)]; with_reducible assumption) | (rw [World.cell?_setCell_other _ _ _ _ (by simp; omega), World.cell?_setCell_other _ _ _ _ (by simp; omega)]; with_reducible assumption)), (by first | (with_reducible assumption) | (simp [go_sem]; done) | ((simp only [go_sem]); (with_reducible assumption)) | ((refine keep_cell ?_ (by with_reducible assumption)); go_grown; done) | (simp [go_sem, *]; done) | (rw [World.cell?_setCell_other _ _ _ _ (by simp; omega)]; with_reducible assumption) | (rw [World.cell?_setCell_other _ _ _ _ (by simp; omega), World.cell?_setCell_other _ _ _ _ (by simp; omega)]; with_reducible assumption)), (by repeat' (first | (with_reducible assumption) | (with_reducible exact gb_refl _ _) | (with_reducible refine gb_drew ?_) | (with_reducible refine gb_alloc ?_ _) | (with_reducible refine gb_seta ?_ (by first | omega | (simp; done) | (simp; omega)) _)))⟩ hgn
  (try clear hS)
  have hS := hT
  clear hT hcn hgn
  have hS2 := hS
  obtain ⟨hq0, ⟨f0, fr0⟩, q1, q2, hF⟩ := hS2
  have hgl : g < w1.heap.size := hq0.lt
  have hzw : w.heap.size ≤ w1.heap.size := hF.size
  have hz1 : w.heap.size < w1.heap.size := World.block_lt_of_cell? w1 _ q1
  go_wp2_with fail
  refine (among_c (1) (39) [1, 7, 39] _ _ (g) (k + 2) _ (hide (by repeat' (first | (with_reducible exact hS.1) | (with_reducible refine Cur.drew ?_) | (with_reducible refine Cur.alloc ?_ _) | (with_reducible refine Cur.setc ?_ (by first | omega | (simp; done) | (simp; omega)) _)))) (by omega) (hide (lit_at (by rfl) (by simp))) (by intro e; (try dsimp only at e); omega) ⟨by decide, by decide⟩ (hide (by decide))).mono ?_
  rintro e w2 ⟨_, rfl, ⟨e, rfl, e0, e1⟩, hcn, hgn⟩
  have hT : Cur w2 (g) (k + 4) ∧ (w.heap.size < w2.heap.size ∧ ∀ i, w2.frozen? ⟨w.heap.size, i, none⟩ = false) ∧ w2.cell? ⟨w.heap.size, 0, none⟩ = some (.int .i64 (0)) ∧ w2.cell? ⟨w.heap.size, 1, none⟩ = some (.int .i64 (0)) ∧ w.grownBy w2 (some g) := (fun W h hgn => ⟨hcn, fre_gb (h.2.1) hgn (by intro e; injection e with e; (try dsimp only at e); omega), hgn.cell (h.2.2.1) (by intro e; injection e with e; (try dsimp only at e); omega), hgn.cell (h.2.2.2.1) (by intro e; injection e with e; (try dsimp only at e); omega), grown_trans (h.2.2.2.2) hgn⟩ : ∀ W : World, (Cur W (g) (k + 2) ∧ (w.heap.size < W.heap.size ∧ ∀ i, W.frozen? ⟨w.heap.size, i, none⟩ = false) ∧ W.cell? ⟨w.heap.size, 0, none⟩ = some (.int .i64 (0)) ∧ W.cell? ⟨w.heap.size, 1, none⟩ = some (.int .i64 (0)) ∧ w.grownBy W (some g)) → W.grownBy w2 (some (g)) → (Cur w2 (g) (k + 4) ∧ (w.heap.size < w2.heap.size ∧ ∀ i, w2.frozen? ⟨w.heap.size, i, none⟩ = false) ∧ w2.cell? ⟨w.heap.size, 0, none⟩ = some (.int .i64 (0)) ∧ w2.cell? ⟨w.heap.size, 1, none⟩ = some (.int .i64 (0)) ∧ w.grownBy w2 (some g))) _ ⟨(by repeat' (first | (with_reducible exact hS.1) | (with_reducible refine Cur.drew ?_) | (with_reducible refine Cur.alloc ?_ _) | (with_reducible refine Cur.setc ?_ (by first | omega | (simp; done) | (simp; omega)) _))), (by first | (with_reducible assumption) | (simp [go_sem]; done) | (refine keep_fre ?_ ⟨by with_reducible assumption, by with_reducible assumption⟩; go_grown; done) | (simp [go_sem, *]; done)), (by first | (with_reducible assumption) | (simp [go_sem]; done) | ((simp only [go_sem]); (with_reducible assumption)) | ((refine keep_cell ?_ (by with_reducible assumption)); go_grown; done) | (simp [go_sem, *]; done) | (rw [World.cell?_setCell_other _ _ _ _ (by simp; omega)]; with_reducible assumption) | (rw [World.cell?_setCell_other _ _ _ _ (by simp; omega), World.cell?_setCell_other _ _ _ _ (by simp; omega)]; with_reducible assumption)), (by first | (with_reducible assumption) | (simp [go_sem]; done) | ((simp only [go_sem]); (with_reducible assumption)) | ((refine keep_cell ?_ (by with_reducible assumption)); go_grown; done) | (simp [go_sem, *]; done) | (rw [World.cell?_setCell_other _ _ _ _ (by simp; omega)]; with_reducible assumption) | (rw [World.cell?_setCell_other _ _ _ _ (by simp; omega), World.cell?_setCell_other _ _ _ _ (by simp; omega)]; with_reducible assumption)), (by repeat' (first | (with_reducible assumption) | (with_reducible exact gb_refl _ _) | (with_reducible refine gb_drew ?_) | (with_reducible refine gb_alloc ?_ _) | (with_reducible refine gb_seta ?_ (by first | omega | (simp; done) | (simp; omega)) _)))⟩ hgn
  (try clear hS)
  have hS := hT
  clear hT hcn hgn
  have hS2 := hS
  obtain ⟨hq0, ⟨f0, fr0⟩, q1, q2, hF⟩ := hS2
  have hgl : g < w2.heap.size := hq0.lt
  have hzw : w.heap.size ≤ w2.heap.size := hF.size
  have hz1 : w.heap.size < w2.heap.size := World.block_lt_of_cell? w2 _ q1
  have hp9 : p ≤ 249 := by omega
  have hm0 := Int.mul_nonneg p0 (show 0 ≤ e by omega)
  have hm1 : p * e ≤ 249 * 39 := Int.mul_le_mul hp9 e1 (by omega) (by omega)
  have ewm : IntKind.i64.wrap (p * e) = p * e := IntWalk.i64_in _ (by omega)
  go_wp2_with fail
  refine (pick_c (250) (by omega) (g) (k + 4) _ (hide (by repeat' (first | (with_reducible exact hS.1) | (with_reducible refine Cur.drew ?_) | (with_reducible refine Cur.alloc ?_ _) | (with_reducible refine Cur.setc ?_ (by first | omega | (simp; done) | (simp; omega)) _)))) (by omega)).mono ?_
  rintro e w3 ⟨_, rfl, ⟨u, rfl, u0, u1⟩, hcn, hgn⟩
  have hT : Cur w3 (g) (k + 6) ∧ (w.heap.size < w3.heap.size ∧ ∀ i, w3.frozen? ⟨w.heap.size, i, none⟩ = false) ∧ w3.cell? ⟨w.heap.size, 0, none⟩ = some (.int .i64 (0)) ∧ w3.cell? ⟨w.heap.size, 1, none⟩ = some (.int .i64 (0)) ∧ w.grownBy w3 (some g) := (fun W h hgn => ⟨hcn, fre_gb (h.2.1) hgn (by intro e; injection e with e; (try dsimp only at e); omega), hgn.cell (h.2.2.1) (by intro e; injection e with e; (try dsimp only at e); omega), hgn.cell (h.2.2.2.1) (by intro e; injection e with e; (try dsimp only at e); omega), grown_trans (h.2.2.2.2) hgn⟩ : ∀ W : World, (Cur W (g) (k + 4) ∧ (w.heap.size < W.heap.size ∧ ∀ i, W.frozen? ⟨w.heap.size, i, none⟩ = false) ∧ W.cell? ⟨w.heap.size, 0, none⟩ = some (.int .i64 (0)) ∧ W.cell? ⟨w.heap.size, 1, none⟩ = some (.int .i64 (0)) ∧ w.grownBy W (some g)) → W.grownBy w3 (some (g)) → (Cur w3 (g) (k + 6) ∧ (w.heap.size < w3.heap.size ∧ ∀ i, w3.frozen? ⟨w.heap.size, i, none⟩ = false) ∧ w3.cell? ⟨w.heap.size, 0, none⟩ = some (.int .i64 (0)) ∧ w3.cell? ⟨w.heap.size, 1, none⟩ = some (.int .i64 (0)) ∧ w.grownBy w3 (some g))) _ ⟨(by repeat' (first | (with_reducible exact hS.1) | (with_reducible refine Cur.drew ?_) | (with_reducible refine Cur.alloc ?_ _) | (with_reducible refine Cur.setc ?_ (by first | omega | (simp; done) | (simp; omega)) _))), (by first | (with_reducible assumption) | (simp [go_sem]; done) | (refine keep_fre ?_ ⟨by with_reducible assumption, by with_reducible assumption⟩; go_grown; done) | (simp [go_sem, *]; done)), (by first | (with_reducible assumption) | (simp [go_sem]; done) | ((simp only [go_sem]); (with_reducible assumption)) | ((refine keep_cell ?_ (by with_reducible assumption)); go_grown; done) | (simp [go_sem, *]; done) | (rw [World.cell?_setCell_other _ _ _ _ (by simp; omega)]; with_reducible assumption) | (rw [World.cell?_setCell_other _ _ _ _ (by simp; omega), World.cell?_setCell_other _ _ _ _ (by simp; omega)]; with_reducible assumption)), (by first | (with_reducible assumption) | (simp [go_sem]; done) | ((simp only [go_sem]); (with_reducible assumption)) | ((refine keep_cell ?_ (by with_reducible assumption)); go_grown; done) | (simp [go_sem, *]; done) | (rw [World.cell?_setCell_other _ _ _ _ (by simp; omega)]; with_reducible assumption) | (rw [World.cell?_setCell_other _ _ _ _ (by simp; omega), World.cell?_setCell_other _ _ _ _ (by simp; omega)]; with_reducible assumption)), (by repeat' (first | (with_reducible assumption) | (with_reducible exact gb_refl _ _) | (with_reducible refine gb_drew ?_) | (with_reducible refine gb_alloc ?_ _) | (with_reducible refine gb_seta ?_ (by first | omega | (simp; done) | (simp; omega)) _)))⟩ hgn
  (try clear hS)
  have hS := hT
  clear hT hcn hgn
  have hS2 := hS
  obtain ⟨hq0, ⟨f0, fr0⟩, q1, q2, hF⟩ := hS2
  have hgl : g < w3.heap.size := hq0.lt
  have hzw : w.heap.size ≤ w3.heap.size := hF.size
  have hz1 : w.heap.size < w3.heap.size := World.block_lt_of_cell? w3 _ q1
  go_wp2_with fail
  refine (among_c (1) (39) [1, 7, 39] _ _ (g) (k + 6) _ (hide (by repeat' (first | (with_reducible exact hS.1) | (with_reducible refine Cur.drew ?_) | (with_reducible refine Cur.alloc ?_ _) | (with_reducible refine Cur.setc ?_ (by first | omega | (simp; done) | (simp; omega)) _)))) (by omega) (hide (lit_at (by rfl) (by simp))) (by intro e; (try dsimp only at e); omega) ⟨by decide, by decide⟩ (hide (by decide))).mono ?_
  rintro e w4 ⟨_, rfl, ⟨v, rfl, v0, v1⟩, hcn, hgn⟩
  have hT : Cur w4 (g) (k + 8) ∧ (w.heap.size < w4.heap.size ∧ ∀ i, w4.frozen? ⟨w.heap.size, i, none⟩ = false) ∧ w4.cell? ⟨w.heap.size, 0, none⟩ = some (.int .i64 (0)) ∧ w4.cell? ⟨w.heap.size, 1, none⟩ = some (.int .i64 (0)) ∧ w.grownBy w4 (some g) := (fun W h hgn => ⟨hcn, fre_gb (h.2.1) hgn (by intro e; injection e with e; (try dsimp only at e); omega), hgn.cell (h.2.2.1) (by intro e; injection e with e; (try dsimp only at e); omega), hgn.cell (h.2.2.2.1) (by intro e; injection e with e; (try dsimp only at e); omega), grown_trans (h.2.2.2.2) hgn⟩ : ∀ W : World, (Cur W (g) (k + 6) ∧ (w.heap.size < W.heap.size ∧ ∀ i, W.frozen? ⟨w.heap.size, i, none⟩ = false) ∧ W.cell? ⟨w.heap.size, 0, none⟩ = some (.int .i64 (0)) ∧ W.cell? ⟨w.heap.size, 1, none⟩ = some (.int .i64 (0)) ∧ w.grownBy W (some g)) → W.grownBy w4 (some (g)) → (Cur w4 (g) (k + 8) ∧ (w.heap.size < w4.heap.size ∧ ∀ i, w4.frozen? ⟨w.heap.size, i, none⟩ = false) ∧ w4.cell? ⟨w.heap.size, 0, none⟩ = some (.int .i64 (0)) ∧ w4.cell? ⟨w.heap.size, 1, none⟩ = some (.int .i64 (0)) ∧ w.grownBy w4 (some g))) _ ⟨(by repeat' (first | (with_reducible exact hS.1) | (with_reducible refine Cur.drew ?_) | (with_reducible refine Cur.alloc ?_ _) | (with_reducible refine Cur.setc ?_ (by first | omega | (simp; done) | (simp; omega)) _))), (by first | (with_reducible assumption) | (simp [go_sem]; done) | (refine keep_fre ?_ ⟨by with_reducible assumption, by with_reducible assumption⟩; go_grown; done) | (simp [go_sem, *]; done)), (by first | (with_reducible assumption) | (simp [go_sem]; done) | ((simp only [go_sem]); (with_reducible assumption)) | ((refine keep_cell ?_ (by with_reducible assumption)); go_grown; done) | (simp [go_sem, *]; done) | (rw [World.cell?_setCell_other _ _ _ _ (by simp; omega)]; with_reducible assumption) | (rw [World.cell?_setCell_other _ _ _ _ (by simp; omega), World.cell?_setCell_other _ _ _ _ (by simp; omega)]; with_reducible assumption)), (by first | (with_reducible assumption) | (simp [go_sem]; done) | ((simp only [go_sem]); (with_reducible assumption)) | ((refine keep_cell ?_ (by with_reducible assumption)); go_grown; done) | (simp [go_sem, *]; done) | (rw [World.cell?_setCell_other _ _ _ _ (by simp; omega)]; with_reducible assumption) | (rw [World.cell?_setCell_other _ _ _ _ (by simp; omega), World.cell?_setCell_other _ _ _ _ (by simp; omega)]; with_reducible assumption)), (by repeat' (first | (with_reducible assumption) | (with_reducible exact gb_refl _ _) | (with_reducible refine gb_drew ?_) | (with_reducible refine gb_alloc ?_ _) | (with_reducible refine gb_seta ?_ (by first | omega | (simp; done) | (simp; omega)) _)))⟩ hgn
  (try clear hS)
  have hS := hT
  clear hT hcn hgn
  have hS2 := hS
  obtain ⟨hq0, ⟨f0, fr0⟩, q1, q2, hF⟩ := hS2
  have hgl : g < w4.heap.size := hq0.lt
  have hzw : w.heap.size ≤ w4.heap.size := hF.size
  have hz1 : w.heap.size < w4.heap.size := World.block_lt_of_cell? w4 _ q1
  have hu9 : u ≤ 249 := by omega
  have hn0 := Int.mul_nonneg u0 (show 0 ≤ v by omega)
  have hn1 : u * v ≤ 249 * 39 := Int.mul_le_mul hu9 v1 (by omega) (by omega)
  have ewn : IntKind.i64.wrap (u * v) = u * v := IntWalk.i64_in _ (by omega)
  obtain ⟨d0, d1, d2, d3⟩ := box2_sets q1 q2 (.int .i64 (p * e)) (.int .i64 (u * v))
  go_wp2
  refine bodyPost_ret (by simp [results, Try.results69, go_sem, d2, d3]; try rfl) rfl ?_
  exact ⟨_, rfl, ⟨_, _, rfl, by omega, by omega⟩, (by repeat' (first | (with_reducible exact hS.1) | (with_reducible refine Cur.drew ?_) | (with_reducible refine Cur.alloc ?_ _) | (with_reducible refine Cur.setc ?_ (by first | omega | (simp; done) | (simp; omega)) _))), (by repeat' (first | (with_reducible assumption) | (with_reducible exact gb_refl _ _) | (with_reducible refine gb_drew ?_) | (with_reducible refine gb_alloc ?_ _) | (with_reducible refine gb_seta ?_ (by first | omega | (simp; done) | (simp; omega)) _)))⟩
theorem frame_c (g k : Nat) (w : World) (hc : Hid (Cur w g k)) (hk : k ≤ 10000)  : Calls Try.prog 89 #[.pointer (some ⟨g, 0, none⟩)] w (CurG w g (k + 10) IsFr) := by
  have hgw : g < w.heap.size := hc.out.lt
  go_enter Try.func89, Try.ntmps89
  go_wp2_with fail
  refine (pick_c (4) (by omega) (g) (k) _ (hide (by repeat' (first | (with_reducible exact hc.out) | (with_reducible refine Cur.drew ?_) | (with_reducible refine Cur.alloc ?_ _) | (with_reducible refine Cur.setc ?_ (by first | omega | (simp; done) | (simp; omega)) _)))) (by omega)).mono ?_
  rintro e w1 ⟨_, rfl, ⟨p, rfl, p0, p1⟩, hcn, hgn⟩
  have hT : Cur w1 (g) (k + 2) ∧ (w.heap.size < w1.heap.size ∧ ∀ i, w1.frozen? ⟨w.heap.size, i, none⟩ = false) ∧ w1.cell? ⟨w.heap.size, 0, none⟩ = some (.int .i64 (0)) ∧ w1.cell? ⟨w.heap.size, 1, none⟩ = some (.int .i64 (0)) ∧ w1.cell? ⟨w.heap.size, 2, none⟩ = some (.int .i64 (0)) ∧ w.grownBy w1 (some g) := (fun W h hgn => ⟨hcn, fre_gb (h.2.1) hgn (by intro e; injection e with e; (try dsimp only at e); omega), hgn.cell (h.2.2.1) (by intro e; injection e with e; (try dsimp only at e); omega), hgn.cell (h.2.2.2.1) (by intro e; injection e with e; (try dsimp only at e); omega), hgn.cell (h.2.2.2.2.1) (by intro e; injection e with e; (try dsimp only at e); omega), grown_trans (h.2.2.2.2.2) hgn⟩ : ∀ W : World, (Cur W (g) (k) ∧ (w.heap.size < W.heap.size ∧ ∀ i, W.frozen? ⟨w.heap.size, i, none⟩ = false) ∧ W.cell? ⟨w.heap.size, 0, none⟩ = some (.int .i64 (0)) ∧ W.cell? ⟨w.heap.size, 1, none⟩ = some (.int .i64 (0)) ∧ W.cell? ⟨w.heap.size, 2, none⟩ = some (.int .i64 (0)) ∧ w.grownBy W (some g)) → W.grownBy w1 (some (g)) → (Cur w1 (g) (k + 2) ∧ (w.heap.size < w1.heap.size ∧ ∀ i, w1.frozen? ⟨w.heap.size, i, none⟩ = false) ∧ w1.cell? ⟨w.heap.size, 0, none⟩ = some (.int .i64 (0)) ∧ w1.cell? ⟨w.heap.size, 1, none⟩ = some (.int .i64 (0)) ∧ w1.cell? ⟨w.heap.size, 2, none⟩ = some (.int .i64 (0)) ∧ w.grownBy w1 (some g))) _ ⟨(by repeat' (first | (with_reducible exact hc.out) | (with_reducible refine Cur.drew ?_) | (with_reducible refine Cur.alloc ?_ _) | (with_reducible refine Cur.setc ?_ (by first | omega | (simp; done) | (simp; omega)) _))), (by first | (with_reducible assumption) | (simp [go_sem]; done) | (refine keep_fre ?_ ⟨by with_reducible assumption, by with_reducible assumption⟩; go_grown; done) | (simp [go_sem, *]; done)), (by first | (with_reducible assumption) | (simp [go_sem]; done) | ((simp only [go_sem]); (with_reducible assumption)) | ((refine keep_cell ?_ (by with_reducible assumption)); go_grown; done) | (simp [go_sem, *]; done) | (rw [World.cell?_setCell_other _ _ _ _ (by simp; omega)]; with_reducible assumption) | (rw [World.cell?_setCell_other _ _ _ _ (by simp; omega), World.cell?_setCell_other _ _ _ _ (by simp; omega)]; with_reducible assumption)), (by first | (with_reducible assumption) | (simp [go_sem]; done) | ((simp only [go_sem]); (with_reducible assumption)) | ((refine keep_cell ?_ (by with_reducible assumption)); go_grown; done) | (simp [go_sem, *]; done) | (rw [World.cell?_setCell_other _ _ _ _ (by simp; omega)]; with_reducible assumption) | (rw [World.cell?_setCell_other _ _ _ _ (by simp; omega), World.cell?_setCell_other _ _ _ _ (by simp; omega)]; with_reducible assumption)), (by first | (with_reducible assumption) | (simp [go_sem]; done) | ((simp only [go_sem]); (with_reducible assumption)) | ((refine keep_cell ?_ (by with_reducible assumption)); go_grown; done) | (simp [go_sem, *]; done) | (rw [World.cell?_setCell_other _ _ _ _ (by simp; omega)]; with_reducible assumption) | (rw [World.cell?_setCell_other _ _ _ _ (by simp; omega), World.cell?_setCell_other _ _ _ _ (by simp; omega)]; with_reducible assumption)), (by repeat' (first | (with_reducible assumption) | (with_reducible exact gb_refl _ _) | (with_reducible refine gb_drew ?_) | (with_reducible refine gb_alloc ?_ _) | (with_reducible refine gb_seta ?_ (by first | omega | (simp; done) | (simp; omega)) _)))⟩ hgn
  (try clear hS)
  have hS := hT
  clear hT hcn hgn
  have hS2 := hS
  obtain ⟨hq0, ⟨f0, fr0⟩, q1, q2, q3, hF⟩ := hS2
  have hgl : g < w1.heap.size := hq0.lt
  have hzw : w.heap.size ≤ w1.heap.size := hF.size
  have hz1 : w.heap.size < w1.heap.size := World.block_lt_of_cell? w1 _ q1
  have hp9 : p ≤ 3 := by omega
  go_wp2_with fail
  refine (among_c (1) (65535) [1, 2, 255, 4660, 65535] _ _ (g) (k + 2) _ (hide (by repeat' (first | (with_reducible exact hS.1) | (with_reducible refine Cur.drew ?_) | (with_reducible refine Cur.alloc ?_ _) | (with_reducible refine Cur.setc ?_ (by first | omega | (simp; done) | (simp; omega)) _)))) (by omega) (hide (lit_at (by rfl) (by simp))) (by intro e; (try dsimp only at e); omega) ⟨by decide, by decide⟩ (hide (by decide))).mono ?_
  rintro e w2 ⟨_, rfl, ⟨e, rfl, e0, e1⟩, hcn, hgn⟩
  have hT : Cur w2 (g) (k + 4) ∧ (w.heap.size < w2.heap.size ∧ ∀ i, w2.frozen? ⟨w.heap.size, i, none⟩ = false) ∧ w2.cell? ⟨w.heap.size, 0, none⟩ = some (.int .i64 (0)) ∧ w2.cell? ⟨w.heap.size, 1, none⟩ = some (.int .i64 (0)) ∧ w2.cell? ⟨w.heap.size, 2, none⟩ = some (.int .i64 (0)) ∧ w.grownBy w2 (some g) := (fun W h hgn => ⟨hcn, fre_gb (h.2.1) hgn (by intro e; injection e with e; (try dsimp only at e); omega), hgn.cell (h.2.2.1) (by intro e; injection e with e; (try dsimp only at e); omega), hgn.cell (h.2.2.2.1) (by intro e; injection e with e; (try dsimp only at e); omega), hgn.cell (h.2.2.2.2.1) (by intro e; injection e with e; (try dsimp only at e); omega), grown_trans (h.2.2.2.2.2) hgn⟩ : ∀ W : World, (Cur W (g) (k + 2) ∧ (w.heap.size < W.heap.size ∧ ∀ i, W.frozen? ⟨w.heap.size, i, none⟩ = false) ∧ W.cell? ⟨w.heap.size, 0, none⟩ = some (.int .i64 (0)) ∧ W.cell? ⟨w.heap.size, 1, none⟩ = some (.int .i64 (0)) ∧ W.cell? ⟨w.heap.size, 2, none⟩ = some (.int .i64 (0)) ∧ w.grownBy W (some g)) → W.grownBy w2 (some (g)) → (Cur w2 (g) (k + 4) ∧ (w.heap.size < w2.heap.size ∧ ∀ i, w2.frozen? ⟨w.heap.size, i, none⟩ = false) ∧ w2.cell? ⟨w.heap.size, 0, none⟩ = some (.int .i64 (0)) ∧ w2.cell? ⟨w.heap.size, 1, none⟩ = some (.int .i64 (0)) ∧ w2.cell? ⟨w.heap.size, 2, none⟩ = some (.int .i64 (0)) ∧ w.grownBy w2 (some g))) _ ⟨(by repeat' (first | (with_reducible exact hS.1) | (with_reducible refine Cur.drew ?_) | (with_reducible refine Cur.alloc ?_ _) | (with_reducible refine Cur.setc ?_ (by first | omega | (simp; done) | (simp; omega)) _))), (by first | (with_reducible assumption) | (simp [go_sem]; done) | (refine keep_fre ?_ ⟨by with_reducible assumption, by with_reducible assumption⟩; go_grown; done) | (simp [go_sem, *]; done)), (by first | (with_reducible assumption) | (simp [go_sem]; done) | ((simp only [go_sem]); (with_reducible assumption)) | ((refine keep_cell ?_ (by with_reducible assumption)); go_grown; done) | (simp [go_sem, *]; done) | (rw [World.cell?_setCell_other _ _ _ _ (by simp; omega)]; with_reducible assumption) | (rw [World.cell?_setCell_other _ _ _ _ (by simp; omega), World.cell?_setCell_other _ _ _ _ (by simp; omega)]; with_reducible assumption)), (by first | (with_reducible assumption) | (simp [go_sem]; done) | ((simp only [go_sem]); (with_reducible assumption)) | ((refine keep_cell ?_ (by with_reducible assumption)); go_grown; done) | (simp [go_sem, *]; done) | (rw [World.cell?_setCell_other _ _ _ _ (by simp; omega)]; with_reducible assumption) | (rw [World.cell?_setCell_other _ _ _ _ (by simp; omega), World.cell?_setCell_other _ _ _ _ (by simp; omega)]; with_reducible assumption)), (by first | (with_reducible assumption) | (simp [go_sem]; done) | ((simp only [go_sem]); (with_reducible assumption)) | ((refine keep_cell ?_ (by with_reducible assumption)); go_grown; done) | (simp [go_sem, *]; done) | (rw [World.cell?_setCell_other _ _ _ _ (by simp; omega)]; with_reducible assumption) | (rw [World.cell?_setCell_other _ _ _ _ (by simp; omega), World.cell?_setCell_other _ _ _ _ (by simp; omega)]; with_reducible assumption)), (by repeat' (first | (with_reducible assumption) | (with_reducible exact gb_refl _ _) | (with_reducible refine gb_drew ?_) | (with_reducible refine gb_alloc ?_ _) | (with_reducible refine gb_seta ?_ (by first | omega | (simp; done) | (simp; omega)) _)))⟩ hgn
  (try clear hS)
  have hS := hT
  clear hT hcn hgn
  have hS2 := hS
  obtain ⟨hq0, ⟨f0, fr0⟩, q1, q2, q3, hF⟩ := hS2
  have hgl : g < w2.heap.size := hq0.lt
  have hzw : w.heap.size ≤ w2.heap.size := hF.size
  have hz1 : w.heap.size < w2.heap.size := World.block_lt_of_cell? w2 _ q1
  go_wp2_with fail
  refine (pick_c (256) (by omega) (g) (k + 4) _ (hide (by repeat' (first | (with_reducible exact hS.1) | (with_reducible refine Cur.drew ?_) | (with_reducible refine Cur.alloc ?_ _) | (with_reducible refine Cur.setc ?_ (by first | omega | (simp; done) | (simp; omega)) _)))) (by omega)).mono ?_
  rintro e w3 ⟨_, rfl, ⟨n, rfl, n0, n1⟩, hcn, hgn⟩
  have hT : Cur w3 (g) (k + 6) ∧ (w.heap.size < w3.heap.size ∧ ∀ i, w3.frozen? ⟨w.heap.size, i, none⟩ = false) ∧ w3.cell? ⟨w.heap.size, 0, none⟩ = some (.int .i64 (0)) ∧ w3.cell? ⟨w.heap.size, 1, none⟩ = some (.int .i64 (0)) ∧ w3.cell? ⟨w.heap.size, 2, none⟩ = some (.int .i64 (0)) ∧ w.grownBy w3 (some g) := (fun W h hgn => ⟨hcn, fre_gb (h.2.1) hgn (by intro e; injection e with e; (try dsimp only at e); omega), hgn.cell (h.2.2.1) (by intro e; injection e with e; (try dsimp only at e); omega), hgn.cell (h.2.2.2.1) (by intro e; injection e with e; (try dsimp only at e); omega), hgn.cell (h.2.2.2.2.1) (by intro e; injection e with e; (try dsimp only at e); omega), grown_trans (h.2.2.2.2.2) hgn⟩ : ∀ W : World, (Cur W (g) (k + 4) ∧ (w.heap.size < W.heap.size ∧ ∀ i, W.frozen? ⟨w.heap.size, i, none⟩ = false) ∧ W.cell? ⟨w.heap.size, 0, none⟩ = some (.int .i64 (0)) ∧ W.cell? ⟨w.heap.size, 1, none⟩ = some (.int .i64 (0)) ∧ W.cell? ⟨w.heap.size, 2, none⟩ = some (.int .i64 (0)) ∧ w.grownBy W (some g)) → W.grownBy w3 (some (g)) → (Cur w3 (g) (k + 6) ∧ (w.heap.size < w3.heap.size ∧ ∀ i, w3.frozen? ⟨w.heap.size, i, none⟩ = false) ∧ w3.cell? ⟨w.heap.size, 0, none⟩ = some (.int .i64 (0)) ∧ w3.cell? ⟨w.heap.size, 1, none⟩ = some (.int .i64 (0)) ∧ w3.cell? ⟨w.heap.size, 2, none⟩ = some (.int .i64 (0)) ∧ w.grownBy w3 (some g))) _ ⟨(by repeat' (first | (with_reducible exact hS.1) | (with_reducible refine Cur.drew ?_) | (with_reducible refine Cur.alloc ?_ _) | (with_reducible refine Cur.setc ?_ (by first | omega | (simp; done) | (simp; omega)) _))), (by first | (with_reducible assumption) | (simp [go_sem]; done) | (refine keep_fre ?_ ⟨by with_reducible assumption, by with_reducible assumption⟩; go_grown; done) | (simp [go_sem, *]; done)), (by first | (with_reducible assumption) | (simp [go_sem]; done) | ((simp only [go_sem]); (with_reducible assumption)) | ((refine keep_cell ?_ (by with_reducible assumption)); go_grown; done) | (simp [go_sem, *]; done) | (rw [World.cell?_setCell_other _ _ _ _ (by simp; omega)]; with_reducible assumption) | (rw [World.cell?_setCell_other _ _ _ _ (by simp; omega), World.cell?_setCell_other _ _ _ _ (by simp; omega)]; with_reducible assumption)), (by first | (with_reducible assumption) | (simp [go_sem]; done) | ((simp only [go_sem]); (with_reducible assumption)) | ((refine keep_cell ?_ (by with_reducible assumption)); go_grown; done) | (simp [go_sem, *]; done) | (rw [World.cell?_setCell_other _ _ _ _ (by simp; omega)]; with_reducible assumption) | (rw [World.cell?_setCell_other _ _ _ _ (by simp; omega), World.cell?_setCell_other _ _ _ _ (by simp; omega)]; with_reducible assumption)), (by first | (with_reducible assumption) | (simp [go_sem]; done) | ((simp only [go_sem]); (with_reducible assumption)) | ((refine keep_cell ?_ (by with_reducible assumption)); go_grown; done) | (simp [go_sem, *]; done) | (rw [World.cell?_setCell_other _ _ _ _ (by simp; omega)]; with_reducible assumption) | (rw [World.cell?_setCell_other _ _ _ _ (by simp; omega), World.cell?_setCell_other _ _ _ _ (by simp; omega)]; with_reducible assumption)), (by repeat' (first | (with_reducible assumption) | (with_reducible exact gb_refl _ _) | (with_reducible refine gb_drew ?_) | (with_reducible refine gb_alloc ?_ _) | (with_reducible refine gb_seta ?_ (by first | omega | (simp; done) | (simp; omega)) _)))⟩ hgn
  (try clear hS)
  have hS := hT
  clear hT hcn hgn
  have hS2 := hS
  obtain ⟨hq0, ⟨f0, fr0⟩, q1, q2, q3, hF⟩ := hS2
  have hgl : g < w3.heap.size := hq0.lt
  have hzw : w.heap.size ≤ w3.heap.size := hF.size
  have hz1 : w.heap.size < w3.heap.size := World.block_lt_of_cell? w3 _ q1
  have hq9 : n ≤ 255 := by omega
  go_wp2_with fail
  refine (among_c (1) (65536) [1, 256, 65536] _ _ (g) (k + 6) _ (hide (by repeat' (first | (with_reducible exact hS.1) | (with_reducible refine Cur.drew ?_) | (with_reducible refine Cur.alloc ?_ _) | (with_reducible refine Cur.setc ?_ (by first | omega | (simp; done) | (simp; omega)) _)))) (by omega) (hide (lit_at (by rfl) (by simp))) (by intro e; (try dsimp only at e); omega) ⟨by decide, by decide⟩ (hide (by decide))).mono ?_
  rintro e w4 ⟨_, rfl, ⟨u, rfl, u0, u1⟩, hcn, hgn⟩
  have hT : Cur w4 (g) (k + 8) ∧ (w.heap.size < w4.heap.size ∧ ∀ i, w4.frozen? ⟨w.heap.size, i, none⟩ = false) ∧ w4.cell? ⟨w.heap.size, 0, none⟩ = some (.int .i64 (0)) ∧ w4.cell? ⟨w.heap.size, 1, none⟩ = some (.int .i64 (0)) ∧ w4.cell? ⟨w.heap.size, 2, none⟩ = some (.int .i64 (0)) ∧ w.grownBy w4 (some g) := (fun W h hgn => ⟨hcn, fre_gb (h.2.1) hgn (by intro e; injection e with e; (try dsimp only at e); omega), hgn.cell (h.2.2.1) (by intro e; injection e with e; (try dsimp only at e); omega), hgn.cell (h.2.2.2.1) (by intro e; injection e with e; (try dsimp only at e); omega), hgn.cell (h.2.2.2.2.1) (by intro e; injection e with e; (try dsimp only at e); omega), grown_trans (h.2.2.2.2.2) hgn⟩ : ∀ W : World, (Cur W (g) (k + 6) ∧ (w.heap.size < W.heap.size ∧ ∀ i, W.frozen? ⟨w.heap.size, i, none⟩ = false) ∧ W.cell? ⟨w.heap.size, 0, none⟩ = some (.int .i64 (0)) ∧ W.cell? ⟨w.heap.size, 1, none⟩ = some (.int .i64 (0)) ∧ W.cell? ⟨w.heap.size, 2, none⟩ = some (.int .i64 (0)) ∧ w.grownBy W (some g)) → W.grownBy w4 (some (g)) → (Cur w4 (g) (k + 8) ∧ (w.heap.size < w4.heap.size ∧ ∀ i, w4.frozen? ⟨w.heap.size, i, none⟩ = false) ∧ w4.cell? ⟨w.heap.size, 0, none⟩ = some (.int .i64 (0)) ∧ w4.cell? ⟨w.heap.size, 1, none⟩ = some (.int .i64 (0)) ∧ w4.cell? ⟨w.heap.size, 2, none⟩ = some (.int .i64 (0)) ∧ w.grownBy w4 (some g))) _ ⟨(by repeat' (first | (with_reducible exact hS.1) | (with_reducible refine Cur.drew ?_) | (with_reducible refine Cur.alloc ?_ _) | (with_reducible refine Cur.setc ?_ (by first | omega | (simp; done) | (simp; omega)) _))), (by first | (with_reducible assumption) | (simp [go_sem]; done) | (refine keep_fre ?_ ⟨by with_reducible assumption, by with_reducible assumption⟩; go_grown; done) | (simp [go_sem, *]; done)), (by first | (with_reducible assumption) | (simp [go_sem]; done) | ((simp only [go_sem]); (with_reducible assumption)) | ((refine keep_cell ?_ (by with_reducible assumption)); go_grown; done) | (simp [go_sem, *]; done) | (rw [World.cell?_setCell_other _ _ _ _ (by simp; omega)]; with_reducible assumption) | (rw [World.cell?_setCell_other _ _ _ _ (by simp; omega), World.cell?_setCell_other _ _ _ _ (by simp; omega)]; with_reducible assumption)), (by first | (with_reducible assumption) | (simp [go_sem]; done) | ((simp only [go_sem]); (with_reducible assumption)) | ((refine keep_cell ?_ (by with_reducible assumption)); go_grown; done) | (simp [go_sem, *]; done) | (rw [World.cell?_setCell_other _ _ _ _ (by simp; omega)]; with_reducible assumption) | (rw [World.cell?_setCell_other _ _ _ _ (by simp; omega), World.cell?_setCell_other _ _ _ _ (by simp; omega)]; with_reducible assumption)), (by first | (with_reducible assumption) | (simp [go_sem]; done) | ((simp only [go_sem]); (with_reducible assumption)) | ((refine keep_cell ?_ (by with_reducible assumption)); go_grown; done) | (simp [go_sem, *]; done) | (rw [World.cell?_setCell_other _ _ _ _ (by simp; omega)]; with_reducible assumption) | (rw [World.cell?_setCell_other _ _ _ _ (by simp; omega), World.cell?_setCell_other _ _ _ _ (by simp; omega)]; with_reducible assumption)), (by repeat' (first | (with_reducible assumption) | (with_reducible exact gb_refl _ _) | (with_reducible refine gb_drew ?_) | (with_reducible refine gb_alloc ?_ _) | (with_reducible refine gb_seta ?_ (by first | omega | (simp; done) | (simp; omega)) _)))⟩ hgn
  (try clear hS)
  have hS := hT
  clear hT hcn hgn
  have hS2 := hS
  obtain ⟨hq0, ⟨f0, fr0⟩, q1, q2, q3, hF⟩ := hS2
  have hgl : g < w4.heap.size := hq0.lt
  have hzw : w.heap.size ≤ w4.heap.size := hF.size
  have hz1 : w.heap.size < w4.heap.size := World.block_lt_of_cell? w4 _ q1
  have hm0 := Int.mul_nonneg n0 (show 0 ≤ u by omega)
  have hm1 : n * u ≤ 255 * 65536 := Int.mul_le_mul hq9 u1 (by omega) (by omega)
  have ewm : IntKind.i64.wrap (n * u) = n * u := IntWalk.i64_in _ (by omega)
  go_wp2_with fail
  refine (pick_c (2) (by omega) (g) (k + 8) _ (hide (by repeat' (first | (with_reducible exact hS.1) | (with_reducible refine Cur.drew ?_) | (with_reducible refine Cur.alloc ?_ _) | (with_reducible refine Cur.setc ?_ (by first | omega | (simp; done) | (simp; omega)) _)))) (by omega)).mono ?_
  rintro e w5 ⟨_, rfl, ⟨v, rfl, v0, v1⟩, hcn, hgn⟩
  have hT : Cur w5 (g) (k + 10) ∧ (w.heap.size < w5.heap.size ∧ ∀ i, w5.frozen? ⟨w.heap.size, i, none⟩ = false) ∧ w5.cell? ⟨w.heap.size, 0, none⟩ = some (.int .i64 (0)) ∧ w5.cell? ⟨w.heap.size, 1, none⟩ = some (.int .i64 (0)) ∧ w5.cell? ⟨w.heap.size, 2, none⟩ = some (.int .i64 (0)) ∧ w.grownBy w5 (some g) := (fun W h hgn => ⟨hcn, fre_gb (h.2.1) hgn (by intro e; injection e with e; (try dsimp only at e); omega), hgn.cell (h.2.2.1) (by intro e; injection e with e; (try dsimp only at e); omega), hgn.cell (h.2.2.2.1) (by intro e; injection e with e; (try dsimp only at e); omega), hgn.cell (h.2.2.2.2.1) (by intro e; injection e with e; (try dsimp only at e); omega), grown_trans (h.2.2.2.2.2) hgn⟩ : ∀ W : World, (Cur W (g) (k + 8) ∧ (w.heap.size < W.heap.size ∧ ∀ i, W.frozen? ⟨w.heap.size, i, none⟩ = false) ∧ W.cell? ⟨w.heap.size, 0, none⟩ = some (.int .i64 (0)) ∧ W.cell? ⟨w.heap.size, 1, none⟩ = some (.int .i64 (0)) ∧ W.cell? ⟨w.heap.size, 2, none⟩ = some (.int .i64 (0)) ∧ w.grownBy W (some g)) → W.grownBy w5 (some (g)) → (Cur w5 (g) (k + 10) ∧ (w.heap.size < w5.heap.size ∧ ∀ i, w5.frozen? ⟨w.heap.size, i, none⟩ = false) ∧ w5.cell? ⟨w.heap.size, 0, none⟩ = some (.int .i64 (0)) ∧ w5.cell? ⟨w.heap.size, 1, none⟩ = some (.int .i64 (0)) ∧ w5.cell? ⟨w.heap.size, 2, none⟩ = some (.int .i64 (0)) ∧ w.grownBy w5 (some g))) _ ⟨(by repeat' (first | (with_reducible exact hS.1) | (with_reducible refine Cur.drew ?_) | (with_reducible refine Cur.alloc ?_ _) | (with_reducible refine Cur.setc ?_ (by first | omega | (simp; done) | (simp; omega)) _))), (by first | (with_reducible assumption) | (simp [go_sem]; done) | (refine keep_fre ?_ ⟨by with_reducible assumption, by with_reducible assumption⟩; go_grown; done) | (simp [go_sem, *]; done)), (by first | (with_reducible assumption) | (simp [go_sem]; done) | ((simp only [go_sem]); (with_reducible assumption)) | ((refine keep_cell ?_ (by with_reducible assumption)); go_grown; done) | (simp [go_sem, *]; done) | (rw [World.cell?_setCell_other _ _ _ _ (by simp; omega)]; with_reducible assumption) | (rw [World.cell?_setCell_other _ _ _ _ (by simp; omega), World.cell?_setCell_other _ _ _ _ (by simp; omega)]; with_reducible assumption)), (by first | (with_reducible assumption) | (simp [go_sem]; done) | ((simp only [go_sem]); (with_reducible assumption)) | ((refine keep_cell ?_ (by with_reducible assumption)); go_grown; done) | (simp [go_sem, *]; done) | (rw [World.cell?_setCell_other _ _ _ _ (by simp; omega)]; with_reducible assumption) | (rw [World.cell?_setCell_other _ _ _ _ (by simp; omega), World.cell?_setCell_other _ _ _ _ (by simp; omega)]; with_reducible assumption)), (by first | (with_reducible assumption) | (simp [go_sem]; done) | ((simp only [go_sem]); (with_reducible assumption)) | ((refine keep_cell ?_ (by with_reducible assumption)); go_grown; done) | (simp [go_sem, *]; done) | (rw [World.cell?_setCell_other _ _ _ _ (by simp; omega)]; with_reducible assumption) | (rw [World.cell?_setCell_other _ _ _ _ (by simp; omega), World.cell?_setCell_other _ _ _ _ (by simp; omega)]; with_reducible assumption)), (by repeat' (first | (with_reducible assumption) | (with_reducible exact gb_refl _ _) | (with_reducible refine gb_drew ?_) | (with_reducible refine gb_alloc ?_ _) | (with_reducible refine gb_seta ?_ (by first | omega | (simp; done) | (simp; omega)) _)))⟩ hgn
  (try clear hS)
  have hS := hT
  clear hT hcn hgn
  have hS2 := hS
  obtain ⟨hq0, ⟨f0, fr0⟩, q1, q2, q3, hF⟩ := hS2
  have hgl : g < w5.heap.size := hq0.lt
  have hzw : w.heap.size ≤ w5.heap.size := hF.size
  have hz1 : w.heap.size < w5.heap.size := World.block_lt_of_cell? w5 _ q1
  have ews : IntKind.i64.wrap (n * u + v) = n * u + v := IntWalk.i64_in _ (by omega)
  have ewp : IntKind.i64.wrap (1 + p) = 1 + p := IntWalk.i64_in _ (by omega)
  have y0 := hS.2.2.1
  have y1 := hS.2.2.2.1
  have y2 := hS.2.2.2.2.1
  obtain ⟨_, _, z0, z1, z2⟩ := box3_sets y0 y1 y2 (.int .i64 (1 + p)) (.int .i64 e) (.int .i64 (n * u + v))
  go_wp2
  refine bodyPost_ret (by simp [results, Try.results89, go_sem, z0, z1, z2]; try rfl) rfl ?_
  exact ⟨_, rfl, ⟨_, _, _, rfl, by omega, by omega, by omega, by omega⟩, (by repeat' (first | (with_reducible exact hS.1) | (with_reducible refine Cur.drew ?_) | (with_reducible refine Cur.alloc ?_ _) | (with_reducible refine Cur.setc ?_ (by first | omega | (simp; done) | (simp; omega)) _))), (by repeat' (first | (with_reducible assumption) | (with_reducible exact gb_refl _ _) | (with_reducible refine gb_drew ?_) | (with_reducible refine gb_alloc ?_ _) | (with_reducible refine gb_seta ?_ (by first | omega | (simp; done) | (simp; omega)) _)))⟩
end Go.Proofs.Ytbeojfhakmbacaa
namespace Go.Proofs.Ytbeojfhakmbacaa
open Go.RowKit
theorem dg16 {n : Int} (h0 : 0 ≤ n) (h1 : n < 16) : ∃ c : UInt8, (ByteArray.mk #[48, 49, 50, 51, 52, 53, 54, 55, 56, 57, 65, 66, 67, 68, 69, 70]).extract n.toNat (n + 1).toNat = str [c] := by
  have key : ∀ k < 16, ∃ c : UInt8, (ByteArray.mk #[48, 49, 50, 51, 52, 53, 54, 55, 56, 57, 65, 66, 67, 68, 69, 70]).extract k (k + 1) = str [c] := by
    intro k hk
    match k, hk with
    | 0, _ => exact ⟨48, by decide +kernel⟩
    | 1, _ => exact ⟨49, by decide +kernel⟩
    | 2, _ => exact ⟨50, by decide +kernel⟩
    | 3, _ => exact ⟨51, by decide +kernel⟩
    | 4, _ => exact ⟨52, by decide +kernel⟩
    | 5, _ => exact ⟨53, by decide +kernel⟩
    | 6, _ => exact ⟨54, by decide +kernel⟩
    | 7, _ => exact ⟨55, by decide +kernel⟩
    | 8, _ => exact ⟨56, by decide +kernel⟩
    | 9, _ => exact ⟨57, by decide +kernel⟩
    | 10, _ => exact ⟨65, by decide +kernel⟩
    | 11, _ => exact ⟨66, by decide +kernel⟩
    | 12, _ => exact ⟨67, by decide +kernel⟩
    | 13, _ => exact ⟨68, by decide +kernel⟩
    | 14, _ => exact ⟨69, by decide +kernel⟩
    | 15, _ => exact ⟨70, by decide +kernel⟩
    | k + 16, hk => exact absurd hk (by omega)
  obtain ⟨c, hc⟩ := key n.toNat (by omega)
  exact ⟨c, by rw [show (n + 1).toNat = n.toNat + 1 from by omega]; exact hc⟩
set_option maxHeartbeats 2000000 in
theorem l2Hex_c (l : List UInt8) (q : Nat) (hb : Hid (isB l)) (hl : l.length = 4 * q) (hq : q ≤ 16) (w : World) : Calls Try.prog 92 #[.string (str l)] w (fun e w' => ∃ z : ByteArray, e = .returned (.string z) ∧ z.size ≤ 16 ∧ w = w') := by
  have HSZ := hide (str_size l)
  go_enter Try.func92, Try.ntmps92
  go_wp2
  go_loop [3, 4] (fun ov iv => ∃ (i : Nat) (z : ByteArray), i ≤ q ∧ iv = .int .i64 ((4 * i : Nat) : Int) ∧ ov = .string z ∧ z.size = i) (fun _ iv => 4 * q - (intOf iv).toNat)
  case atStart => exact ⟨0, ByteArray.empty, by omega, rfl, rfl, rfl⟩
  case round =>
    obtain ⟨i, z, hi, rfl, rfl, hz⟩ := hrel
    have hsz : (str l).size = 4 * q := by rw [HSZ.out]; exact hl
    by_cases hlt : i < q
    · obtain ⟨p, hp⟩ : ∃ p, 4 * i = p := ⟨_, rfl⟩
      have hp4 : p + 4 ≤ 4 * q := by omega
      rw [hp]
      have HP := hide hp
      have ew : IntKind.i64.wrap ((p : Int) + 4) = (p : Int) + 4 := IntWalk.i64_in _ (by omega)
      have hex : (str l).extract p (p + 4) = str ((l.take (p + 4)).drop p) := ext_str l p (p + 4)
      have hbb := isB_drop (isB_take hb.out (p + 4)) p
      have hll : ((l.take (p + 4)).drop p).length = 4 := by rw [List.length_drop, List.length_take]; omega
      obtain ⟨n0, n1⟩ := numL_bd hbb
      rw [hll] at n1
      have n2 : numL ((l.take (p + 4)).drop p) < 16 := n1
      obtain ⟨K, hK⟩ : ∃ K, (l.take (p + 4)).drop p = K := ⟨_, rfl⟩
      rw [hK] at hex hbb hll n0 n2
      have HB := hide hbb
      obtain ⟨n, hn⟩ : ∃ n, numL K = n := ⟨_, rfl⟩
      rw [hn] at n0 n2
      have HN := hide hn
      obtain ⟨c, hc⟩ := dg16 n0 n2
      have ew2 : IntKind.i64.wrap (n + 1) = n + 1 := IntWalk.i64_in _ (by omega)
      have hadd : ∀ W : World, (Op.stringOp .add z (str [c])).run Try.prog W = .ok (.string (z ++ str [c])) W := fun W => run_string_add_sum W _ _ (by rw [str_size]; simp; omega)
      have HZ2 := hide (show (z ++ str [c]).size = i + 1 from by rw [ByteArray.size_append, str_size, hz]; rfl)
      have HK4 : (str K).size ≤ 30 := by rw [str_size]; omega
      have etn : ((p : Int) + 4).toNat = p + 4 := by omega
      have hp1 : (p : Int) ≤ (p : Int) + 4 := by omega
      have hp2 : (p : Int) + 4 ≤ (((str l).size : Nat) : Int) := by omega
      have hn3 : n ≤ n + 1 := by omega
      have hn4 : n + 1 ≤ 16 := by omega
      have hlq : (p : Int) < (((str l).size : Nat) : Int) := by omega
      clear hp hn hK n1 hbb hll hsz
      go_wp2_with (first | (go_at_call 117; refine (l2Number_c (str K) (by simpa [str] using HB) HK4 _).mono ?_; rintro e w1 ⟨rfl, rfl⟩; rw [show numL (str K).data.toList = n from by rw [← HN.out]; simp [str]]))
      go_round
      case rel => exact ⟨i + 1, _, by omega, int_eq (by have := HP.out; omega), rfl, HZ2.out⟩
      case measure => simp [intOf]; have := HP.out; omega
    · obtain rfl : i = q := by omega
      have hnl : decide (((4 * i : Nat) : Int) < (((str l).size : Nat) : Int)) = false := decide_eq_false (by omega)
      clear hlt
      go_wp2
      go_returns
      exact ⟨_, rfl, by omega, rfl⟩
theorem l4Add_c (l : List UInt8) (hb : Hid (isB l)) (hl : l.length ≤ 52) (w : World) : Calls Try.prog 115 #[.string (str l)] w (fun e w' => e = .returned (.string (str (l ++ bitsL (par l) 12))) ∧ w = w') := by
  have hp0 : 0 ≤ par l ∧ par l ≤ 1000000000000 := by
    have e9 := parL_bits hb.out
    have hlen : (parL l).length = 12 := by rw [← e9, bitsL_len]
    have h1 := numL_bd (l := parL l) (by rw [← e9]; exact bitsL_isB _ _)
    have h2 := par_num hb.out
    rw [h2, hlen] at h1
    have h3 : par l < 4096 := h1.2
    omega
  obtain ⟨p0, p1⟩ := hp0
  obtain ⟨p, hp⟩ : ∃ p, par l = p := ⟨_, rfl⟩
  rw [hp] at p0 p1
  rw [hp]
  have HP := hide hp
  clear hp
  have hadd : ∀ W : World, (Op.stringOp .add (str l) (str (bitsL p 12))).run Try.prog W = .ok (.string (str (l ++ bitsL p 12))) W := fun W => by
    rw [run_string_add_sum W _ _ (by rw [str_size, str_size, bitsL_len]; omega), str_app]
  go_enter Try.func115, Try.ntmps115
  go_wp2_with (first | (go_at_call 127; refine (l4Parity_c l hb (by omega) _).mono ?_; rw [HP.out]; rintro e w1 ⟨rfl, rfl⟩) | (go_at_call 116; refine (l2Of_c p 12 p0 p1 (by omega) _).mono ?_; rintro e w1 ⟨rfl, rfl⟩))
  go_returns
  exact ⟨rfl, rfl⟩
end Go.Proofs.Ytbeojfhakmbacaa
namespace Go.Proofs.Ytbeojfhakmbacaa
open Go.RowKit
def fb0 (k a d : Int) : List UInt8 := bitsL k 4 ++ bitsL a 16 ++ bitsL d 24
def fbL (k a d : Int) : List UInt8 := fb0 k a d ++ bitsL (par (fb0 k a d)) 12
theorem fb0_len (k a d : Int) : (fb0 k a d).length = 44 := by simp [fb0, bitsL_len]
theorem fb0_isB (k a d : Int) : isB (fb0 k a d) := isB_app (isB_app (bitsL_isB _ _) (bitsL_isB _ _)) (bitsL_isB _ _)
theorem fbL_len (k a d : Int) : (fbL k a d).length = 56 := by simp [fbL, fb0_len, bitsL_len]
theorem fbL_isB (k a d : Int) : isB (fbL k a d) := isB_app (fb0_isB _ _ _) (bitsL_isB _ _)
theorem l2Of4_c (n : Int) (h0 : 0 ≤ n) (h1 : n ≤ 1000000000000) (w : World) : Calls Try.prog 116 #[.int .i64 n, .int .i64 4] w fun r' w' => r' = .returned (.string (str (bitsL n 4))) ∧ w = w' := l2Of_c n 4 h0 h1 (by omega) w
theorem l2Of16_c (n : Int) (h0 : 0 ≤ n) (h1 : n ≤ 1000000000000) (w : World) : Calls Try.prog 116 #[.int .i64 n, .int .i64 16] w fun r' w' => r' = .returned (.string (str (bitsL n 16))) ∧ w = w' := l2Of_c n 16 h0 h1 (by omega) w
theorem l2Of24_c (n : Int) (h0 : 0 ≤ n) (h1 : n ≤ 1000000000000) (w : World) : Calls Try.prog 116 #[.int .i64 n, .int .i64 24] w fun r' w' => r' = .returned (.string (str (bitsL n 24))) ∧ w = w' := l2Of_c n 24 h0 h1 (by omega) w
set_option maxHeartbeats 2000000 in
theorem l5Bits_c (k a d : Int) (k0 : 0 ≤ k) (k1 : k ≤ 1000000000000) (a0 : 0 ≤ a) (a1 : a ≤ 1000000000000) (d0 : 0 ≤ d) (d1 : d ≤ 1000000000000) (w : World) : Calls Try.prog 90 #[.agg #[.int .i64 k, .int .i64 a, .int .i64 d]] w (Gives w (.string (str (fbL k a d)))) := by
  have hadd1 : ∀ W : World, (Op.stringOp .add (str (bitsL k 4)) (str (bitsL a 16))).run Try.prog W = .ok (.string (str (bitsL k 4 ++ bitsL a 16))) W := fun W => by
    rw [run_string_add_sum W _ _ (by rw [str_size, str_size, bitsL_len, bitsL_len]; omega), str_app]
  have hadd2 : ∀ W : World, (Op.stringOp .add (str (bitsL k 4 ++ bitsL a 16)) (str (bitsL d 24))).run Try.prog W = .ok (.string (str (fb0 k a d))) W := fun W => by
    rw [run_string_add_sum W _ _ (by rw [str_size, str_size, List.length_append, bitsL_len, bitsL_len, bitsL_len]; omega), str_app]; rfl
  go_enter Try.func90, Try.ntmps90
  go_wp2
  refine wp_region_det (fun w' => w'.cell? ⟨w.heap.size, 0, none⟩ = some (.int .i64 k) ∧ w'.cell? ⟨w.heap.size, 1, none⟩ = some (.int .i64 a) ∧ w'.cell? ⟨w.heap.size, 2, none⟩ = some (.int .i64 d) ∧ Below w.heap.size w w') (by kernel_rfl) (by kernel_rfl) (by first | (with_reducible assumption) | (exact hS) | (exact ⟨hS.1, hS.2.1, hS.2.2.1, (by go_grown)⟩) | (exact ⟨(by first | (with_reducible assumption) | (simp [go_sem]; done) | ((simp only [go_sem]); (with_reducible assumption)) | ((refine keep_cell ?_ (by with_reducible assumption)); go_grown; done) | (simp [go_sem, *]; done)), (by first | (with_reducible assumption) | (simp [go_sem]; done) | ((simp only [go_sem]); (with_reducible assumption)) | ((refine keep_cell ?_ (by with_reducible assumption)); go_grown; done) | (simp [go_sem, *]; done)), (by first | (with_reducible assumption) | (simp [go_sem]; done) | ((simp only [go_sem]); (with_reducible assumption)) | ((refine keep_cell ?_ (by with_reducible assumption)); go_grown; done) | (simp [go_sem, *]; done)), (by go_grown)⟩)) ?_
  repeat (first
    | ((refine wpDet_skip (by rfl) ?_); simp only [Act.put, zp1, zp2, zp3])
    | ((refine wpDet_val (v := ?_) (by rfl) (fun w hS => ?_) ?_); rotate_left; (focus ((try dsimp only at hS); go_simp; (try (with_reducible rfl)); done)); simp only [Act.put, zp1, zp2, zp3])
    | ((refine wpDet_call (v := ?_) (f := ?_) (args := ?_) (by rfl) (fun w => ?_) (fun w hS => ?_) ?_); rotate_left; rotate_left; rotate_left; (focus (go_simp; (constructor <;> (with_reducible rfl)); done)); (focus (first | (go_at_call 116; with_reducible refine (l2Of4_c k k0 k1 _).mono ?_; intro e w' h; refine ⟨h.1.trans ?_, h.2 ▸ hS⟩; with_reducible rfl) | (go_at_call 116; with_reducible refine (l2Of16_c a a0 a1 _).mono ?_; intro e w' h; refine ⟨h.1.trans ?_, h.2 ▸ hS⟩; with_reducible rfl) | (go_at_call 116; with_reducible refine (l2Of24_c d d0 d1 _).mono ?_; intro e w' h; refine ⟨h.1.trans ?_, h.2 ▸ hS⟩; with_reducible rfl) | (go_at_call 115; with_reducible refine (l4Add_c (fb0 k a d) (hide (fb0_isB k a d)) (by rw [fb0_len]; omega) _).mono ?_; intro e w' h; refine ⟨h.1.trans ?_, h.2 ▸ hS⟩; with_reducible rfl))); simp only [Act.put, zp1, zp2, zp3]))
  refine wpDet_nil ?_
  intro w1 hS
  have hT : w1.cell? ⟨w.heap.size, 0, none⟩ = some (.int .i64 k) ∧ w1.cell? ⟨w.heap.size, 1, none⟩ = some (.int .i64 a) ∧ w1.cell? ⟨w.heap.size, 2, none⟩ = some (.int .i64 d) ∧ Below w.heap.size w w1 := hS
  clear hS
  have hS := hT
  obtain ⟨c0, c1, c2, hB⟩ := hT
  have hzw : w.heap.size ≤ w1.heap.size := hB.size
  have hz1 : w.heap.size < w1.heap.size := World.block_lt_of_cell? w1 _ (hS.1)
  go_wp2
  go_returns
  exact ⟨ret_eq rfl, by go_grown⟩
end Go.Proofs.Ytbeojfhakmbacaa
namespace Go.Proofs.Ytbeojfhakmbacaa
open Go.RowKit
theorem flipL_len {s : List UInt8} {i : Nat} (h : i < s.length) : (flipL s i).length = s.length := by
  unfold flipL; simp; omega
theorem pk_bd {o : Bool} {a b : Int} (a0 : 0 ≤ a) (a1 : a < 100) (b0 : 0 ≤ b) (b1 : b < 100) : 0 ≤ pkU o a b ∧ pkU o a b ≤ 1000000 := by
  unfold pkU; cases o <;> simp <;> omega
theorem of_bd {x : Int} (o : Bool) : 0 ≤ x % szOf o ∧ x % szOf o < 100 := by
  have hs := szOf_two o
  have h0 := Int.emod_nonneg x (show szOf o ≠ 0 by omega)
  have h1 := Int.emod_lt_of_pos x (show 0 < szOf o by omega)
  omega
set_option maxRecDepth 100000 in
set_option maxHeartbeats 8000000 in
theorem message_c (g k : Nat) (w : World) (hc : Hid (Cur w g k)) (hk : k ≤ 5000)  : Calls Try.prog 54 #[.pointer (some ⟨g, 0, none⟩)] w (CurG w g (k + 30) (IsTx 16)) := by
  have hgw : g < w.heap.size := hc.out.lt
  go_enter Try.func54, Try.ntmps54
  go_wp2_with fail
  refine (among_c (1) (300) [1, 2, 7, 300] _ _ (g) (k) _ (hide (by repeat' (first | (with_reducible exact hc.out) | (with_reducible refine Cur.drew ?_) | (with_reducible refine Cur.alloc ?_ _) | (with_reducible refine Cur.setc ?_ (by first | omega | (simp; done) | (simp; omega)) _)))) (by omega) (hide (lit_at (by rfl) (by simp))) (by intro e; (try dsimp only at e); omega) ⟨by decide, by decide⟩ (hide (by decide))).mono ?_
  rintro e w1 ⟨_, rfl, ⟨e, rfl, e0, e1⟩, hcn, hgn⟩
  have hT : Cur w1 (g) (k + 2) ∧ w.grownBy w1 (some g) := (fun W h hgn => ⟨hcn, grown_trans (h.2) hgn⟩ : ∀ W : World, (Cur W (g) (k) ∧ w.grownBy W (some g)) → W.grownBy w1 (some (g)) → (Cur w1 (g) (k + 2) ∧ w.grownBy w1 (some g))) _ ⟨(by repeat' (first | (with_reducible exact hc.out) | (with_reducible refine Cur.drew ?_) | (with_reducible refine Cur.alloc ?_ _) | (with_reducible refine Cur.setc ?_ (by first | omega | (simp; done) | (simp; omega)) _))), (by repeat' (first | (with_reducible assumption) | (with_reducible exact gb_refl _ _) | (with_reducible refine gb_drew ?_) | (with_reducible refine gb_alloc ?_ _) | (with_reducible refine gb_seta ?_ (by first | omega | (simp; done) | (simp; omega)) _)))⟩ hgn
  (try clear hS)
  have hS := hT
  clear hT hcn hgn
  have hS2 := hS
  obtain ⟨hq0, hF⟩ := hS2
  have hgl : g < w1.heap.size := hq0.lt
  have hzw : w.heap.size ≤ w1.heap.size := hF.size
  go_wp2_with fail
  refine (place_c (g) (k + 2) _ (hide (by repeat' (first | (with_reducible exact hS.1) | (with_reducible refine Cur.drew ?_) | (with_reducible refine Cur.alloc ?_ _) | (with_reducible refine Cur.setc ?_ (by first | omega | (simp; done) | (simp; omega)) _)))) (by omega)).mono ?_
  rintro e w2 ⟨_, rfl, ⟨x, y, rfl, ⟨x0, x1⟩, y0, y1⟩, hcn, hgn⟩
  have hT : Cur w2 (g) (k + 10) ∧ w.grownBy w2 (some g) := (fun W h hgn => ⟨hcn, grown_trans (h.2) hgn⟩ : ∀ W : World, (Cur W (g) (k + 2) ∧ w.grownBy W (some g)) → W.grownBy w2 (some (g)) → (Cur w2 (g) (k + 10) ∧ w.grownBy w2 (some g))) _ ⟨(by repeat' (first | (with_reducible exact hS.1) | (with_reducible refine Cur.drew ?_) | (with_reducible refine Cur.alloc ?_ _) | (with_reducible refine Cur.setc ?_ (by first | omega | (simp; done) | (simp; omega)) _))), (by repeat' (first | (with_reducible assumption) | (with_reducible exact gb_refl _ _) | (with_reducible refine gb_drew ?_) | (with_reducible refine gb_alloc ?_ _) | (with_reducible refine gb_seta ?_ (by first | omega | (simp; done) | (simp; omega)) _)))⟩ hgn
  (try clear hS)
  have hS := hT
  clear hT hcn hgn
  have hS2 := hS
  obtain ⟨hq0, hF⟩ := hS2
  have hgl : g < w2.heap.size := hq0.lt
  have hzw : w.heap.size ≤ w2.heap.size := hF.size
  go_wp2_with fail
  refine (one_c (2) (by omega) (g) (k + 10) _ (hide (by repeat' (first | (with_reducible exact hS.1) | (with_reducible refine Cur.drew ?_) | (with_reducible refine Cur.alloc ?_ _) | (with_reducible refine Cur.setc ?_ (by first | omega | (simp; done) | (simp; omega)) _)))) (by omega)).mono ?_
  rintro e w3 ⟨_, rfl, ⟨o, rfl⟩, hcn, hgn⟩
  have hT : Cur w3 (g) (k + 12) ∧ w.grownBy w3 (some g) := (fun W h hgn => ⟨hcn, grown_trans (h.2) hgn⟩ : ∀ W : World, (Cur W (g) (k + 10) ∧ w.grownBy W (some g)) → W.grownBy w3 (some (g)) → (Cur w3 (g) (k + 12) ∧ w.grownBy w3 (some g))) _ ⟨(by repeat' (first | (with_reducible exact hS.1) | (with_reducible refine Cur.drew ?_) | (with_reducible refine Cur.alloc ?_ _) | (with_reducible refine Cur.setc ?_ (by first | omega | (simp; done) | (simp; omega)) _))), (by repeat' (first | (with_reducible assumption) | (with_reducible exact gb_refl _ _) | (with_reducible refine gb_drew ?_) | (with_reducible refine gb_alloc ?_ _) | (with_reducible refine gb_seta ?_ (by first | omega | (simp; done) | (simp; omega)) _)))⟩ hgn
  (try clear hS)
  have hS := hT
  clear hT hcn hgn
  have hS2 := hS
  obtain ⟨hq0, hF⟩ := hS2
  have hgl : g < w3.heap.size := hq0.lt
  have hzw : w.heap.size ≤ w3.heap.size := hF.size
  go_wp2_with fail
  refine (l7Of_c x y o x0 y0 _).mono ?_
  rintro e w4 ⟨rfl, hb⟩
  have hT : Cur w4 (g) (k + 12) ∧ w.grownBy w4 (some g) := ⟨hS.1.below hb, gb_below (hS.2) hb⟩
  clear hS hb
  have hS := hT
  clear hT
  have hS2 := hS
  obtain ⟨hq0, hF⟩ := hS2
  have hgl : g < w4.heap.size := hq0.lt
  have hzw : w.heap.size ≤ w4.heap.size := hF.size
  obtain ⟨a0, a1⟩ := of_bd (x := x) o
  obtain ⟨b0, b1⟩ := of_bd (x := y) o
  obtain ⟨a, ha⟩ : ∃ a, x % szOf o = a := ⟨_, rfl⟩
  obtain ⟨b, hb9⟩ : ∃ b, y % szOf o = b := ⟨_, rfl⟩
  rw [ha] at a0 a1
  rw [hb9] at b0 b1
  rw [ha, hb9]
  clear ha hb9
  go_wp2_with fail
  refine (l7Pack_c o a b a0 a1 b0 b1 _).mono ?_
  rintro e w5 ⟨rfl, hb⟩
  have hT : Cur w5 (g) (k + 12) ∧ w.grownBy w5 (some g) := ⟨hS.1.below hb, gb_below (hS.2) hb⟩
  clear hS hb
  have hS := hT
  clear hT
  have hS2 := hS
  obtain ⟨hq0, hF⟩ := hS2
  have hgl : g < w5.heap.size := hq0.lt
  have hzw : w.heap.size ≤ w5.heap.size := hF.size
  obtain ⟨u0, u1⟩ := pk_bd (o := o) a0 a1 b0 b1
  obtain ⟨u, hu⟩ : ∃ u, pkU o a b = u := ⟨_, rfl⟩
  rw [hu] at u0 u1
  rw [hu]
  clear hu
  go_upto_region 2 with fail
  obtain ⟨N, hN⟩ : ∃ q, w5.heap.size = q := ⟨_, rfl⟩
  obtain ⟨w6, hw9⟩ : ∃ W, World.alloc w5 (.cells #[.int .i64 2, .int .i64 e, .int .i64 u] 34) = W := ⟨_, rfl⟩
  rw [hw9, hN]
  have hb : Below w5.heap.size w5 w6 := by rw [← hw9]; go_grown
  have hT : Cur w6 (g) (k + 12) ∧ (N < w6.heap.size ∧ ∀ i, w6.frozen? ⟨N, i, none⟩ = false) ∧ w6.cell? ⟨N, 0, none⟩ = some (.int .i64 2) ∧ w6.cell? ⟨N, 1, none⟩ = some (.int .i64 e) ∧ w6.cell? ⟨N, 2, none⟩ = some (.int .i64 u) ∧ w.grownBy w6 (some g) := ⟨hS.1.below hb, ⟨by rw [← hw9, ← hN]; simp, by rw [← hw9, ← hN]; simp [go_sem]⟩, by rw [← hw9, ← hN]; simp [go_sem], by rw [← hw9, ← hN]; simp [go_sem], by rw [← hw9, ← hN]; simp [go_sem], gb_below hS.2 hb⟩
  have hgN : g < N := by rw [← hN]; exact hS.1.lt
  have hwN : w.heap.size ≤ N := by rw [← hN]; exact hS.2.size
  clear hS hb hw9 hN
  have hS := hT
  clear hT
  have hS2 := hS
  obtain ⟨hq0, ⟨f0, fr0⟩, q1, q2, q3, hF⟩ := hS2
  have hgl : g < w6.heap.size := hq0.lt
  have hzw : w.heap.size ≤ w6.heap.size := hF.size
  have hz1 : N < w6.heap.size := World.block_lt_of_cell? w6 _ q1
  go_wp2_with fail
  refine (one_c (4) (by omega) (g) (k + 12) _ (hide (by repeat' (first | (with_reducible exact hS.1) | (with_reducible refine Cur.drew ?_) | (with_reducible refine Cur.alloc ?_ _) | (with_reducible refine Cur.setc ?_ (by first | omega | (simp; done) | (simp; omega)) _)))) (by omega)).mono ?_
  rintro e w7 ⟨_, rfl, ⟨o2, rfl⟩, hcn, hgn⟩
  have hT : Cur w7 (g) (k + 14) ∧ (N < w7.heap.size ∧ ∀ i, w7.frozen? ⟨N, i, none⟩ = false) ∧ w7.cell? ⟨N, 0, none⟩ = some (.int .i64 2) ∧ w7.cell? ⟨N, 1, none⟩ = some (.int .i64 e) ∧ w7.cell? ⟨N, 2, none⟩ = some (.int .i64 u) ∧ w.grownBy w7 (some g) := (fun W h hgn => ⟨hcn, fre_gb (h.2.1) hgn (by intro e; injection e with e; (try dsimp only at e); omega), hgn.cell (h.2.2.1) (by intro e; injection e with e; (try dsimp only at e); omega), hgn.cell (h.2.2.2.1) (by intro e; injection e with e; (try dsimp only at e); omega), hgn.cell (h.2.2.2.2.1) (by intro e; injection e with e; (try dsimp only at e); omega), grown_trans (h.2.2.2.2.2) hgn⟩ : ∀ W : World, (Cur W (g) (k + 12) ∧ (N < W.heap.size ∧ ∀ i, W.frozen? ⟨N, i, none⟩ = false) ∧ W.cell? ⟨N, 0, none⟩ = some (.int .i64 2) ∧ W.cell? ⟨N, 1, none⟩ = some (.int .i64 e) ∧ W.cell? ⟨N, 2, none⟩ = some (.int .i64 u) ∧ w.grownBy W (some g)) → W.grownBy w7 (some (g)) → (Cur w7 (g) (k + 14) ∧ (N < w7.heap.size ∧ ∀ i, w7.frozen? ⟨N, i, none⟩ = false) ∧ w7.cell? ⟨N, 0, none⟩ = some (.int .i64 2) ∧ w7.cell? ⟨N, 1, none⟩ = some (.int .i64 e) ∧ w7.cell? ⟨N, 2, none⟩ = some (.int .i64 u) ∧ w.grownBy w7 (some g))) _ ⟨(by repeat' (first | (with_reducible exact hS.1) | (with_reducible refine Cur.drew ?_) | (with_reducible refine Cur.alloc ?_ _) | (with_reducible refine Cur.setc ?_ (by first | omega | (simp; done) | (simp; omega)) _))), (by first | (with_reducible assumption) | (simp [go_sem]; done) | (refine keep_fre ?_ ⟨by with_reducible assumption, by with_reducible assumption⟩; go_grown; done) | (simp [go_sem, *]; done)), (by first | (with_reducible assumption) | (simp [go_sem]; done) | ((simp only [go_sem]); (with_reducible assumption)) | ((refine keep_cell ?_ (by with_reducible assumption)); go_grown; done) | (simp [go_sem, *]; done) | (rw [World.cell?_setCell_other _ _ _ _ (by simp; omega)]; with_reducible assumption) | (rw [World.cell?_setCell_other _ _ _ _ (by simp; omega), World.cell?_setCell_other _ _ _ _ (by simp; omega)]; with_reducible assumption)), (by first | (with_reducible assumption) | (simp [go_sem]; done) | ((simp only [go_sem]); (with_reducible assumption)) | ((refine keep_cell ?_ (by with_reducible assumption)); go_grown; done) | (simp [go_sem, *]; done) | (rw [World.cell?_setCell_other _ _ _ _ (by simp; omega)]; with_reducible assumption) | (rw [World.cell?_setCell_other _ _ _ _ (by simp; omega), World.cell?_setCell_other _ _ _ _ (by simp; omega)]; with_reducible assumption)), (by first | (with_reducible assumption) | (simp [go_sem]; done) | ((simp only [go_sem]); (with_reducible assumption)) | ((refine keep_cell ?_ (by with_reducible assumption)); go_grown; done) | (simp [go_sem, *]; done) | (rw [World.cell?_setCell_other _ _ _ _ (by simp; omega)]; with_reducible assumption) | (rw [World.cell?_setCell_other _ _ _ _ (by simp; omega), World.cell?_setCell_other _ _ _ _ (by simp; omega)]; with_reducible assumption)), (by repeat' (first | (with_reducible assumption) | (with_reducible exact gb_refl _ _) | (with_reducible refine gb_drew ?_) | (with_reducible refine gb_alloc ?_ _) | (with_reducible refine gb_seta ?_ (by first | omega | (simp; done) | (simp; omega)) _)))⟩ hgn
  (try clear hS)
  have hS := hT
  clear hT hcn hgn
  have hS2 := hS
  obtain ⟨hq0, ⟨f0, fr0⟩, q1, q2, q3, hF⟩ := hS2
  have hgl : g < w7.heap.size := hq0.lt
  have hzw : w.heap.size ≤ w7.heap.size := hF.size
  have hz1 : N < w7.heap.size := World.block_lt_of_cell? w7 _ q1
  go_upto_if 17 with fail
  go_cut [] (fun wx => ∃ a b c : Int, (0 ≤ a ∧ a ≤ 1000000) ∧ (0 ≤ b ∧ b ≤ 1000000) ∧ (0 ≤ c ∧ c ≤ 100000000) ∧ Cur wx g (k + 24) ∧ (N < wx.heap.size ∧ ∀ i, wx.frozen? ⟨N, i, none⟩ = false) ∧ wx.cell? ⟨N, 0, none⟩ = some (.int .i64 a) ∧ wx.cell? ⟨N, 1, none⟩ = some (.int .i64 b) ∧ wx.cell? ⟨N, 2, none⟩ = some (.int .i64 c) ∧ w.grownBy wx (some g))
  case first =>
    rcases o2 with _ | _
    · go_wp2_with fail
      go_meet
      case rel => exact ⟨2, e, u, by omega, by omega, by omega, hS.1.more (by omega), hS.2⟩
    · go_wp2_with fail
      refine (frame_c (g) (k + 14) _ (hide (by repeat' (first | (with_reducible exact hS.1) | (with_reducible refine Cur.drew ?_) | (with_reducible refine Cur.alloc ?_ _) | (with_reducible refine Cur.setc ?_ (by first | omega | (simp; done) | (simp; omega)) _)))) (by omega)).mono ?_
      rintro e w8 ⟨_, rfl, ⟨p, v, z, rfl, ⟨p0, p1⟩, ⟨v0, v1⟩, z0, z1⟩, hcn, hgn⟩
      have hT : Cur w8 (g) (k + 24) ∧ (N < w8.heap.size ∧ ∀ i, w8.frozen? ⟨N, i, none⟩ = false) ∧ w8.cell? ⟨N, 0, none⟩ = some (.int .i64 2) ∧ w8.cell? ⟨N, 1, none⟩ = some (.int .i64 e) ∧ w8.cell? ⟨N, 2, none⟩ = some (.int .i64 u) ∧ w.grownBy w8 (some g) := (fun W h hgn => ⟨hcn, fre_gb (h.2.1) hgn (by intro e; injection e with e; (try dsimp only at e); omega), hgn.cell (h.2.2.1) (by intro e; injection e with e; (try dsimp only at e); omega), hgn.cell (h.2.2.2.1) (by intro e; injection e with e; (try dsimp only at e); omega), hgn.cell (h.2.2.2.2.1) (by intro e; injection e with e; (try dsimp only at e); omega), grown_trans (h.2.2.2.2.2) hgn⟩ : ∀ W : World, (Cur W (g) (k + 14) ∧ (N < W.heap.size ∧ ∀ i, W.frozen? ⟨N, i, none⟩ = false) ∧ W.cell? ⟨N, 0, none⟩ = some (.int .i64 2) ∧ W.cell? ⟨N, 1, none⟩ = some (.int .i64 e) ∧ W.cell? ⟨N, 2, none⟩ = some (.int .i64 u) ∧ w.grownBy W (some g)) → W.grownBy w8 (some (g)) → (Cur w8 (g) (k + 24) ∧ (N < w8.heap.size ∧ ∀ i, w8.frozen? ⟨N, i, none⟩ = false) ∧ w8.cell? ⟨N, 0, none⟩ = some (.int .i64 2) ∧ w8.cell? ⟨N, 1, none⟩ = some (.int .i64 e) ∧ w8.cell? ⟨N, 2, none⟩ = some (.int .i64 u) ∧ w.grownBy w8 (some g))) _ ⟨(by repeat' (first | (with_reducible exact hS.1) | (with_reducible refine Cur.drew ?_) | (with_reducible refine Cur.alloc ?_ _) | (with_reducible refine Cur.setc ?_ (by first | omega | (simp; done) | (simp; omega)) _))), (by first | (with_reducible assumption) | (simp [go_sem]; done) | (refine keep_fre ?_ ⟨by with_reducible assumption, by with_reducible assumption⟩; go_grown; done) | (simp [go_sem, *]; done)), (by first | (with_reducible assumption) | (simp [go_sem]; done) | ((simp only [go_sem]); (with_reducible assumption)) | ((refine keep_cell ?_ (by with_reducible assumption)); go_grown; done) | (simp [go_sem, *]; done) | (rw [World.cell?_setCell_other _ _ _ _ (by simp; omega)]; with_reducible assumption) | (rw [World.cell?_setCell_other _ _ _ _ (by simp; omega), World.cell?_setCell_other _ _ _ _ (by simp; omega)]; with_reducible assumption)), (by first | (with_reducible assumption) | (simp [go_sem]; done) | ((simp only [go_sem]); (with_reducible assumption)) | ((refine keep_cell ?_ (by with_reducible assumption)); go_grown; done) | (simp [go_sem, *]; done) | (rw [World.cell?_setCell_other _ _ _ _ (by simp; omega)]; with_reducible assumption) | (rw [World.cell?_setCell_other _ _ _ _ (by simp; omega), World.cell?_setCell_other _ _ _ _ (by simp; omega)]; with_reducible assumption)), (by first | (with_reducible assumption) | (simp [go_sem]; done) | ((simp only [go_sem]); (with_reducible assumption)) | ((refine keep_cell ?_ (by with_reducible assumption)); go_grown; done) | (simp [go_sem, *]; done) | (rw [World.cell?_setCell_other _ _ _ _ (by simp; omega)]; with_reducible assumption) | (rw [World.cell?_setCell_other _ _ _ _ (by simp; omega), World.cell?_setCell_other _ _ _ _ (by simp; omega)]; with_reducible assumption)), (by repeat' (first | (with_reducible assumption) | (with_reducible exact gb_refl _ _) | (with_reducible refine gb_drew ?_) | (with_reducible refine gb_alloc ?_ _) | (with_reducible refine gb_seta ?_ (by first | omega | (simp; done) | (simp; omega)) _)))⟩ hgn
      (try clear hS)
      have hS := hT
      clear hT hcn hgn
      have hS2 := hS
      obtain ⟨hq0, ⟨f0, fr0⟩, q1, q2, q3, hF⟩ := hS2
      have hgl : g < w8.heap.size := hq0.lt
      have hzw : w.heap.size ≤ w8.heap.size := hF.size
      have hz1 : N < w8.heap.size := World.block_lt_of_cell? w8 _ q1
      have y0 := hS.2.2.1
      have y1 := hS.2.2.2.1
      have y2 := hS.2.2.2.2.1
      obtain ⟨_, _, r0, r1, r2⟩ := box3_sets y0 y1 y2 (.int .i64 p) (.int .i64 v) (.int .i64 z)
      go_wp2_with fail
      go_meet
      case rel => exact ⟨p, v, z, ⟨p0, p1⟩, ⟨v0, v1⟩, ⟨z0, z1⟩, (((hS.1.setc hgN _).setc hgN _).setc hgN _), sf _ (sf _ (sf _ hS.2.1)), r0, r1, r2, gb_seta (gb_seta (gb_seta hS.2.2.2.2.2 hwN _) hwN _) hwN _⟩
  (try clear hS)
  obtain ⟨a9, b9, c9, ⟨p0, p1⟩, ⟨v0, v1⟩, ⟨z0, z1⟩, hS3⟩ := hcut
  have hS := hS3
  clear hS3
  have hS2 := hS
  obtain ⟨hq0, ⟨f0, fr0⟩, q1, q2, q3, hF⟩ := hS2
  have hgl : g < wc.heap.size := hq0.lt
  have hzw : w.heap.size ≤ wc.heap.size := hF.size
  have hz1 : N < wc.heap.size := World.block_lt_of_cell? wc _ q1
  go_wp2_with fail
  refine (l5Bits_c a9 b9 c9 p0 (by omega) v0 (by omega) z0 (by omega) _).mono ?_
  rintro e w31 ⟨rfl, hb⟩
  have hT : Cur w31 (g) (k + 24) ∧ (N < w31.heap.size ∧ ∀ i, w31.frozen? ⟨N, i, none⟩ = false) ∧ w31.cell? ⟨N, 0, none⟩ = some (.int .i64 (a9)) ∧ w31.cell? ⟨N, 1, none⟩ = some (.int .i64 (b9)) ∧ w31.cell? ⟨N, 2, none⟩ = some (.int .i64 (c9)) ∧ w.grownBy w31 (some g) := ⟨hS.1.below hb, keep_fre hb (hS.2.1), keep_cell hb (hS.2.2.1), keep_cell hb (hS.2.2.2.1), keep_cell hb (hS.2.2.2.2.1), gb_below (hS.2.2.2.2.2) hb⟩
  clear hS hb
  have hS := hT
  clear hT
  have hS2 := hS
  obtain ⟨hq0, ⟨f0, fr0⟩, q1, q2, q3, hF⟩ := hS2
  have hgl : g < w31.heap.size := hq0.lt
  have hzw : w.heap.size ≤ w31.heap.size := hF.size
  have hz1 : N < w31.heap.size := World.block_lt_of_cell? w31 _ q1
  obtain ⟨L0, hL0⟩ : ∃ L, fbL a9 b9 c9 = L := ⟨_, rfl⟩
  have HB := hide (show isB L0 from by rw [← hL0]; exact fbL_isB _ _ _)
  have hl0 : L0.length = 56 := by rw [← hL0]; exact fbL_len _ _ _
  rw [hL0]
  clear hL0
  have hS9 : Cur w31 (g) (k + 24) ∧ w.grownBy w31 (some g) := ⟨hS.1, hS.2.2.2.2.2⟩
  clear hS
  have hS := hS9
  clear hS9
  have hS2 := hS
  obtain ⟨hq0, hF⟩ := hS2
  have hgl : g < w31.heap.size := hq0.lt
  have hzw : w.heap.size ≤ w31.heap.size := hF.size
  go_wp2_with fail
  refine (among_c (0) (2) [0, 0, 0, 1, 1, 2] _ _ (g) (k + 24) _ (hide (by repeat' (first | (with_reducible exact hS.1) | (with_reducible refine Cur.drew ?_) | (with_reducible refine Cur.alloc ?_ _) | (with_reducible refine Cur.setc ?_ (by first | omega | (simp; done) | (simp; omega)) _)))) (by omega) (hide (lit_at (by rfl) (by simp))) (by intro e; (try dsimp only at e); omega) ⟨by decide, by decide⟩ (hide (by decide))).mono ?_
  rintro e w32 ⟨_, rfl, ⟨n, rfl, n0, n1⟩, hcn, hgn⟩
  have hT : Cur w32 (g) (k + 26) ∧ w.grownBy w32 (some g) := (fun W h hgn => ⟨hcn, grown_trans (h.2) hgn⟩ : ∀ W : World, (Cur W (g) (k + 24) ∧ w.grownBy W (some g)) → W.grownBy w32 (some (g)) → (Cur w32 (g) (k + 26) ∧ w.grownBy w32 (some g))) _ ⟨(by repeat' (first | (with_reducible exact hS.1) | (with_reducible refine Cur.drew ?_) | (with_reducible refine Cur.alloc ?_ _) | (with_reducible refine Cur.setc ?_ (by first | omega | (simp; done) | (simp; omega)) _))), (by repeat' (first | (with_reducible assumption) | (with_reducible exact gb_refl _ _) | (with_reducible refine gb_drew ?_) | (with_reducible refine gb_alloc ?_ _) | (with_reducible refine gb_seta ?_ (by first | omega | (simp; done) | (simp; omega)) _)))⟩ hgn
  (try clear hS)
  have hS := hT
  clear hT hcn hgn
  have hS2 := hS
  obtain ⟨hq0, hF⟩ := hS2
  have hgl : g < w32.heap.size := hq0.lt
  have hzw : w.heap.size ≤ w32.heap.size := hF.size
  obtain ⟨j, rfl⟩ : ∃ j : Nat, n = (j : Int) := ⟨n.toNat, by omega⟩
  have hj2 : j ≤ 2 := by omega
  go_wp2_with fail
  go_loopw [4, 5] (fun sv iv wr => ∃ (i : Nat) (L : List UInt8), i ≤ j ∧ iv = .int .i64 i ∧ sv = .string (str L) ∧ Hid (isB L) ∧ L.length = 56 ∧ Cur wr g (k + (26 + 2 * (j - i))) ∧ w.grownBy wr (some g)) (fun _ iv _ => (intOf iv).toNat)
  case atStart => exact ⟨j, L0, Nat.le_refl _, rfl, rfl, HB, hl0, hS.1.more (by omega), hS.2⟩
  case round =>
    (try clear hS)
    obtain ⟨i, L, hi, rfl, rfl, HL, hl, hcu, hgr⟩ := hrel
    by_cases hz : 0 < i
    · obtain ⟨i, rfl⟩ : ∃ q, i = q + 1 := ⟨i - 1, by omega⟩
      have hzw : w.heap.size ≤ wr.heap.size := hgr.size
      go_wp2_with fail
      refine (pick_c 56 (by omega) g (k + (26 + 2 * (j - (i + 1)))) _ (hide hcu) (by omega)).mono ?_
      rintro e w1 ⟨_, rfl, ⟨q, rfl, q0, q1⟩, hcn, hgn⟩
      obtain ⟨q, rfl⟩ : ∃ z : Nat, q = (z : Int) := ⟨q.toNat, by omega⟩
      have hg1 := grown_trans hgr hgn
      go_wp2_with fail
      refine (l2Flip_c L q (by omega) HL (by omega) _).mono ?_
      rintro e w2 ⟨rfl, hb⟩
      have hc2 := hcn.below hb
      have hg2 := gb_below hg1 hb
      have HL2 := hide (flip_isB HL.out q)
      have hl2 : (flipL L q).length = 56 := by rw [flipL_len (by omega)]; exact hl
      clear hcn hgn hg1 hb hcu hgr
      go_wp2_with fail
      go_roundw
      case rel => exact ⟨i, _, by omega, by go_num, rfl, HL2, hl2, hc2.more (by omega), hg2⟩
      case measure => simp [intOf]
    obtain rfl : i = 0 := by omega
    go_wp2_with (first | (go_at_call 92; refine (l2Hex_c L 14 HL (by omega) (by omega) _).mono ?_; rintro e wz ⟨z, rfl, hz9, rfl⟩))
    go_returns
    exact ⟨_, rfl, ⟨z, rfl, hz9⟩, hcu.more (by omega), hgr⟩
end Go.Proofs.Ytbeojfhakmbacaa
