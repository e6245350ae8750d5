/- Contracts: velocities that are drawn, and sent. -/
import Derived.Test.YtpcabjjmphcpeaaCurJ
import Derived.Test.YtpcabjjmphcpeaaCurV
import Derived.Test.YtpcabjjmphcpeaaTuA
import Derived.Test.YtpcabjjmphcpeaaVelMath
import Derived.Test.YtpcabjjmphcpeaaSpI
import Derived.Test.YtpcabjjmphcpeaaSpP
namespace Go.Proofs.Ytpcabjjmphcpeaa
open Go.RowKit

def DrawsI (lo hi : Int) (w : World) (e : Ending) (w' : World) : Prop := ∃ x : Int, e = .returned (.int .i64 x) ∧ lo ≤ x ∧ x ≤ hi ∧ Below w.heap.size w w'
def DrawsIB (lo hi : Int) (w : World) (e : Ending) (w' : World) : Prop := ∃ (x : Int) (b : Bool), e = .returned (.tuple #[.int .i64 x, .bool b]) ∧ lo ≤ x ∧ x ≤ hi ∧ Below w.heap.size w w'
def DrawsII (w : World) (e : Ending) (w' : World) : Prop := ∃ (x y : Int), e = .returned (.tuple #[.int .i64 x, .int .i64 y]) ∧ Below w.heap.size w w'
def DrawsI4 (w : World) (e : Ending) (w' : World) : Prop := ∃ (a f b t : Int), e = .returned (.tuple #[.int .i64 a, .int .i64 f, .int .i64 b, .int .i64 t]) ∧ (-2001 ≤ a ∧ a ≤ 130001) ∧ (-1 ≤ f ∧ f ≤ 86400) ∧ (-2001 ≤ b ∧ b ≤ 130001) ∧ (-1 ≤ t ∧ t ≤ 172800) ∧ Below w.heap.size w w'
def DrawsS (m : Nat) (w : World) (e : Ending) (w' : World) : Prop := ∃ s : ByteArray, e = .returned (.string s) ∧ s.size ≤ m ∧ Below w.heap.size w w'

def DrawsV (w : World) (e : Ending) (w' : World) : Prop := ∃ x y : Int, e = .returned (.agg #[.int .i64 x, .int .i64 y]) ∧ ((-201 ≤ x ∧ x ≤ 201) ∧ -201 ≤ y ∧ y ≤ 201) ∧ Below w.heap.size w w'
theorem enc_bd {x y : Int} : 0 ≤ enc x y ∧ enc x y ≤ 16777215 := by
  unfold enc
  split
  · rename_i h
    obtain ⟨⟨a0, a1⟩, b0, b1⟩ := vV_iff.1 h
    have := sg_bd (x := x) (by omega) (by omega)
    have := sg_bd (x := y) (by omega) (by omega)
    omega
  · omega
theorem vtS_size (x y : Int) : (vtS x y).size = 0 ∨ 1 ≤ (vtS x y).size ∧ (vtS x y).size ≤ 10 := by
  rcases h : vV x y with _ | _
  · left; rw [vtS_no h]; rfl
  · obtain ⟨e, hs⟩ := vtS_at h
    rw [e]
    rcases Nat.eq_zero_or_pos (vtext x y).size with h0 | h0
    · exact .inl h0
    · exact .inr ⟨h0, hs⟩

theorem spoilt_e (t u : ByteArray) (ht : t.size = 0) (hu : 1 ≤ u.size ∧ u.size ≤ 100) (g k : Nat) (w : World) (hc : Hid (Cur w g k)) (hk : k ≤ 10000) : Calls Try.prog 69 #[.pointer (some ⟨g, 0, none⟩), .string t, .string u] w (CurG w g (k + 6) (IsS 1001)) := by
  obtain ⟨u0, u1⟩ := hu
  have hgw : g < w.heap.size := hc.out.lt
  have hte : (t.toList == []) = true := by rw [ByteArray.toList_eq]; have h3 : t.data.toList.length = t.size := by simp
                                           rw [ht] at h3; rw [List.length_eq_zero_iff.1 h3]; rfl
  go_enter Try.func69, Try.ntmps69
  go_wp2
  go_returns
  exact ⟨_, rfl, ⟨_, rfl, by simp; omega⟩, (hc.out.more (by omega)), gb_refl _ _⟩

theorem drawVel_c (A : Option Addr) (n c : Nat) (w : World) (h1 : Hid (CodeOk w A n)) (hn : n ≤ 65536)  : Calls Try.prog 67 #[.slice A n c] w (DrawsV w) := by
  go_enter Try.func67, Try.ntmps67
  go_wp2_with fail
  refine (velocity_c (w.heap.size + 1) (0) _ (hide (cur_new (h1.out.below (by go_grown)) hn (by first | rfl | (simp; done)) 0)) (by omega)).mono ?_
  rintro e w1 ⟨_, rfl, ⟨x, y, rfl, x0, y1⟩, hcn, hgn⟩
  have hT : Cur w1 (w.heap.size + 1) (0 + 18) ∧ (w.heap.size < w1.heap.size ∧ ∀ i, w1.frozen? ⟨w.heap.size, i, none⟩ = false) ∧ w1.cell? ⟨w.heap.size, 0, none⟩ = some (.int .i64 (0)) ∧ w1.cell? ⟨w.heap.size, 1, none⟩ = some (.int .i64 (0)) ∧ Below w.heap.size w w1 := (fun W h hgn => ⟨hcn, fre_gb (h.2.1) hgn (by intro e; injection e with e; (try dsimp only at e); omega), hgn.cell (h.2.2.1) (by intro e; injection e with e; (try dsimp only at e); omega), hgn.cell (h.2.2.2.1) (by intro e; injection e with e; (try dsimp only at e); omega), below_gb (h.2.2.2.2) hgn (h.2.2.2.2).size (by first | omega | (simp; done) | (simp; omega))⟩ : ∀ W : World, (Cur W (w.heap.size + 1) (0) ∧ (w.heap.size < W.heap.size ∧ ∀ i, W.frozen? ⟨w.heap.size, i, none⟩ = false) ∧ W.cell? ⟨w.heap.size, 0, none⟩ = some (.int .i64 (0)) ∧ W.cell? ⟨w.heap.size, 1, none⟩ = some (.int .i64 (0)) ∧ Below w.heap.size w W) → W.grownBy w1 (some (w.heap.size + 1)) → (Cur w1 (w.heap.size + 1) (0 + 18) ∧ (w.heap.size < w1.heap.size ∧ ∀ i, w1.frozen? ⟨w.heap.size, i, none⟩ = false) ∧ w1.cell? ⟨w.heap.size, 0, none⟩ = some (.int .i64 (0)) ∧ w1.cell? ⟨w.heap.size, 1, none⟩ = some (.int .i64 (0)) ∧ Below w.heap.size w w1)) _ ⟨(cur_new (h1.out.below (by go_grown)) hn (by first | rfl | (simp; done)) 0), (by first | (with_reducible assumption) | (simp [go_sem]; done) | (refine keep_fre ?_ ⟨by with_reducible assumption, by with_reducible assumption⟩; go_grown; done) | (simp [go_sem, *]; done)), (by first | (with_reducible assumption) | (simp [go_sem]; done) | ((simp only [go_sem]); (with_reducible assumption)) | ((refine keep_cell ?_ (by with_reducible assumption)); go_grown; done) | (simp [go_sem, *]; done) | (rw [World.cell?_setCell_other _ _ _ _ (by simp; omega)]; with_reducible assumption) | (rw [World.cell?_setCell_other _ _ _ _ (by simp; omega), World.cell?_setCell_other _ _ _ _ (by simp; omega)]; with_reducible assumption)), (by first | (with_reducible assumption) | (simp [go_sem]; done) | ((simp only [go_sem]); (with_reducible assumption)) | ((refine keep_cell ?_ (by with_reducible assumption)); go_grown; done) | (simp [go_sem, *]; done) | (rw [World.cell?_setCell_other _ _ _ _ (by simp; omega)]; with_reducible assumption) | (rw [World.cell?_setCell_other _ _ _ _ (by simp; omega), World.cell?_setCell_other _ _ _ _ (by simp; omega)]; with_reducible assumption)), (by go_grown)⟩ hgn
  (try clear hS)
  have hS := hT
  clear hT hcn hgn
  have hS2 := hS
  obtain ⟨hq0, ⟨f0, fr0⟩, q1, q2, hF⟩ := hS2
  have hgl : w.heap.size + 1 < w1.heap.size := hq0.lt
  have hzw : w.heap.size ≤ w1.heap.size := hF.size
  have hB := hF
  have hz1 : w.heap.size < w1.heap.size := World.block_lt_of_cell? w1 _ q1
  obtain ⟨e0_0, e0_1, e0_2, e0_3⟩ := box2_sets (w := w1) q1 q2 (.int .i64 (x)) (.int .i64 (y))
  go_wp2
  refine bodyPost_ret (by simp [results, Try.results67, go_sem, e0_2, e0_3]; try rfl) rfl ?_
  exact ⟨_, _, rfl, by omega, by go_grown⟩

theorem drawEncV_c (A : Option Addr) (n c : Nat) (w : World) (h1 : Hid (CodeOk w A n)) (hn : n ≤ 65536)  : Calls Try.prog 41 #[.slice A n c] w (DrawsV w) := by
  go_enter Try.func41, Try.ntmps41
  go_wp2_with fail
  refine (drawVel_c A n c _ (hide (h1.out.below (by go_grown))) hn).mono ?_
  rintro e w1 ⟨x, y, rfl, hxy, hb⟩
  have q0 : w1.cell? ⟨w.heap.size, 0, none⟩ = some (.int .i64 0) := keep_cell hb (by simp [go_sem])
  have q1 : w1.cell? ⟨w.heap.size, 1, none⟩ = some (.int .i64 0) := keep_cell hb (by simp [go_sem])
  have hfr : w.heap.size < w1.heap.size ∧ ∀ i, w1.frozen? ⟨w.heap.size, i, none⟩ = false := keep_fre hb ⟨by simp [go_sem], by simp [go_sem]⟩
  obtain ⟨hz1, hfr⟩ := hfr
  obtain ⟨d0, d1, d2, d3⟩ := box2_sets q0 q1 (.int .i64 x) (.int .i64 y)
  have hB : Below w.heap.size w w1 := below_via (by go_grown) hb
  clear hb
  go_wp2
  refine bodyPost_ret (by simp [results, Try.results41, go_sem, d2, d3]; try rfl) rfl ?_
  exact ⟨_, _, rfl, hxy, by go_grown⟩

theorem drawDecV_c (A : Option Addr) (n c : Nat) (w : World) (h1 : Hid (CodeOk w A n)) (hn : n ≤ 65536)  : Calls Try.prog 42 #[.slice A n c] w (DrawsI (-1) 16777300 w) := by
  go_enter Try.func42, Try.ntmps42
  go_wp2_with fail
  refine (velocity_c (w.heap.size) (0) _ (hide (cur_new (h1.out.below (by go_grown)) hn (by first | rfl | (simp; done)) 0)) (by omega)).mono ?_
  rintro e w1 ⟨_, rfl, ⟨x, y, rfl, x0, y1⟩, hcn, hgn⟩
  have hT : Cur w1 (w.heap.size) (0 + 18) ∧ Below w.heap.size w w1 := (fun W h hgn => ⟨hcn, below_gb (h.2) hgn (h.2).size (by first | omega | (simp; done) | (simp; omega))⟩ : ∀ W : World, (Cur W (w.heap.size) (0) ∧ Below w.heap.size w W) → W.grownBy w1 (some (w.heap.size)) → (Cur w1 (w.heap.size) (0 + 18) ∧ Below w.heap.size w w1)) _ ⟨(cur_new (h1.out.below (by go_grown)) hn (by first | rfl | (simp; done)) 0), (by go_grown)⟩ hgn
  (try clear hS)
  have hS := hT
  clear hT hcn hgn
  have hS2 := hS
  obtain ⟨hq0, hF⟩ := hS2
  have hgl : w.heap.size < w1.heap.size := hq0.lt
  have hzw : w.heap.size ≤ w1.heap.size := hF.size
  have hB := hF
  go_wp2_with fail
  refine (sEnc_c x y _).mono ?_
  rintro e w2 ⟨rfl, hb⟩
  have hT : Cur w2 (w.heap.size) (0 + 18) ∧ Below w.heap.size w w2 := (fun W h hb => ⟨h.1.below hb, below_via (h.2) hb⟩ : ∀ W : World, (Cur W (w.heap.size) (0 + 18) ∧ Below w.heap.size w W) → Below W.heap.size W w2 → (Cur w2 (w.heap.size) (0 + 18) ∧ Below w.heap.size w w2)) _ ⟨(by repeat' (first | (with_reducible exact hS.1) | (with_reducible refine Cur.drew ?_) | (with_reducible refine Cur.alloc ?_ _) | (with_reducible refine Cur.setc ?_ (by first | omega | (simp; done) | (simp; omega)) _))), (by go_grown)⟩ hb
  (try clear hS)
  have hS := hT
  clear hT hb
  have hS2 := hS
  obtain ⟨hq0, hF⟩ := hS2
  have hgl : w.heap.size < w2.heap.size := hq0.lt
  have hzw : w.heap.size ≤ w2.heap.size := hF.size
  have hB := hF
  obtain ⟨N, hN⟩ : ∃ N, enc x y = N := ⟨_, rfl⟩
  have hNb := enc_bd (x := x) (y := y)
  rw [hN] at hNb ⊢
  clear hN
  go_wp2_with fail
  refine (pick_c (6) (by omega) (w.heap.size) (0 + 18) _ (hide (by repeat' (first | (with_reducible exact hS.1) | (with_reducible refine Cur.drew ?_) | (with_reducible refine Cur.alloc ?_ _) | (with_reducible refine Cur.setc ?_ (by first | omega | (simp; done) | (simp; omega)) _)))) (by omega)).mono ?_
  rintro e w3 ⟨_, rfl, ⟨p, rfl, p0, p1⟩, hcn, hgn⟩
  have hT : Cur w3 (w.heap.size) (0 + 20) ∧ Below w.heap.size w w3 := (fun W h hgn => ⟨hcn, below_gb (h.2) hgn (h.2).size (by first | omega | (simp; done) | (simp; omega))⟩ : ∀ W : World, (Cur W (w.heap.size) (0 + 18) ∧ Below w.heap.size w W) → W.grownBy w3 (some (w.heap.size)) → (Cur w3 (w.heap.size) (0 + 20) ∧ Below w.heap.size w w3)) _ ⟨(by repeat' (first | (with_reducible exact hS.1) | (with_reducible refine Cur.drew ?_) | (with_reducible refine Cur.alloc ?_ _) | (with_reducible refine Cur.setc ?_ (by first | omega | (simp; done) | (simp; omega)) _))), (by go_grown)⟩ hgn
  (try clear hS)
  have hS := hT
  clear hT hcn hgn
  have hS2 := hS
  obtain ⟨hq0, hF⟩ := hS2
  have hgl : w.heap.size < w3.heap.size := hq0.lt
  have hzw : w.heap.size ≤ w3.heap.size := hF.size
  have hB := hF
  by_cases hp0 : p = 0
  · subst hp0
    go_wp2_with fail
    refine (among_c (1) (3) [1, 2, 3] _ _ (w.heap.size) (0 + 20) _ (hide (by repeat' (first | (with_reducible exact hS.1) | (with_reducible refine Cur.drew ?_) | (with_reducible refine Cur.alloc ?_ _) | (with_reducible refine Cur.setc ?_ (by first | omega | (simp; done) | (simp; omega)) _)))) (by omega) (hide (lit_at (by rfl) (by simp))) (by intro e; (try dsimp only at e); omega) ⟨by decide, by decide⟩ (hide (by decide))).mono ?_
    rintro e w4 ⟨_, rfl, ⟨q, rfl, q0, q1⟩, hcn, hgn⟩
    have hT : Cur w4 (w.heap.size) (0 + 22) ∧ Below w.heap.size w w4 := (fun W h hgn => ⟨hcn, below_gb (h.2) hgn (h.2).size (by first | omega | (simp; done) | (simp; omega))⟩ : ∀ W : World, (Cur W (w.heap.size) (0 + 20) ∧ Below w.heap.size w W) → W.grownBy w4 (some (w.heap.size)) → (Cur w4 (w.heap.size) (0 + 22) ∧ Below w.heap.size w w4)) _ ⟨(by repeat' (first | (with_reducible exact hS.1) | (with_reducible refine Cur.drew ?_) | (with_reducible refine Cur.alloc ?_ _) | (with_reducible refine Cur.setc ?_ (by first | omega | (simp; done) | (simp; omega)) _))), (by go_grown)⟩ hgn
    (try clear hS)
    have hS := hT
    clear hT hcn hgn
    have hS2 := hS
    obtain ⟨hq0, hF⟩ := hS2
    have hgl : w.heap.size < w4.heap.size := hq0.lt
    have hzw : w.heap.size ≤ w4.heap.size := hF.size
    have hB := hF
    go_wp2
    go_returns
    exact ⟨_, rfl, by omega, by omega, by go_grown⟩
  have hp0b : (p == 0) = false := by simp [hp0]
  by_cases hp1 : p = 1
  · subst hp1
    clear hp0 hp0b
    go_wp2_with fail
    refine (among_c (-1) (16777216) [-1, 16777216, 16777215, 8388608, 4096] _ _ (w.heap.size) (0 + 20) _ (hide (by repeat' (first | (with_reducible exact hS.1) | (with_reducible refine Cur.drew ?_) | (with_reducible refine Cur.alloc ?_ _) | (with_reducible refine Cur.setc ?_ (by first | omega | (simp; done) | (simp; omega)) _)))) (by omega) (hide (lit_at (by rfl) (by simp))) (by intro e; (try dsimp only at e); omega) ⟨by decide, by decide⟩ (hide (by decide))).mono ?_
    rintro e w4 ⟨_, rfl, ⟨q, rfl, q0, q1⟩, hcn, hgn⟩
    have hT : Cur w4 (w.heap.size) (0 + 22) ∧ Below w.heap.size w w4 := (fun W h hgn => ⟨hcn, below_gb (h.2) hgn (h.2).size (by first | omega | (simp; done) | (simp; omega))⟩ : ∀ W : World, (Cur W (w.heap.size) (0 + 20) ∧ Below w.heap.size w W) → W.grownBy w4 (some (w.heap.size)) → (Cur w4 (w.heap.size) (0 + 22) ∧ Below w.heap.size w w4)) _ ⟨(by repeat' (first | (with_reducible exact hS.1) | (with_reducible refine Cur.drew ?_) | (with_reducible refine Cur.alloc ?_ _) | (with_reducible refine Cur.setc ?_ (by first | omega | (simp; done) | (simp; omega)) _))), (by go_grown)⟩ hgn
    (try clear hS)
    have hS := hT
    clear hT hcn hgn
    have hS2 := hS
    obtain ⟨hq0, hF⟩ := hS2
    have hgl : w.heap.size < w4.heap.size := hq0.lt
    have hzw : w.heap.size ≤ w4.heap.size := hF.size
    have hB := hF
    go_wp2
    go_returns
    exact ⟨_, rfl, by omega, by omega, by go_grown⟩
  have hp1b : (p == 1) = false := by simp [hp1]
  clear hp0 hp1
  go_wp2
  go_returns
  exact ⟨_, rfl, by omega, by omega, by go_grown⟩

theorem drawParV_c (A : Option Addr) (n c : Nat) (w : World) (h1 : Hid (CodeOk w A n)) (hn : n ≤ 65536)  : Calls Try.prog 43 #[.slice A n c] w (DrawsS 1001 w) := by
  go_enter Try.func43, Try.ntmps43
  go_wp2_with fail
  refine (velocity_c (w.heap.size) (0) _ (hide (cur_new (h1.out.below (by go_grown)) hn (by first | rfl | (simp; done)) 0)) (by omega)).mono ?_
  rintro e w1 ⟨_, rfl, ⟨x, y, rfl, x0, y1⟩, hcn, hgn⟩
  have hT : Cur w1 (w.heap.size) (0 + 18) ∧ Below w.heap.size w w1 := (fun W h hgn => ⟨hcn, below_gb (h.2) hgn (h.2).size (by first | omega | (simp; done) | (simp; omega))⟩ : ∀ W : World, (Cur W (w.heap.size) (0) ∧ Below w.heap.size w W) → W.grownBy w1 (some (w.heap.size)) → (Cur w1 (w.heap.size) (0 + 18) ∧ Below w.heap.size w w1)) _ ⟨(cur_new (h1.out.below (by go_grown)) hn (by first | rfl | (simp; done)) 0), (by go_grown)⟩ hgn
  (try clear hS)
  have hS := hT
  clear hT hcn hgn
  have hS2 := hS
  obtain ⟨hq0, hF⟩ := hS2
  have hgl : w.heap.size < w1.heap.size := hq0.lt
  have hzw : w.heap.size ≤ w1.heap.size := hF.size
  have hB := hF
  go_wp2_with fail
  refine (sVelocityText_c x y _).mono ?_
  rintro e w2 ⟨rfl, hb⟩
  have hT : Cur w2 (w.heap.size) (0 + 18) ∧ Below w.heap.size w w2 := (fun W h hb => ⟨h.1.below hb, below_via (h.2) hb⟩ : ∀ W : World, (Cur W (w.heap.size) (0 + 18) ∧ Below w.heap.size w W) → Below W.heap.size W w2 → (Cur w2 (w.heap.size) (0 + 18) ∧ Below w.heap.size w w2)) _ ⟨(by repeat' (first | (with_reducible exact hS.1) | (with_reducible refine Cur.drew ?_) | (with_reducible refine Cur.alloc ?_ _) | (with_reducible refine Cur.setc ?_ (by first | omega | (simp; done) | (simp; omega)) _))), (by go_grown)⟩ hb
  (try clear hS)
  have hS := hT
  clear hT hb
  have hS2 := hS
  obtain ⟨hq0, hF⟩ := hS2
  have hgl : w.heap.size < w2.heap.size := hq0.lt
  have hzw : w.heap.size ≤ w2.heap.size := hF.size
  have hB := hF
  obtain ⟨s, hs⟩ : ∃ s, vtS x y = s := ⟨_, rfl⟩
  have hsz := vtS_size x y
  rw [hs] at hsz ⊢
  clear hs
  go_wp2_with fail
  refine (one_c (3) (by omega) (w.heap.size) (0 + 18) _ (hide (by repeat' (first | (with_reducible exact hS.1) | (with_reducible refine Cur.drew ?_) | (with_reducible refine Cur.alloc ?_ _) | (with_reducible refine Cur.setc ?_ (by first | omega | (simp; done) | (simp; omega)) _)))) (by omega)).mono ?_
  rintro e w3 ⟨_, rfl, ⟨o, rfl⟩, hcn, hgn⟩
  have hT : Cur w3 (w.heap.size) (0 + 20) ∧ Below w.heap.size w w3 := (fun W h hgn => ⟨hcn, below_gb (h.2) hgn (h.2).size (by first | omega | (simp; done) | (simp; omega))⟩ : ∀ W : World, (Cur W (w.heap.size) (0 + 18) ∧ Below w.heap.size w W) → W.grownBy w3 (some (w.heap.size)) → (Cur w3 (w.heap.size) (0 + 20) ∧ Below w.heap.size w w3)) _ ⟨(by repeat' (first | (with_reducible exact hS.1) | (with_reducible refine Cur.drew ?_) | (with_reducible refine Cur.alloc ?_ _) | (with_reducible refine Cur.setc ?_ (by first | omega | (simp; done) | (simp; omega)) _))), (by go_grown)⟩ hgn
  (try clear hS)
  have hS := hT
  clear hT hcn hgn
  have hS2 := hS
  obtain ⟨hq0, hF⟩ := hS2
  have hgl : w.heap.size < w3.heap.size := hq0.lt
  have hzw : w.heap.size ≤ w3.heap.size := hF.size
  have hB := hF
  rcases o with _ | _
  · go_wp2
    go_returns
    exact ⟨_, rfl, by omega, by go_grown⟩
  by_cases hs0 : s.size = 0
  · go_wp2_with fail
    refine (spoilt_e s ⟨#[78, 69, 32, 48, 83, 87]⟩ hs0 ⟨by decide, by decide⟩ (w.heap.size) (0 + 20) _ (hide (by repeat' (first | (with_reducible exact hS.1) | (with_reducible refine Cur.drew ?_) | (with_reducible refine Cur.alloc ?_ _) | (with_reducible refine Cur.setc ?_ (by first | omega | (simp; done) | (simp; omega)) _)))) (by omega)).mono ?_
    rintro e w4 ⟨_, rfl, ⟨z, rfl, hz⟩, hcn, hgn⟩
    have hT : Cur w4 (w.heap.size) (0 + 26) ∧ Below w.heap.size w w4 := (fun W h hgn => ⟨hcn, below_gb (h.2) hgn (h.2).size (by first | omega | (simp; done) | (simp; omega))⟩ : ∀ W : World, (Cur W (w.heap.size) (0 + 20) ∧ Below w.heap.size w W) → W.grownBy w4 (some (w.heap.size)) → (Cur w4 (w.heap.size) (0 + 26) ∧ Below w.heap.size w w4)) _ ⟨(by repeat' (first | (with_reducible exact hS.1) | (with_reducible refine Cur.drew ?_) | (with_reducible refine Cur.alloc ?_ _) | (with_reducible refine Cur.setc ?_ (by first | omega | (simp; done) | (simp; omega)) _))), (by go_grown)⟩ hgn
    (try clear hS)
    have hS := hT
    clear hT hcn hgn
    have hS2 := hS
    obtain ⟨hq0, hF⟩ := hS2
    have hgl : w.heap.size < w4.heap.size := hq0.lt
    have hzw : w.heap.size ≤ w4.heap.size := hF.size
    have hB := hF
    go_wp2
    go_returns
    exact ⟨_, rfl, by omega, by go_grown⟩
  go_wp2_with fail
  refine (spoilt_c s ⟨#[78, 69, 32, 48, 83, 87]⟩ ⟨by omega, by omega⟩ ⟨by decide, by decide⟩ (w.heap.size) (0 + 20) _ (hide (by repeat' (first | (with_reducible exact hS.1) | (with_reducible refine Cur.drew ?_) | (with_reducible refine Cur.alloc ?_ _) | (with_reducible refine Cur.setc ?_ (by first | omega | (simp; done) | (simp; omega)) _)))) (by omega)).mono ?_
  rintro e w4 ⟨_, rfl, ⟨z, rfl, hz⟩, hcn, hgn⟩
  have hT : Cur w4 (w.heap.size) (0 + 26) ∧ Below w.heap.size w w4 := (fun W h hgn => ⟨hcn, below_gb (h.2) hgn (h.2).size (by first | omega | (simp; done) | (simp; omega))⟩ : ∀ W : World, (Cur W (w.heap.size) (0 + 20) ∧ Below w.heap.size w W) → W.grownBy w4 (some (w.heap.size)) → (Cur w4 (w.heap.size) (0 + 26) ∧ Below w.heap.size w w4)) _ ⟨(by repeat' (first | (with_reducible exact hS.1) | (with_reducible refine Cur.drew ?_) | (with_reducible refine Cur.alloc ?_ _) | (with_reducible refine Cur.setc ?_ (by first | omega | (simp; done) | (simp; omega)) _))), (by go_grown)⟩ hgn
  (try clear hS)
  have hS := hT
  clear hT hcn hgn
  have hS2 := hS
  obtain ⟨hq0, hF⟩ := hS2
  have hgl : w.heap.size < w4.heap.size := hq0.lt
  have hzw : w.heap.size ≤ w4.heap.size := hF.size
  have hB := hF
  go_wp2
  go_returns
  exact ⟨_, rfl, by omega, by go_grown⟩
end Go.Proofs.Ytpcabjjmphcpeaa
