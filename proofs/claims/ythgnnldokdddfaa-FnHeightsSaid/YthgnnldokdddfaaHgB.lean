/- Contracts: heights that are drawn for a law. -/
import Derived.Test.YthgnnldokdddfaaCurI
import Derived.Test.YthgnnldokdddfaaHgA
import Derived.Test.YthgnnldokdddfaaPhMath
namespace Go.Proofs.Ythgnnldokdddfaa
open Go.RowKit

def DrawsI (lo hi : Int) (w : World) (e : Ending) (w' : World) : Prop := ∃ x : Int, e = .returned (.int .i64 x) ∧ lo ≤ x ∧ x ≤ hi ∧ Below w.heap.size w w'
def DrawsIB (lo hi : Int) (w : World) (e : Ending) (w' : World) : Prop := ∃ (x : Int) (b : Bool), e = .returned (.tuple #[.int .i64 x, .bool b]) ∧ lo ≤ x ∧ x ≤ hi ∧ Below w.heap.size w w'
def DrawsII (w : World) (e : Ending) (w' : World) : Prop := ∃ (x y : Int), e = .returned (.tuple #[.int .i64 x, .int .i64 y]) ∧ Below w.heap.size w w'
def DrawsI4 (w : World) (e : Ending) (w' : World) : Prop := ∃ (a f b t : Int), e = .returned (.tuple #[.int .i64 a, .int .i64 f, .int .i64 b, .int .i64 t]) ∧ (-2001 ≤ a ∧ a ≤ 130001) ∧ (-1 ≤ f ∧ f ≤ 86400) ∧ (-2001 ≤ b ∧ b ≤ 130001) ∧ (-1 ≤ t ∧ t ≤ 172800) ∧ Below w.heap.size w w'
def DrawsS (m : Nat) (w : World) (e : Ending) (w' : World) : Prop := ∃ s : ByteArray, e = .returned (.string s) ∧ s.size ≤ m ∧ Below w.heap.size w w'

theorem hT_size {h : Int} (h0 : -300000 ≤ h) (h1 : h ≤ 300000) : 1 ≤ (hT h).size ∧ (hT h).size ≤ 12 := by
  unfold hT
  split
  · have h9 : (txtS (h / 100)).size = (txtL (h / 100)).length := by rw [txtS_str, str_size]
    have h8 := txtL_len (n := h / 100) (by omega) (by omega)
    rw [ByteArray.size_append, size2, h9]; omega
  · have h9 : (txtS h).size = (txtL h).length := by rw [txtS_str, str_size]
    have h8 := txtL_len (n := h) (by omega) (by omega)
    rw [ByteArray.size_append, size3, h9]; omega

theorem l6TextW_c (h : Int) (h0 : -300000 ≤ h) (h1 : h ≤ 300000) (w : World) : Calls Try.prog 42 #[.int .i64 h] w (Gives w (.string (hT h))) := by
  by_cases g : h ≥ 10000
  · by_cases g2 : h % 100 = 0
    · have hadd : ∀ W : World, (Op.stringOp .add ⟨#[70, 76]⟩ (txtS (h / 100))).run Try.prog W = .ok (.string (hT h)) W := fun W => by
        have h9 := txtS_size (n := h / 100) (by omega) (by omega)
        rw [run_string_add_sum W _ _ (by rw [size2]; omega)]; unfold hT; rw [if_pos ⟨g, g2⟩]
      have q1 : h.tmod 100 = h % 100 := Int.tmod_eq_emod_of_nonneg (by omega)
      have q2 : h.tdiv 100 = h / 100 := Int.tdiv_eq_ediv_of_nonneg (by omega)
      go_enter Try.func42, Try.ntmps42
      go_wp2_with (first | (go_at_call 68; refine (l1NumAny_c _ (by omega) (by omega) _).mono ?_; rintro e w1 ⟨rfl, hb⟩; have hT : Below w.heap.size w w1 := keep0 (by first | assumption | go_grown) hb; (try clear hS); have hS := hT; clear hT; have hB := hS; have hzw := hB.size; clear hb))
      go_returns
      exact ⟨ret_eq (by simp), by go_grown⟩
    have hadd : ∀ W : World, (Op.stringOp .add (txtS h) ⟨#[32, 102, 116]⟩).run Try.prog W = .ok (.string (hT h)) W := fun W => by
      have h9 := txtS_size (n := h) (by omega) (by omega)
      rw [run_string_add_sum W _ _ (by rw [size3]; omega)]; unfold hT; rw [if_neg (fun e => g2 e.2)]
    have q1 : h.tmod 100 = h % 100 := Int.tmod_eq_emod_of_nonneg (by omega)
    go_enter Try.func42, Try.ntmps42
    go_wp2_with (first | (go_at_call 68; refine (l1NumAny_c _ (by omega) (by omega) _).mono ?_; rintro e w1 ⟨rfl, hb⟩; have hT : Below w.heap.size w w1 := keep0 (by first | assumption | go_grown) hb; (try clear hS); have hS := hT; clear hT; have hB := hS; have hzw := hB.size; clear hb))
    go_returns
    exact ⟨ret_eq (by simp), by go_grown⟩
  have hadd : ∀ W : World, (Op.stringOp .add (txtS h) ⟨#[32, 102, 116]⟩).run Try.prog W = .ok (.string (hT h)) W := fun W => by
    have h9 := txtS_size (n := h) (by omega) (by omega)
    rw [run_string_add_sum W _ _ (by rw [size3]; omega)]; unfold hT; rw [if_neg (fun e => g e.1)]
  go_enter Try.func42, Try.ntmps42
  go_wp2_with (first | (go_at_call 68; refine (l1NumAny_c _ (by omega) (by omega) _).mono ?_; rintro e w1 ⟨rfl, hb⟩; have hT : Below w.heap.size w w1 := keep0 (by first | assumption | go_grown) hb; (try clear hS); have hS := hT; clear hT; have hB := hS; have hzw := hB.size; clear hb))
  go_returns
  exact ⟨ret_eq (by simp), by go_grown⟩

theorem drawGray_c (A : Option Addr) (n c : Nat) (w : World) (h1 : Hid (CodeOk w A n)) (hn : n ≤ 65536)  : Calls Try.prog 28 #[.slice A n c] w (DrawsI (-1) 2048 w) := by
  go_enter Try.func28, Try.ntmps28
  go_wp2_with fail
  refine (pick_c (2048) (by omega) (w.heap.size) (0) _ (hide (cur_new (h1.out.below (by go_grown)) hn (by first | rfl | (simp; done)) 0)) (by omega)).mono ?_
  rintro e w1 ⟨_, rfl, ⟨q, rfl, q0, q1⟩, hcn, hgn⟩
  have hT : Cur w1 (w.heap.size) (0 + 2) ∧ Below w.heap.size w w1 := (fun W h hgn => ⟨hcn, below_gb (h.2) hgn (h.2).size (by first | omega | (simp; done) | (simp; omega))⟩ : ∀ W : World, (Cur W (w.heap.size) (0) ∧ Below w.heap.size w W) → W.grownBy w1 (some (w.heap.size)) → (Cur w1 (w.heap.size) (0 + 2) ∧ Below w.heap.size w w1)) _ ⟨(cur_new (h1.out.below (by go_grown)) hn (by first | rfl | (simp; done)) 0), (by go_grown)⟩ hgn
  (try clear hS)
  have hS := hT
  clear hT hcn hgn
  have hS2 := hS
  obtain ⟨hq0, hF⟩ := hS2
  have hgl : w.heap.size < w1.heap.size := hq0.lt
  have hzw : w.heap.size ≤ w1.heap.size := hF.size
  have hB := hF
  have hq : q ≤ 2047 := by omega
  go_wp2_with fail
  refine (among_c (-1) (2048) [0, 1, 2, 3, 4, 7, 8, 1023, 1024, 1279, 2047, -1, 2048, q] _ _ (w.heap.size) (0 + 2) _ (hide (by repeat' (first | (with_reducible exact hS.1) | (with_reducible refine Cur.drew ?_) | (with_reducible refine Cur.alloc ?_ _) | (with_reducible refine Cur.setc ?_ (by first | omega | (simp; done) | (simp; omega)) _)))) (by omega) (hide (lit_at (by rfl) (by simp))) (by intro e; (try dsimp only at e); omega) ⟨by show 0 < 14; omega, by show 14 ≤ 1000; omega⟩ (hide (by intro z hz; simp only [List.mem_cons, List.not_mem_nil, or_false] at hz; omega))).mono ?_
  rintro e w2 ⟨_, rfl, ⟨x, rfl, x0, x1⟩, hcn, hgn⟩
  have hT : Cur w2 (w.heap.size) (0 + 4) ∧ Below w.heap.size w w2 := (fun W h hgn => ⟨hcn, below_gb (h.2) hgn (h.2).size (by first | omega | (simp; done) | (simp; omega))⟩ : ∀ W : World, (Cur W (w.heap.size) (0 + 2) ∧ Below w.heap.size w W) → W.grownBy w2 (some (w.heap.size)) → (Cur w2 (w.heap.size) (0 + 4) ∧ Below w.heap.size w w2)) _ ⟨(by repeat' (first | (with_reducible exact hS.1) | (with_reducible refine Cur.drew ?_) | (with_reducible refine Cur.alloc ?_ _) | (with_reducible refine Cur.setc ?_ (by first | omega | (simp; done) | (simp; omega)) _))), (by go_grown)⟩ hgn
  (try clear hS)
  have hS := hT
  clear hT hcn hgn
  have hS2 := hS
  obtain ⟨hq0, hF⟩ := hS2
  have hgl : w.heap.size < w2.heap.size := hq0.lt
  have hzw : w.heap.size ≤ w2.heap.size := hF.size
  have hB := hF
  go_wp2
  go_returns
  exact ⟨_, rfl, x0, x1, by go_grown⟩

theorem drawDec_c (A : Option Addr) (n c : Nat) (w : World) (h1 : Hid (CodeOk w A n)) (hn : n ≤ 65536)  : Calls Try.prog 26 #[.slice A n c] w (DrawsI (-1) 4096 w) := by
  go_enter Try.func26, Try.ntmps26
  go_wp2_with fail
  refine (pick_c (2048) (by omega) (w.heap.size) (0) _ (hide (cur_new (h1.out.below (by go_grown)) hn (by first | rfl | (simp; done)) 0)) (by omega)).mono ?_
  rintro e w1 ⟨_, rfl, ⟨q, rfl, q0, q1⟩, hcn, hgn⟩
  have hT : Cur w1 (w.heap.size) (0 + 2) ∧ Below w.heap.size w w1 := (fun W h hgn => ⟨hcn, below_gb (h.2) hgn (h.2).size (by first | omega | (simp; done) | (simp; omega))⟩ : ∀ W : World, (Cur W (w.heap.size) (0) ∧ Below w.heap.size w W) → W.grownBy w1 (some (w.heap.size)) → (Cur w1 (w.heap.size) (0 + 2) ∧ Below w.heap.size w w1)) _ ⟨(cur_new (h1.out.below (by go_grown)) hn (by first | rfl | (simp; done)) 0), (by go_grown)⟩ hgn
  (try clear hS)
  have hS := hT
  clear hT hcn hgn
  have hS2 := hS
  obtain ⟨hq0, hF⟩ := hS2
  have hgl : w.heap.size < w1.heap.size := hq0.lt
  have hzw : w.heap.size ≤ w1.heap.size := hF.size
  have hB := hF
  go_wp2_with fail
  refine (pick_c (2048) (by omega) (w.heap.size) (0 + 2) _ (hide (by repeat' (first | (with_reducible exact hS.1) | (with_reducible refine Cur.drew ?_) | (with_reducible refine Cur.alloc ?_ _) | (with_reducible refine Cur.setc ?_ (by first | omega | (simp; done) | (simp; omega)) _)))) (by omega)).mono ?_
  rintro e w2 ⟨_, rfl, ⟨r, rfl, r0, r1⟩, hcn, hgn⟩
  have hT : Cur w2 (w.heap.size) (0 + 4) ∧ Below w.heap.size w w2 := (fun W h hgn => ⟨hcn, below_gb (h.2) hgn (h.2).size (by first | omega | (simp; done) | (simp; omega))⟩ : ∀ W : World, (Cur W (w.heap.size) (0 + 2) ∧ Below w.heap.size w W) → W.grownBy w2 (some (w.heap.size)) → (Cur w2 (w.heap.size) (0 + 4) ∧ Below w.heap.size w w2)) _ ⟨(by repeat' (first | (with_reducible exact hS.1) | (with_reducible refine Cur.drew ?_) | (with_reducible refine Cur.alloc ?_ _) | (with_reducible refine Cur.setc ?_ (by first | omega | (simp; done) | (simp; omega)) _))), (by go_grown)⟩ hgn
  (try clear hS)
  have hS := hT
  clear hT hcn hgn
  have hS2 := hS
  obtain ⟨hq0, hF⟩ := hS2
  have hgl : w.heap.size < w2.heap.size := hq0.lt
  have hzw : w.heap.size ≤ w2.heap.size := hF.size
  have hB := hF
  have hq : q ≤ 2047 := by omega
  have hr : r ≤ 2047 := by omega
  go_wp2_with fail
  refine (among_c (-1) (4096) [0, 1, 2047, 2048, 4095, 4096, -1, 1920, 1921, 1600, q, 2048 + r] _ _ (w.heap.size) (0 + 4) _ (hide (by repeat' (first | (with_reducible exact hS.1) | (with_reducible refine Cur.drew ?_) | (with_reducible refine Cur.alloc ?_ _) | (with_reducible refine Cur.setc ?_ (by first | omega | (simp; done) | (simp; omega)) _)))) (by omega) (hide (lit_at (by rfl) (by simp))) (by intro e; (try dsimp only at e); omega) ⟨by show 0 < 12; omega, by show 12 ≤ 1000; omega⟩ (hide (by intro z hz; simp only [List.mem_cons, List.not_mem_nil, or_false] at hz; omega))).mono ?_
  rintro e w3 ⟨_, rfl, ⟨x, rfl, x0, x1⟩, hcn, hgn⟩
  have hT : Cur w3 (w.heap.size) (0 + 6) ∧ Below w.heap.size w w3 := (fun W h hgn => ⟨hcn, below_gb (h.2) hgn (h.2).size (by first | omega | (simp; done) | (simp; omega))⟩ : ∀ W : World, (Cur W (w.heap.size) (0 + 4) ∧ Below w.heap.size w W) → W.grownBy w3 (some (w.heap.size)) → (Cur w3 (w.heap.size) (0 + 6) ∧ Below w.heap.size w w3)) _ ⟨(by repeat' (first | (with_reducible exact hS.1) | (with_reducible refine Cur.drew ?_) | (with_reducible refine Cur.alloc ?_ _) | (with_reducible refine Cur.setc ?_ (by first | omega | (simp; done) | (simp; omega)) _))), (by go_grown)⟩ hgn
  (try clear hS)
  have hS := hT
  clear hT hcn hgn
  have hS2 := hS
  obtain ⟨hq0, hF⟩ := hS2
  have hgl : w.heap.size < w3.heap.size := hq0.lt
  have hzw : w.heap.size ≤ w3.heap.size := hF.size
  have hB := hF
  go_wp2
  go_returns
  exact ⟨_, rfl, x0, x1, by go_grown⟩

theorem drawEnc_c (A : Option Addr) (n c : Nat) (w : World) (h1 : Hid (CodeOk w A n)) (hn : n ≤ 65536)  : Calls Try.prog 21 #[.slice A n c] w (DrawsIB (-3000) 140000 w) := by
  go_enter Try.func21, Try.ntmps21
  go_wp2_with fail
  refine (height_c (w.heap.size) (0) _ (hide (cur_new (h1.out.below (by go_grown)) hn (by first | rfl | (simp; done)) 0)) (by omega)).mono ?_
  rintro e w1 ⟨_, rfl, ⟨x, rfl, x0, x1⟩, hcn, hgn⟩
  have hT : Cur w1 (w.heap.size) (0 + 4) ∧ Below w.heap.size w w1 := (fun W h hgn => ⟨hcn, below_gb (h.2) hgn (h.2).size (by first | omega | (simp; done) | (simp; omega))⟩ : ∀ W : World, (Cur W (w.heap.size) (0) ∧ Below w.heap.size w W) → W.grownBy w1 (some (w.heap.size)) → (Cur w1 (w.heap.size) (0 + 4) ∧ Below w.heap.size w w1)) _ ⟨(cur_new (h1.out.below (by go_grown)) hn (by first | rfl | (simp; done)) 0), (by go_grown)⟩ hgn
  (try clear hS)
  have hS := hT
  clear hT hcn hgn
  have hS2 := hS
  obtain ⟨hq0, hF⟩ := hS2
  have hgl : w.heap.size < w1.heap.size := hq0.lt
  have hzw : w.heap.size ≤ w1.heap.size := hF.size
  have hB := hF
  go_wp2_with fail
  refine (one_c (2) (by omega) (w.heap.size) (0 + 4) _ (hide (by repeat' (first | (with_reducible exact hS.1) | (with_reducible refine Cur.drew ?_) | (with_reducible refine Cur.alloc ?_ _) | (with_reducible refine Cur.setc ?_ (by first | omega | (simp; done) | (simp; omega)) _)))) (by omega)).mono ?_
  rintro e w2 ⟨_, rfl, ⟨b, rfl⟩, hcn, hgn⟩
  have hT : Cur w2 (w.heap.size) (0 + 6) ∧ Below w.heap.size w w2 := (fun W h hgn => ⟨hcn, below_gb (h.2) hgn (h.2).size (by first | omega | (simp; done) | (simp; omega))⟩ : ∀ W : World, (Cur W (w.heap.size) (0 + 4) ∧ Below w.heap.size w W) → W.grownBy w2 (some (w.heap.size)) → (Cur w2 (w.heap.size) (0 + 6) ∧ Below w.heap.size w w2)) _ ⟨(by repeat' (first | (with_reducible exact hS.1) | (with_reducible refine Cur.drew ?_) | (with_reducible refine Cur.alloc ?_ _) | (with_reducible refine Cur.setc ?_ (by first | omega | (simp; done) | (simp; omega)) _))), (by go_grown)⟩ hgn
  (try clear hS)
  have hS := hT
  clear hT hcn hgn
  have hS2 := hS
  obtain ⟨hq0, hF⟩ := hS2
  have hgl : w.heap.size < w2.heap.size := hq0.lt
  have hzw : w.heap.size ≤ w2.heap.size := hF.size
  have hB := hF
  go_wp2
  go_returns
  exact ⟨_, _, rfl, by omega, by omega, by go_grown⟩

theorem drawNear_c (A : Option Addr) (n c : Nat) (w : World) (h1 : Hid (CodeOk w A n)) (hn : n ≤ 65536)  : Calls Try.prog 35 #[.slice A n c] w (DrawsIB (-3000) 140000 w) := by
  go_enter Try.func35, Try.ntmps35
  go_wp2_with fail
  refine (height_c (w.heap.size) (0) _ (hide (cur_new (h1.out.below (by go_grown)) hn (by first | rfl | (simp; done)) 0)) (by omega)).mono ?_
  rintro e w1 ⟨_, rfl, ⟨y, rfl, y0, y1⟩, hcn, hgn⟩
  have hT : Cur w1 (w.heap.size) (0 + 4) ∧ Below w.heap.size w w1 := (fun W h hgn => ⟨hcn, below_gb (h.2) hgn (h.2).size (by first | omega | (simp; done) | (simp; omega))⟩ : ∀ W : World, (Cur W (w.heap.size) (0) ∧ Below w.heap.size w W) → W.grownBy w1 (some (w.heap.size)) → (Cur w1 (w.heap.size) (0 + 4) ∧ Below w.heap.size w w1)) _ ⟨(cur_new (h1.out.below (by go_grown)) hn (by first | rfl | (simp; done)) 0), (by go_grown)⟩ hgn
  (try clear hS)
  have hS := hT
  clear hT hcn hgn
  have hS2 := hS
  obtain ⟨hq0, hF⟩ := hS2
  have hgl : w.heap.size < w1.heap.size := hq0.lt
  have hzw : w.heap.size ≤ w1.heap.size := hF.size
  have hB := hF
  go_wp2_with fail
  refine (among_c (-1) (51) [0, 1, 12, 13, 49, 50, 51, -1] _ _ (w.heap.size) (0 + 4) _ (hide (by repeat' (first | (with_reducible exact hS.1) | (with_reducible refine Cur.drew ?_) | (with_reducible refine Cur.alloc ?_ _) | (with_reducible refine Cur.setc ?_ (by first | omega | (simp; done) | (simp; omega)) _)))) (by omega) (hide (lit_at (by rfl) (by simp))) (by intro e; (try dsimp only at e); omega) ⟨by decide, by decide⟩ (hide (by decide))).mono ?_
  rintro e w2 ⟨_, rfl, ⟨z, rfl, z0, z1⟩, hcn, hgn⟩
  have hT : Cur w2 (w.heap.size) (0 + 6) ∧ Below w.heap.size w w2 := (fun W h hgn => ⟨hcn, below_gb (h.2) hgn (h.2).size (by first | omega | (simp; done) | (simp; omega))⟩ : ∀ W : World, (Cur W (w.heap.size) (0 + 4) ∧ Below w.heap.size w W) → W.grownBy w2 (some (w.heap.size)) → (Cur w2 (w.heap.size) (0 + 6) ∧ Below w.heap.size w w2)) _ ⟨(by repeat' (first | (with_reducible exact hS.1) | (with_reducible refine Cur.drew ?_) | (with_reducible refine Cur.alloc ?_ _) | (with_reducible refine Cur.setc ?_ (by first | omega | (simp; done) | (simp; omega)) _))), (by go_grown)⟩ hgn
  (try clear hS)
  have hS := hT
  clear hT hcn hgn
  have hS2 := hS
  obtain ⟨hq0, hF⟩ := hS2
  have hgl : w.heap.size < w2.heap.size := hq0.lt
  have hzw : w.heap.size ≤ w2.heap.size := hF.size
  have hB := hF
  go_wp2_with fail
  refine (one_c (2) (by omega) (w.heap.size) (0 + 6) _ (hide (by repeat' (first | (with_reducible exact hS.1) | (with_reducible refine Cur.drew ?_) | (with_reducible refine Cur.alloc ?_ _) | (with_reducible refine Cur.setc ?_ (by first | omega | (simp; done) | (simp; omega)) _)))) (by omega)).mono ?_
  rintro e w3 ⟨_, rfl, ⟨b, rfl⟩, hcn, hgn⟩
  have hT : Cur w3 (w.heap.size) (0 + 8) ∧ Below w.heap.size w w3 := (fun W h hgn => ⟨hcn, below_gb (h.2) hgn (h.2).size (by first | omega | (simp; done) | (simp; omega))⟩ : ∀ W : World, (Cur W (w.heap.size) (0 + 6) ∧ Below w.heap.size w W) → W.grownBy w3 (some (w.heap.size)) → (Cur w3 (w.heap.size) (0 + 8) ∧ Below w.heap.size w w3)) _ ⟨(by repeat' (first | (with_reducible exact hS.1) | (with_reducible refine Cur.drew ?_) | (with_reducible refine Cur.alloc ?_ _) | (with_reducible refine Cur.setc ?_ (by first | omega | (simp; done) | (simp; omega)) _))), (by go_grown)⟩ hgn
  (try clear hS)
  have hS := hT
  clear hT hcn hgn
  have hS2 := hS
  obtain ⟨hq0, hF⟩ := hS2
  have hgl : w.heap.size < w3.heap.size := hq0.lt
  have hzw : w.heap.size ≤ w3.heap.size := hF.size
  have hB := hF
  go_wp2
  go_returns
  exact ⟨_, _, rfl, by omega, by omega, by go_grown⟩

theorem drawHT_c (A : Option Addr) (n c : Nat) (w : World) (h1 : Hid (CodeOk w A n)) (hn : n ≤ 65536)  : Calls Try.prog 33 #[.slice A n c] w (DrawsI (-3000) 140000 w) := by
  go_enter Try.func33, Try.ntmps33
  go_wp2_with fail
  refine (height_c (w.heap.size) (0) _ (hide (cur_new (h1.out.below (by go_grown)) hn (by first | rfl | (simp; done)) 0)) (by omega)).mono ?_
  rintro e w1 ⟨_, rfl, ⟨x, rfl, x0, x1⟩, hcn, hgn⟩
  have hT : Cur w1 (w.heap.size) (0 + 4) ∧ Below w.heap.size w w1 := (fun W h hgn => ⟨hcn, below_gb (h.2) hgn (h.2).size (by first | omega | (simp; done) | (simp; omega))⟩ : ∀ W : World, (Cur W (w.heap.size) (0) ∧ Below w.heap.size w W) → W.grownBy w1 (some (w.heap.size)) → (Cur w1 (w.heap.size) (0 + 4) ∧ Below w.heap.size w w1)) _ ⟨(cur_new (h1.out.below (by go_grown)) hn (by first | rfl | (simp; done)) 0), (by go_grown)⟩ hgn
  (try clear hS)
  have hS := hT
  clear hT hcn hgn
  have hS2 := hS
  obtain ⟨hq0, hF⟩ := hS2
  have hgl : w.heap.size < w1.heap.size := hq0.lt
  have hzw : w.heap.size ≤ w1.heap.size := hF.size
  have hB := hF
  go_wp2
  go_returns
  exact ⟨_, rfl, by omega, by omega, by go_grown⟩

theorem drawCB_c (A : Option Addr) (n c : Nat) (w : World) (h1 : Hid (CodeOk w A n)) (hn : n ≤ 65536)  : Calls Try.prog 32 #[.slice A n c] w (DrawsII w) := by
  go_enter Try.func32, Try.ntmps32
  go_wp2_with fail
  refine (drawDec_c A n c _ (hide (h1.out.below (by go_grown))) hn).mono ?_
  rintro e w1 ⟨x, rfl, x0, x1, hb⟩
  have hT : Cur w1 w.heap.size (0) ∧ Below w.heap.size w w1 := ⟨Cur.below (cur_new (h1.out.below (by go_grown)) hn (by first | rfl | (simp; done)) 0) hb, below_via (by go_grown) hb⟩
  clear hb
  have hS := hT
  clear hT
  have hS2 := hS
  obtain ⟨hq0, hF⟩ := hS2
  have hgl : w.heap.size < w1.heap.size := hq0.lt
  have hzw : w.heap.size ≤ w1.heap.size := hF.size
  have hB := hF
  go_wp2_with fail
  refine (one_c (2) (by omega) (w.heap.size) (0) _ (hide (by repeat' (first | (with_reducible exact hS.1) | (with_reducible refine Cur.drew ?_) | (with_reducible refine Cur.alloc ?_ _) | (with_reducible refine Cur.setc ?_ (by first | omega | (simp; done) | (simp; omega)) _)))) (by omega)).mono ?_
  rintro e w2 ⟨_, rfl, ⟨o, rfl⟩, hcn, hgn⟩
  have hT : Cur w2 (w.heap.size) (0 + 2) ∧ Below w.heap.size w w2 := (fun W h hgn => ⟨hcn, below_gb (h.2) hgn (h.2).size (by first | omega | (simp; done) | (simp; omega))⟩ : ∀ W : World, (Cur W (w.heap.size) (0) ∧ Below w.heap.size w W) → W.grownBy w2 (some (w.heap.size)) → (Cur w2 (w.heap.size) (0 + 2) ∧ Below w.heap.size w w2)) _ ⟨(by repeat' (first | (with_reducible exact hS.1) | (with_reducible refine Cur.drew ?_) | (with_reducible refine Cur.alloc ?_ _) | (with_reducible refine Cur.setc ?_ (by first | omega | (simp; done) | (simp; omega)) _))), (by go_grown)⟩ hgn
  (try clear hS)
  have hS := hT
  clear hT hcn hgn
  have hS2 := hS
  obtain ⟨hq0, hF⟩ := hS2
  have hgl : w.heap.size < w2.heap.size := hq0.lt
  have hzw : w.heap.size ≤ w2.heap.size := hF.size
  have hB := hF
  rcases o with _ | _
  · go_wp2_with fail
    refine (among_c (-1) (4096) [0, 2048, 4095, 3, 4096, -1] _ _ (w.heap.size) (0 + 2) _ (hide (by repeat' (first | (with_reducible exact hS.1) | (with_reducible refine Cur.drew ?_) | (with_reducible refine Cur.alloc ?_ _) | (with_reducible refine Cur.setc ?_ (by first | omega | (simp; done) | (simp; omega)) _)))) (by omega) (hide (lit_at (by rfl) (by simp))) (by intro e; (try dsimp only at e); omega) ⟨by decide, by decide⟩ (hide (by decide))).mono ?_
    rintro e w3 ⟨_, rfl, ⟨y, rfl, y0, y1⟩, hcn, hgn⟩
    have hT : Cur w3 (w.heap.size) (0 + 4) ∧ Below w.heap.size w w3 := (fun W h hgn => ⟨hcn, below_gb (h.2) hgn (h.2).size (by first | omega | (simp; done) | (simp; omega))⟩ : ∀ W : World, (Cur W (w.heap.size) (0 + 2) ∧ Below w.heap.size w W) → W.grownBy w3 (some (w.heap.size)) → (Cur w3 (w.heap.size) (0 + 4) ∧ Below w.heap.size w w3)) _ ⟨(by repeat' (first | (with_reducible exact hS.1) | (with_reducible refine Cur.drew ?_) | (with_reducible refine Cur.alloc ?_ _) | (with_reducible refine Cur.setc ?_ (by first | omega | (simp; done) | (simp; omega)) _))), (by go_grown)⟩ hgn
    (try clear hS)
    have hS := hT
    clear hT hcn hgn
    have hS2 := hS
    obtain ⟨hq0, hF⟩ := hS2
    have hgl : w.heap.size < w3.heap.size := hq0.lt
    have hzw : w.heap.size ≤ w3.heap.size := hF.size
    have hB := hF
    go_wp2
    go_returns
    exact ⟨_, _, rfl, by go_grown⟩
  go_wp2_with fail
  refine (l1In_c _ _ _ _).mono ?_
  rintro e wz ⟨rfl, rfl⟩
  rcases hw : wi x 0 2047 with _ | _
  · go_wp2_with fail
    refine (among_c (-1) (4096) [0, 2048, 4095, 3, 4096, -1] _ _ (w.heap.size) (0 + 2) _ (hide (by repeat' (first | (with_reducible exact hS.1) | (with_reducible refine Cur.drew ?_) | (with_reducible refine Cur.alloc ?_ _) | (with_reducible refine Cur.setc ?_ (by first | omega | (simp; done) | (simp; omega)) _)))) (by omega) (hide (lit_at (by rfl) (by simp))) (by intro e; (try dsimp only at e); omega) ⟨by decide, by decide⟩ (hide (by decide))).mono ?_
    rintro e w3 ⟨_, rfl, ⟨y, rfl, y0, y1⟩, hcn, hgn⟩
    have hT : Cur w3 (w.heap.size) (0 + 4) ∧ Below w.heap.size w w3 := (fun W h hgn => ⟨hcn, below_gb (h.2) hgn (h.2).size (by first | omega | (simp; done) | (simp; omega))⟩ : ∀ W : World, (Cur W (w.heap.size) (0 + 2) ∧ Below w.heap.size w W) → W.grownBy w3 (some (w.heap.size)) → (Cur w3 (w.heap.size) (0 + 4) ∧ Below w.heap.size w w3)) _ ⟨(by repeat' (first | (with_reducible exact hS.1) | (with_reducible refine Cur.drew ?_) | (with_reducible refine Cur.alloc ?_ _) | (with_reducible refine Cur.setc ?_ (by first | omega | (simp; done) | (simp; omega)) _))), (by go_grown)⟩ hgn
    (try clear hS)
    have hS := hT
    clear hT hcn hgn
    have hS2 := hS
    obtain ⟨hq0, hF⟩ := hS2
    have hgl : w.heap.size < w3.heap.size := hq0.lt
    have hzw : w.heap.size ≤ w3.heap.size := hF.size
    have hB := hF
    go_wp2
    go_returns
    exact ⟨_, _, rfl, by go_grown⟩
  obtain ⟨k0, k1⟩ := wi_iff.1 hw
  obtain ⟨f0, f1⟩ := fg_bd k1
  go_wp2_with (first | (go_at_call 63; refine (l6FromGray_c _ (by omega) (by omega) _).mono ?_; rintro e w1 ⟨rfl, rfl⟩) | (go_at_call 58; refine (l6Gray_c _ (by omega) (by omega) _).mono ?_; rintro e w1 ⟨rfl, rfl⟩))
  go_returns
  exact ⟨_, _, rfl, by go_grown⟩

theorem drawParse_c (A : Option Addr) (n c : Nat) (w : World) (h1 : Hid (CodeOk w A n)) (hn : n ≤ 65536)  : Calls Try.prog 34 #[.slice A n c] w (DrawsS 1001 w) := by
  go_enter Try.func34, Try.ntmps34
  go_wp2_with fail
  refine (height_c (w.heap.size) (0) _ (hide (cur_new (h1.out.below (by go_grown)) hn (by first | rfl | (simp; done)) 0)) (by omega)).mono ?_
  rintro e w1 ⟨_, rfl, ⟨x, rfl, x0, x1⟩, hcn, hgn⟩
  have hT : Cur w1 (w.heap.size) (0 + 4) ∧ Below w.heap.size w w1 := (fun W h hgn => ⟨hcn, below_gb (h.2) hgn (h.2).size (by first | omega | (simp; done) | (simp; omega))⟩ : ∀ W : World, (Cur W (w.heap.size) (0) ∧ Below w.heap.size w W) → W.grownBy w1 (some (w.heap.size)) → (Cur w1 (w.heap.size) (0 + 4) ∧ Below w.heap.size w w1)) _ ⟨(cur_new (h1.out.below (by go_grown)) hn (by first | rfl | (simp; done)) 0), (by go_grown)⟩ hgn
  (try clear hS)
  have hS := hT
  clear hT hcn hgn
  have hS2 := hS
  obtain ⟨hq0, hF⟩ := hS2
  have hgl : w.heap.size < w1.heap.size := hq0.lt
  have hzw : w.heap.size ≤ w1.heap.size := hF.size
  have hB := hF
  go_wp2_with fail
  refine (l6TextW_c x (by omega) (by omega) _).mono ?_
  rintro e w2 ⟨rfl, hb⟩
  obtain ⟨s, hs⟩ : ∃ s, hT x = s := ⟨_, rfl⟩
  have hsz := hT_size (h := x) (by omega) (by omega)
  rw [hs] at hsz ⊢
  obtain ⟨hs0, hs1⟩ := hsz
  have hT : Cur w2 w.heap.size (0 + 4) ∧ Below w.heap.size w w2 := ⟨hS.1.below hb, below_via hS.2 hb⟩
  clear hS hb
  have hS := hT
  clear hT
  have hS2 := hS
  obtain ⟨hq0, hF⟩ := hS2
  have hgl : w.heap.size < w2.heap.size := hq0.lt
  have hzw : w.heap.size ≤ w2.heap.size := hF.size
  have hB := hF
  go_wp2_with fail
  refine (one_c (3) (by omega) (w.heap.size) (0 + 4) _ (hide (by repeat' (first | (with_reducible exact hS.1) | (with_reducible refine Cur.drew ?_) | (with_reducible refine Cur.alloc ?_ _) | (with_reducible refine Cur.setc ?_ (by first | omega | (simp; done) | (simp; omega)) _)))) (by omega)).mono ?_
  rintro e w3 ⟨_, rfl, ⟨o, rfl⟩, hcn, hgn⟩
  have hT : Cur w3 (w.heap.size) (0 + 6) ∧ Below w.heap.size w w3 := (fun W h hgn => ⟨hcn, below_gb (h.2) hgn (h.2).size (by first | omega | (simp; done) | (simp; omega))⟩ : ∀ W : World, (Cur W (w.heap.size) (0 + 4) ∧ Below w.heap.size w W) → W.grownBy w3 (some (w.heap.size)) → (Cur w3 (w.heap.size) (0 + 6) ∧ Below w.heap.size w w3)) _ ⟨(by repeat' (first | (with_reducible exact hS.1) | (with_reducible refine Cur.drew ?_) | (with_reducible refine Cur.alloc ?_ _) | (with_reducible refine Cur.setc ?_ (by first | omega | (simp; done) | (simp; omega)) _))), (by go_grown)⟩ hgn
  (try clear hS)
  have hS := hT
  clear hT hcn hgn
  have hS2 := hS
  obtain ⟨hq0, hF⟩ := hS2
  have hgl : w.heap.size < w3.heap.size := hq0.lt
  have hzw : w.heap.size ≤ w3.heap.size := hF.size
  have hB := hF
  rcases o with _ | _
  · go_wp2
    go_returns
    exact ⟨_, rfl, by omega, by go_grown⟩
  · go_wp2_with fail
    refine (spoilt_c s ⟨#[70, 76, 48, 32, 102, 116, 45]⟩ ⟨by omega, by omega⟩ ⟨by decide, by decide⟩ (w.heap.size) (0 + 6) _ (hide (by repeat' (first | (with_reducible exact hS.1) | (with_reducible refine Cur.drew ?_) | (with_reducible refine Cur.alloc ?_ _) | (with_reducible refine Cur.setc ?_ (by first | omega | (simp; done) | (simp; omega)) _)))) (by omega)).mono ?_
    rintro e w4 ⟨_, rfl, ⟨z, rfl, hz⟩, hcn, hgn⟩
    have hT : Cur w4 (w.heap.size) (0 + 12) ∧ Below w.heap.size w w4 := (fun W h hgn => ⟨hcn, below_gb (h.2) hgn (h.2).size (by first | omega | (simp; done) | (simp; omega))⟩ : ∀ W : World, (Cur W (w.heap.size) (0 + 6) ∧ Below w.heap.size w W) → W.grownBy w4 (some (w.heap.size)) → (Cur w4 (w.heap.size) (0 + 12) ∧ Below w.heap.size w w4)) _ ⟨(by repeat' (first | (with_reducible exact hS.1) | (with_reducible refine Cur.drew ?_) | (with_reducible refine Cur.alloc ?_ _) | (with_reducible refine Cur.setc ?_ (by first | omega | (simp; done) | (simp; omega)) _))), (by go_grown)⟩ hgn
    (try clear hS)
    have hS := hT
    clear hT hcn hgn
    have hS2 := hS
    obtain ⟨hq0, hF⟩ := hS2
    have hgl : w.heap.size < w4.heap.size := hq0.lt
    have hzw : w.heap.size ≤ w4.heap.size := hF.size
    have hB := hF
    go_wp2
    go_returns
    exact ⟨_, rfl, by omega, by go_grown⟩

theorem drawClimb_c (A : Option Addr) (n c : Nat) (w : World) (h1 : Hid (CodeOk w A n)) (hn : n ≤ 65536)  : Calls Try.prog 38 #[.slice A n c] w (DrawsI4 w) := by
  go_enter Try.func38, Try.ntmps38
  go_wp2_with fail
  refine (pick_c (12) (by omega) (w.heap.size) (0) _ (hide (Cur.alloc (cur_new (h1.out.below (by go_grown)) hn (by first | rfl | (simp; done)) 0) _)) (by omega)).mono ?_
  rintro e w1 ⟨_, rfl, ⟨p, rfl, p0, p1⟩, hcn, hgn⟩
  have hT : Cur w1 (w.heap.size) (0 + 2) ∧ (∀ j, j < ([0, 10, 86340, 86400, -1] : List Int).length → w1.cell? ((⟨w.heap.size + 1, 0, none⟩ : Addr).add j) = some (.int .i64 (nth [0, 10, 86340, 86400, -1] j))) ∧ Below w.heap.size w w1 := (fun W h hgn => ⟨hcn, (fun j hj => hgn.cell ((h.2.1) j hj) (by rw [block_of_add]; intro e; injection e with e; (try dsimp only at e); omega)), below_gb (h.2.2) hgn (h.2.2).size (by first | omega | (simp; done) | (simp; omega))⟩ : ∀ W : World, (Cur W (w.heap.size) (0) ∧ (∀ j, j < ([0, 10, 86340, 86400, -1] : List Int).length → W.cell? ((⟨w.heap.size + 1, 0, none⟩ : Addr).add j) = some (.int .i64 (nth [0, 10, 86340, 86400, -1] j))) ∧ Below w.heap.size w W) → W.grownBy w1 (some (w.heap.size)) → (Cur w1 (w.heap.size) (0 + 2) ∧ (∀ j, j < ([0, 10, 86340, 86400, -1] : List Int).length → w1.cell? ((⟨w.heap.size + 1, 0, none⟩ : Addr).add j) = some (.int .i64 (nth [0, 10, 86340, 86400, -1] j))) ∧ Below w.heap.size w w1)) _ ⟨(Cur.alloc (cur_new (h1.out.below (by go_grown)) hn (by first | rfl | (simp; done)) 0) _), (by first | (with_reducible assumption) | (exact lit_at (by rfl) (by first | rfl | (with_reducible assumption) | simp))), (by go_grown)⟩ hgn
  (try clear hS)
  have hS := hT
  clear hT hcn hgn
  have hS2 := hS
  obtain ⟨hq0, q0, hF⟩ := hS2
  have hgl : w.heap.size < w1.heap.size := hq0.lt
  have hzw : w.heap.size ≤ w1.heap.size := hF.size
  have hB := hF
  have hp9 : p.tdiv 11 = 0 ∨ p.tdiv 11 = 1 := by rw [Int.tdiv_eq_ediv_of_nonneg p0]; omega
  rcases hp9 with hp9 | hp9
  · go_wp2_with fail
    refine (among_c (-1) (86400) (List.take 4 [0, 10, 86340, 86400, -1]) _ _ (w.heap.size) (0 + 2) _ (hide (by repeat' (first | (with_reducible exact hS.1) | (with_reducible refine Cur.drew ?_) | (with_reducible refine Cur.alloc ?_ _) | (with_reducible refine Cur.setc ?_ (by first | omega | (simp; done) | (simp; omega)) _)))) (by omega) (hide (lit_take 4 hS.2.1)) (by intro e; (try dsimp only at e); omega) ⟨by decide, by decide⟩ (hide (by decide))).mono ?_
    rintro e w2 ⟨_, rfl, ⟨f, rfl, f0, f1⟩, hcn, hgn⟩
    have hT : Cur w2 (w.heap.size) (0 + 4) ∧ (∀ j, j < ([0, 10, 86340, 86400, -1] : List Int).length → w2.cell? ((⟨w.heap.size + 1, 0, none⟩ : Addr).add j) = some (.int .i64 (nth [0, 10, 86340, 86400, -1] j))) ∧ Below w.heap.size w w2 := (fun W h hgn => ⟨hcn, (fun j hj => hgn.cell ((h.2.1) j hj) (by rw [block_of_add]; intro e; injection e with e; (try dsimp only at e); omega)), below_gb (h.2.2) hgn (h.2.2).size (by first | omega | (simp; done) | (simp; omega))⟩ : ∀ W : World, (Cur W (w.heap.size) (0 + 2) ∧ (∀ j, j < ([0, 10, 86340, 86400, -1] : List Int).length → W.cell? ((⟨w.heap.size + 1, 0, none⟩ : Addr).add j) = some (.int .i64 (nth [0, 10, 86340, 86400, -1] j))) ∧ Below w.heap.size w W) → W.grownBy w2 (some (w.heap.size)) → (Cur w2 (w.heap.size) (0 + 4) ∧ (∀ j, j < ([0, 10, 86340, 86400, -1] : List Int).length → w2.cell? ((⟨w.heap.size + 1, 0, none⟩ : Addr).add j) = some (.int .i64 (nth [0, 10, 86340, 86400, -1] j))) ∧ Below w.heap.size w w2)) _ ⟨(by repeat' (first | (with_reducible exact hS.1) | (with_reducible refine Cur.drew ?_) | (with_reducible refine Cur.alloc ?_ _) | (with_reducible refine Cur.setc ?_ (by first | omega | (simp; done) | (simp; omega)) _))), (by first | (with_reducible assumption) | (exact lit_at (by rfl) (by first | rfl | (with_reducible assumption) | simp))), (by go_grown)⟩ hgn
    (try clear hS)
    have hS := hT
    clear hT hcn hgn
    have hS2 := hS
    obtain ⟨hq0, q0, hF⟩ := hS2
    have hgl : w.heap.size < w2.heap.size := hq0.lt
    have hzw : w.heap.size ≤ w2.heap.size := hF.size
    have hB := hF
    have hS3 := hS
    clear hS
    have hS := (⟨hS3.1, hS3.2.2⟩ : Cur w2 (w.heap.size) (0 + 4) ∧ Below w.heap.size w w2)
    clear hS3
    go_wp2_with fail
    refine (height_c (w.heap.size) (0 + 4) _ (hide (by repeat' (first | (with_reducible exact hS.1) | (with_reducible refine Cur.drew ?_) | (with_reducible refine Cur.alloc ?_ _) | (with_reducible refine Cur.setc ?_ (by first | omega | (simp; done) | (simp; omega)) _)))) (by omega)).mono ?_
    rintro e w3 ⟨_, rfl, ⟨x, rfl, x0, x1⟩, hcn, hgn⟩
    have hT : Cur w3 (w.heap.size) (0 + 8) ∧ Below w.heap.size w w3 := (fun W h hgn => ⟨hcn, below_gb (h.2) hgn (h.2).size (by first | omega | (simp; done) | (simp; omega))⟩ : ∀ W : World, (Cur W (w.heap.size) (0 + 4) ∧ Below w.heap.size w W) → W.grownBy w3 (some (w.heap.size)) → (Cur w3 (w.heap.size) (0 + 8) ∧ Below w.heap.size w w3)) _ ⟨(by repeat' (first | (with_reducible exact hS.1) | (with_reducible refine Cur.drew ?_) | (with_reducible refine Cur.alloc ?_ _) | (with_reducible refine Cur.setc ?_ (by first | omega | (simp; done) | (simp; omega)) _))), (by go_grown)⟩ hgn
    (try clear hS)
    have hS := hT
    clear hT hcn hgn
    have hS2 := hS
    obtain ⟨hq0, hF⟩ := hS2
    have hgl : w.heap.size < w3.heap.size := hq0.lt
    have hzw : w.heap.size ≤ w3.heap.size := hF.size
    have hB := hF
    go_wp2_with fail
    refine (height_c (w.heap.size) (0 + 8) _ (hide (by repeat' (first | (with_reducible exact hS.1) | (with_reducible refine Cur.drew ?_) | (with_reducible refine Cur.alloc ?_ _) | (with_reducible refine Cur.setc ?_ (by first | omega | (simp; done) | (simp; omega)) _)))) (by omega)).mono ?_
    rintro e w4 ⟨_, rfl, ⟨y, rfl, y0, y1⟩, hcn, hgn⟩
    have hT : Cur w4 (w.heap.size) (0 + 12) ∧ Below w.heap.size w w4 := (fun W h hgn => ⟨hcn, below_gb (h.2) hgn (h.2).size (by first | omega | (simp; done) | (simp; omega))⟩ : ∀ W : World, (Cur W (w.heap.size) (0 + 8) ∧ Below w.heap.size w W) → W.grownBy w4 (some (w.heap.size)) → (Cur w4 (w.heap.size) (0 + 12) ∧ Below w.heap.size w w4)) _ ⟨(by repeat' (first | (with_reducible exact hS.1) | (with_reducible refine Cur.drew ?_) | (with_reducible refine Cur.alloc ?_ _) | (with_reducible refine Cur.setc ?_ (by first | omega | (simp; done) | (simp; omega)) _))), (by go_grown)⟩ hgn
    (try clear hS)
    have hS := hT
    clear hT hcn hgn
    have hS2 := hS
    obtain ⟨hq0, hF⟩ := hS2
    have hgl : w.heap.size < w4.heap.size := hq0.lt
    have hzw : w.heap.size ≤ w4.heap.size := hF.size
    have hB := hF
    obtain ⟨T, hTd⟩ : ∃ T, w4.heap.size = T := ⟨_, rfl⟩
    go_wp2_with fail
    refine (pick_c (24) (by omega) (w.heap.size) (0 + 12) _ (hide (by repeat' (first | (with_reducible exact hS.1) | (with_reducible refine Cur.drew ?_) | (with_reducible refine Cur.alloc ?_ _) | (with_reducible refine Cur.setc ?_ (by first | omega | (simp; done) | (simp; omega)) _)))) (by omega)).mono ?_
    rintro e w5 ⟨_, rfl, ⟨s, rfl, s0, s1⟩, hcn, hgn⟩
    have hT : Cur w5 (w.heap.size) (0 + 14) ∧ (∀ j, j < ([1, 7, 30, 60, 0, 86400] : List Int).length → w5.cell? ((⟨T, 0, none⟩ : Addr).add j) = some (.int .i64 (nth [1, 7, 30, 60, 0, 86400] j))) ∧ Below w.heap.size w w5 := (fun W h hgn => ⟨hcn, (fun j hj => hgn.cell ((h.2.1) j hj) (by rw [block_of_add]; intro e; injection e with e; (try dsimp only at e); omega)), below_gb (h.2.2) hgn (h.2.2).size (by first | omega | (simp; done) | (simp; omega))⟩ : ∀ W : World, (Cur W (w.heap.size) (0 + 12) ∧ (∀ j, j < ([1, 7, 30, 60, 0, 86400] : List Int).length → W.cell? ((⟨T, 0, none⟩ : Addr).add j) = some (.int .i64 (nth [1, 7, 30, 60, 0, 86400] j))) ∧ Below w.heap.size w W) → W.grownBy w5 (some (w.heap.size)) → (Cur w5 (w.heap.size) (0 + 14) ∧ (∀ j, j < ([1, 7, 30, 60, 0, 86400] : List Int).length → w5.cell? ((⟨T, 0, none⟩ : Addr).add j) = some (.int .i64 (nth [1, 7, 30, 60, 0, 86400] j))) ∧ Below w.heap.size w w5)) _ ⟨(by repeat' (first | (with_reducible exact hS.1) | (with_reducible refine Cur.drew ?_) | (with_reducible refine Cur.alloc ?_ _) | (with_reducible refine Cur.setc ?_ (by first | omega | (simp; done) | (simp; omega)) _))), (by first | (with_reducible assumption) | (exact lit_at (by rfl) (by first | rfl | (with_reducible assumption) | simp))), (by go_grown)⟩ hgn
    (try clear hS)
    have hS := hT
    clear hT hcn hgn
    have hS2 := hS
    obtain ⟨hq0, q0, hF⟩ := hS2
    have hgl : w.heap.size < w5.heap.size := hq0.lt
    have hzw : w.heap.size ≤ w5.heap.size := hF.size
    have hB := hF
    have hq9 : s.tdiv 11 = 0 ∨ s.tdiv 11 = 1 ∨ s.tdiv 11 = 2 := by rw [Int.tdiv_eq_ediv_of_nonneg s0]; omega
    rcases hq9 with hq9 | hq9 | hq9
    · go_wp2_with fail
      refine (among_c (0) (86400) (List.take 4 [1, 7, 30, 60, 0, 86400]) _ _ (w.heap.size) (0 + 14) _ (hide (by repeat' (first | (with_reducible exact hS.1) | (with_reducible refine Cur.drew ?_) | (with_reducible refine Cur.alloc ?_ _) | (with_reducible refine Cur.setc ?_ (by first | omega | (simp; done) | (simp; omega)) _)))) (by omega) (hide (lit_take 4 hS.2.1)) (by intro e; (try dsimp only at e); omega) ⟨by decide, by decide⟩ (hide (by decide))).mono ?_
      rintro e w6 ⟨_, rfl, ⟨r, rfl, r0, r1⟩, hcn, hgn⟩
      have hT : Cur w6 (w.heap.size) (0 + 16) ∧ (∀ j, j < ([1, 7, 30, 60, 0, 86400] : List Int).length → w6.cell? ((⟨T, 0, none⟩ : Addr).add j) = some (.int .i64 (nth [1, 7, 30, 60, 0, 86400] j))) ∧ Below w.heap.size w w6 := (fun W h hgn => ⟨hcn, (fun j hj => hgn.cell ((h.2.1) j hj) (by rw [block_of_add]; intro e; injection e with e; (try dsimp only at e); omega)), below_gb (h.2.2) hgn (h.2.2).size (by first | omega | (simp; done) | (simp; omega))⟩ : ∀ W : World, (Cur W (w.heap.size) (0 + 14) ∧ (∀ j, j < ([1, 7, 30, 60, 0, 86400] : List Int).length → W.cell? ((⟨T, 0, none⟩ : Addr).add j) = some (.int .i64 (nth [1, 7, 30, 60, 0, 86400] j))) ∧ Below w.heap.size w W) → W.grownBy w6 (some (w.heap.size)) → (Cur w6 (w.heap.size) (0 + 16) ∧ (∀ j, j < ([1, 7, 30, 60, 0, 86400] : List Int).length → w6.cell? ((⟨T, 0, none⟩ : Addr).add j) = some (.int .i64 (nth [1, 7, 30, 60, 0, 86400] j))) ∧ Below w.heap.size w w6)) _ ⟨(by repeat' (first | (with_reducible exact hS.1) | (with_reducible refine Cur.drew ?_) | (with_reducible refine Cur.alloc ?_ _) | (with_reducible refine Cur.setc ?_ (by first | omega | (simp; done) | (simp; omega)) _))), (by first | (with_reducible assumption) | (exact lit_at (by rfl) (by first | rfl | (with_reducible assumption) | simp))), (by go_grown)⟩ hgn
      (try clear hS)
      have hS := hT
      clear hT hcn hgn
      have hS2 := hS
      obtain ⟨hq0, q0, hF⟩ := hS2
      have hgl : w.heap.size < w6.heap.size := hq0.lt
      have hzw : w.heap.size ≤ w6.heap.size := hF.size
      have hB := hF
      go_wp2
      go_returns
      exact ⟨_, _, _, _, rfl, ⟨by omega, by omega⟩, ⟨by omega, by omega⟩, ⟨by omega, by omega⟩, ⟨by omega, by omega⟩, by go_grown⟩
    · go_wp2_with fail
      refine (among_c (0) (86400) (List.take 5 [1, 7, 30, 60, 0, 86400]) _ _ (w.heap.size) (0 + 14) _ (hide (by repeat' (first | (with_reducible exact hS.1) | (with_reducible refine Cur.drew ?_) | (with_reducible refine Cur.alloc ?_ _) | (with_reducible refine Cur.setc ?_ (by first | omega | (simp; done) | (simp; omega)) _)))) (by omega) (hide (lit_take 5 hS.2.1)) (by intro e; (try dsimp only at e); omega) ⟨by decide, by decide⟩ (hide (by decide))).mono ?_
      rintro e w6 ⟨_, rfl, ⟨r, rfl, r0, r1⟩, hcn, hgn⟩
      have hT : Cur w6 (w.heap.size) (0 + 16) ∧ (∀ j, j < ([1, 7, 30, 60, 0, 86400] : List Int).length → w6.cell? ((⟨T, 0, none⟩ : Addr).add j) = some (.int .i64 (nth [1, 7, 30, 60, 0, 86400] j))) ∧ Below w.heap.size w w6 := (fun W h hgn => ⟨hcn, (fun j hj => hgn.cell ((h.2.1) j hj) (by rw [block_of_add]; intro e; injection e with e; (try dsimp only at e); omega)), below_gb (h.2.2) hgn (h.2.2).size (by first | omega | (simp; done) | (simp; omega))⟩ : ∀ W : World, (Cur W (w.heap.size) (0 + 14) ∧ (∀ j, j < ([1, 7, 30, 60, 0, 86400] : List Int).length → W.cell? ((⟨T, 0, none⟩ : Addr).add j) = some (.int .i64 (nth [1, 7, 30, 60, 0, 86400] j))) ∧ Below w.heap.size w W) → W.grownBy w6 (some (w.heap.size)) → (Cur w6 (w.heap.size) (0 + 16) ∧ (∀ j, j < ([1, 7, 30, 60, 0, 86400] : List Int).length → w6.cell? ((⟨T, 0, none⟩ : Addr).add j) = some (.int .i64 (nth [1, 7, 30, 60, 0, 86400] j))) ∧ Below w.heap.size w w6)) _ ⟨(by repeat' (first | (with_reducible exact hS.1) | (with_reducible refine Cur.drew ?_) | (with_reducible refine Cur.alloc ?_ _) | (with_reducible refine Cur.setc ?_ (by first | omega | (simp; done) | (simp; omega)) _))), (by first | (with_reducible assumption) | (exact lit_at (by rfl) (by first | rfl | (with_reducible assumption) | simp))), (by go_grown)⟩ hgn
      (try clear hS)
      have hS := hT
      clear hT hcn hgn
      have hS2 := hS
      obtain ⟨hq0, q0, hF⟩ := hS2
      have hgl : w.heap.size < w6.heap.size := hq0.lt
      have hzw : w.heap.size ≤ w6.heap.size := hF.size
      have hB := hF
      go_wp2
      go_returns
      exact ⟨_, _, _, _, rfl, ⟨by omega, by omega⟩, ⟨by omega, by omega⟩, ⟨by omega, by omega⟩, ⟨by omega, by omega⟩, by go_grown⟩
    · go_wp2_with fail
      refine (among_c (0) (86400) (List.take 6 [1, 7, 30, 60, 0, 86400]) _ _ (w.heap.size) (0 + 14) _ (hide (by repeat' (first | (with_reducible exact hS.1) | (with_reducible refine Cur.drew ?_) | (with_reducible refine Cur.alloc ?_ _) | (with_reducible refine Cur.setc ?_ (by first | omega | (simp; done) | (simp; omega)) _)))) (by omega) (hide (lit_take 6 hS.2.1)) (by intro e; (try dsimp only at e); omega) ⟨by decide, by decide⟩ (hide (by decide))).mono ?_
      rintro e w6 ⟨_, rfl, ⟨r, rfl, r0, r1⟩, hcn, hgn⟩
      have hT : Cur w6 (w.heap.size) (0 + 16) ∧ (∀ j, j < ([1, 7, 30, 60, 0, 86400] : List Int).length → w6.cell? ((⟨T, 0, none⟩ : Addr).add j) = some (.int .i64 (nth [1, 7, 30, 60, 0, 86400] j))) ∧ Below w.heap.size w w6 := (fun W h hgn => ⟨hcn, (fun j hj => hgn.cell ((h.2.1) j hj) (by rw [block_of_add]; intro e; injection e with e; (try dsimp only at e); omega)), below_gb (h.2.2) hgn (h.2.2).size (by first | omega | (simp; done) | (simp; omega))⟩ : ∀ W : World, (Cur W (w.heap.size) (0 + 14) ∧ (∀ j, j < ([1, 7, 30, 60, 0, 86400] : List Int).length → W.cell? ((⟨T, 0, none⟩ : Addr).add j) = some (.int .i64 (nth [1, 7, 30, 60, 0, 86400] j))) ∧ Below w.heap.size w W) → W.grownBy w6 (some (w.heap.size)) → (Cur w6 (w.heap.size) (0 + 16) ∧ (∀ j, j < ([1, 7, 30, 60, 0, 86400] : List Int).length → w6.cell? ((⟨T, 0, none⟩ : Addr).add j) = some (.int .i64 (nth [1, 7, 30, 60, 0, 86400] j))) ∧ Below w.heap.size w w6)) _ ⟨(by repeat' (first | (with_reducible exact hS.1) | (with_reducible refine Cur.drew ?_) | (with_reducible refine Cur.alloc ?_ _) | (with_reducible refine Cur.setc ?_ (by first | omega | (simp; done) | (simp; omega)) _))), (by first | (with_reducible assumption) | (exact lit_at (by rfl) (by first | rfl | (with_reducible assumption) | simp))), (by go_grown)⟩ hgn
      (try clear hS)
      have hS := hT
      clear hT hcn hgn
      have hS2 := hS
      obtain ⟨hq0, q0, hF⟩ := hS2
      have hgl : w.heap.size < w6.heap.size := hq0.lt
      have hzw : w.heap.size ≤ w6.heap.size := hF.size
      have hB := hF
      go_wp2
      go_returns
      exact ⟨_, _, _, _, rfl, ⟨by omega, by omega⟩, ⟨by omega, by omega⟩, ⟨by omega, by omega⟩, ⟨by omega, by omega⟩, by go_grown⟩
  · go_wp2_with fail
    refine (among_c (-1) (86400) (List.take 5 [0, 10, 86340, 86400, -1]) _ _ (w.heap.size) (0 + 2) _ (hide (by repeat' (first | (with_reducible exact hS.1) | (with_reducible refine Cur.drew ?_) | (with_reducible refine Cur.alloc ?_ _) | (with_reducible refine Cur.setc ?_ (by first | omega | (simp; done) | (simp; omega)) _)))) (by omega) (hide (lit_take 5 hS.2.1)) (by intro e; (try dsimp only at e); omega) ⟨by decide, by decide⟩ (hide (by decide))).mono ?_
    rintro e w2 ⟨_, rfl, ⟨f, rfl, f0, f1⟩, hcn, hgn⟩
    have hT : Cur w2 (w.heap.size) (0 + 4) ∧ (∀ j, j < ([0, 10, 86340, 86400, -1] : List Int).length → w2.cell? ((⟨w.heap.size + 1, 0, none⟩ : Addr).add j) = some (.int .i64 (nth [0, 10, 86340, 86400, -1] j))) ∧ Below w.heap.size w w2 := (fun W h hgn => ⟨hcn, (fun j hj => hgn.cell ((h.2.1) j hj) (by rw [block_of_add]; intro e; injection e with e; (try dsimp only at e); omega)), below_gb (h.2.2) hgn (h.2.2).size (by first | omega | (simp; done) | (simp; omega))⟩ : ∀ W : World, (Cur W (w.heap.size) (0 + 2) ∧ (∀ j, j < ([0, 10, 86340, 86400, -1] : List Int).length → W.cell? ((⟨w.heap.size + 1, 0, none⟩ : Addr).add j) = some (.int .i64 (nth [0, 10, 86340, 86400, -1] j))) ∧ Below w.heap.size w W) → W.grownBy w2 (some (w.heap.size)) → (Cur w2 (w.heap.size) (0 + 4) ∧ (∀ j, j < ([0, 10, 86340, 86400, -1] : List Int).length → w2.cell? ((⟨w.heap.size + 1, 0, none⟩ : Addr).add j) = some (.int .i64 (nth [0, 10, 86340, 86400, -1] j))) ∧ Below w.heap.size w w2)) _ ⟨(by repeat' (first | (with_reducible exact hS.1) | (with_reducible refine Cur.drew ?_) | (with_reducible refine Cur.alloc ?_ _) | (with_reducible refine Cur.setc ?_ (by first | omega | (simp; done) | (simp; omega)) _))), (by first | (with_reducible assumption) | (exact lit_at (by rfl) (by first | rfl | (with_reducible assumption) | simp))), (by go_grown)⟩ hgn
    (try clear hS)
    have hS := hT
    clear hT hcn hgn
    have hS2 := hS
    obtain ⟨hq0, q0, hF⟩ := hS2
    have hgl : w.heap.size < w2.heap.size := hq0.lt
    have hzw : w.heap.size ≤ w2.heap.size := hF.size
    have hB := hF
    have hS3 := hS
    clear hS
    have hS := (⟨hS3.1, hS3.2.2⟩ : Cur w2 (w.heap.size) (0 + 4) ∧ Below w.heap.size w w2)
    clear hS3
    go_wp2_with fail
    refine (height_c (w.heap.size) (0 + 4) _ (hide (by repeat' (first | (with_reducible exact hS.1) | (with_reducible refine Cur.drew ?_) | (with_reducible refine Cur.alloc ?_ _) | (with_reducible refine Cur.setc ?_ (by first | omega | (simp; done) | (simp; omega)) _)))) (by omega)).mono ?_
    rintro e w3 ⟨_, rfl, ⟨x, rfl, x0, x1⟩, hcn, hgn⟩
    have hT : Cur w3 (w.heap.size) (0 + 8) ∧ Below w.heap.size w w3 := (fun W h hgn => ⟨hcn, below_gb (h.2) hgn (h.2).size (by first | omega | (simp; done) | (simp; omega))⟩ : ∀ W : World, (Cur W (w.heap.size) (0 + 4) ∧ Below w.heap.size w W) → W.grownBy w3 (some (w.heap.size)) → (Cur w3 (w.heap.size) (0 + 8) ∧ Below w.heap.size w w3)) _ ⟨(by repeat' (first | (with_reducible exact hS.1) | (with_reducible refine Cur.drew ?_) | (with_reducible refine Cur.alloc ?_ _) | (with_reducible refine Cur.setc ?_ (by first | omega | (simp; done) | (simp; omega)) _))), (by go_grown)⟩ hgn
    (try clear hS)
    have hS := hT
    clear hT hcn hgn
    have hS2 := hS
    obtain ⟨hq0, hF⟩ := hS2
    have hgl : w.heap.size < w3.heap.size := hq0.lt
    have hzw : w.heap.size ≤ w3.heap.size := hF.size
    have hB := hF
    go_wp2_with fail
    refine (height_c (w.heap.size) (0 + 8) _ (hide (by repeat' (first | (with_reducible exact hS.1) | (with_reducible refine Cur.drew ?_) | (with_reducible refine Cur.alloc ?_ _) | (with_reducible refine Cur.setc ?_ (by first | omega | (simp; done) | (simp; omega)) _)))) (by omega)).mono ?_
    rintro e w4 ⟨_, rfl, ⟨y, rfl, y0, y1⟩, hcn, hgn⟩
    have hT : Cur w4 (w.heap.size) (0 + 12) ∧ Below w.heap.size w w4 := (fun W h hgn => ⟨hcn, below_gb (h.2) hgn (h.2).size (by first | omega | (simp; done) | (simp; omega))⟩ : ∀ W : World, (Cur W (w.heap.size) (0 + 8) ∧ Below w.heap.size w W) → W.grownBy w4 (some (w.heap.size)) → (Cur w4 (w.heap.size) (0 + 12) ∧ Below w.heap.size w w4)) _ ⟨(by repeat' (first | (with_reducible exact hS.1) | (with_reducible refine Cur.drew ?_) | (with_reducible refine Cur.alloc ?_ _) | (with_reducible refine Cur.setc ?_ (by first | omega | (simp; done) | (simp; omega)) _))), (by go_grown)⟩ hgn
    (try clear hS)
    have hS := hT
    clear hT hcn hgn
    have hS2 := hS
    obtain ⟨hq0, hF⟩ := hS2
    have hgl : w.heap.size < w4.heap.size := hq0.lt
    have hzw : w.heap.size ≤ w4.heap.size := hF.size
    have hB := hF
    obtain ⟨T, hTd⟩ : ∃ T, w4.heap.size = T := ⟨_, rfl⟩
    go_wp2_with fail
    refine (pick_c (24) (by omega) (w.heap.size) (0 + 12) _ (hide (by repeat' (first | (with_reducible exact hS.1) | (with_reducible refine Cur.drew ?_) | (with_reducible refine Cur.alloc ?_ _) | (with_reducible refine Cur.setc ?_ (by first | omega | (simp; done) | (simp; omega)) _)))) (by omega)).mono ?_
    rintro e w5 ⟨_, rfl, ⟨s, rfl, s0, s1⟩, hcn, hgn⟩
    have hT : Cur w5 (w.heap.size) (0 + 14) ∧ (∀ j, j < ([1, 7, 30, 60, 0, 86400] : List Int).length → w5.cell? ((⟨T, 0, none⟩ : Addr).add j) = some (.int .i64 (nth [1, 7, 30, 60, 0, 86400] j))) ∧ Below w.heap.size w w5 := (fun W h hgn => ⟨hcn, (fun j hj => hgn.cell ((h.2.1) j hj) (by rw [block_of_add]; intro e; injection e with e; (try dsimp only at e); omega)), below_gb (h.2.2) hgn (h.2.2).size (by first | omega | (simp; done) | (simp; omega))⟩ : ∀ W : World, (Cur W (w.heap.size) (0 + 12) ∧ (∀ j, j < ([1, 7, 30, 60, 0, 86400] : List Int).length → W.cell? ((⟨T, 0, none⟩ : Addr).add j) = some (.int .i64 (nth [1, 7, 30, 60, 0, 86400] j))) ∧ Below w.heap.size w W) → W.grownBy w5 (some (w.heap.size)) → (Cur w5 (w.heap.size) (0 + 14) ∧ (∀ j, j < ([1, 7, 30, 60, 0, 86400] : List Int).length → w5.cell? ((⟨T, 0, none⟩ : Addr).add j) = some (.int .i64 (nth [1, 7, 30, 60, 0, 86400] j))) ∧ Below w.heap.size w w5)) _ ⟨(by repeat' (first | (with_reducible exact hS.1) | (with_reducible refine Cur.drew ?_) | (with_reducible refine Cur.alloc ?_ _) | (with_reducible refine Cur.setc ?_ (by first | omega | (simp; done) | (simp; omega)) _))), (by first | (with_reducible assumption) | (exact lit_at (by rfl) (by first | rfl | (with_reducible assumption) | simp))), (by go_grown)⟩ hgn
    (try clear hS)
    have hS := hT
    clear hT hcn hgn
    have hS2 := hS
    obtain ⟨hq0, q0, hF⟩ := hS2
    have hgl : w.heap.size < w5.heap.size := hq0.lt
    have hzw : w.heap.size ≤ w5.heap.size := hF.size
    have hB := hF
    have hq9 : s.tdiv 11 = 0 ∨ s.tdiv 11 = 1 ∨ s.tdiv 11 = 2 := by rw [Int.tdiv_eq_ediv_of_nonneg s0]; omega
    rcases hq9 with hq9 | hq9 | hq9
    · go_wp2_with fail
      refine (among_c (0) (86400) (List.take 4 [1, 7, 30, 60, 0, 86400]) _ _ (w.heap.size) (0 + 14) _ (hide (by repeat' (first | (with_reducible exact hS.1) | (with_reducible refine Cur.drew ?_) | (with_reducible refine Cur.alloc ?_ _) | (with_reducible refine Cur.setc ?_ (by first | omega | (simp; done) | (simp; omega)) _)))) (by omega) (hide (lit_take 4 hS.2.1)) (by intro e; (try dsimp only at e); omega) ⟨by decide, by decide⟩ (hide (by decide))).mono ?_
      rintro e w6 ⟨_, rfl, ⟨r, rfl, r0, r1⟩, hcn, hgn⟩
      have hT : Cur w6 (w.heap.size) (0 + 16) ∧ (∀ j, j < ([1, 7, 30, 60, 0, 86400] : List Int).length → w6.cell? ((⟨T, 0, none⟩ : Addr).add j) = some (.int .i64 (nth [1, 7, 30, 60, 0, 86400] j))) ∧ Below w.heap.size w w6 := (fun W h hgn => ⟨hcn, (fun j hj => hgn.cell ((h.2.1) j hj) (by rw [block_of_add]; intro e; injection e with e; (try dsimp only at e); omega)), below_gb (h.2.2) hgn (h.2.2).size (by first | omega | (simp; done) | (simp; omega))⟩ : ∀ W : World, (Cur W (w.heap.size) (0 + 14) ∧ (∀ j, j < ([1, 7, 30, 60, 0, 86400] : List Int).length → W.cell? ((⟨T, 0, none⟩ : Addr).add j) = some (.int .i64 (nth [1, 7, 30, 60, 0, 86400] j))) ∧ Below w.heap.size w W) → W.grownBy w6 (some (w.heap.size)) → (Cur w6 (w.heap.size) (0 + 16) ∧ (∀ j, j < ([1, 7, 30, 60, 0, 86400] : List Int).length → w6.cell? ((⟨T, 0, none⟩ : Addr).add j) = some (.int .i64 (nth [1, 7, 30, 60, 0, 86400] j))) ∧ Below w.heap.size w w6)) _ ⟨(by repeat' (first | (with_reducible exact hS.1) | (with_reducible refine Cur.drew ?_) | (with_reducible refine Cur.alloc ?_ _) | (with_reducible refine Cur.setc ?_ (by first | omega | (simp; done) | (simp; omega)) _))), (by first | (with_reducible assumption) | (exact lit_at (by rfl) (by first | rfl | (with_reducible assumption) | simp))), (by go_grown)⟩ hgn
      (try clear hS)
      have hS := hT
      clear hT hcn hgn
      have hS2 := hS
      obtain ⟨hq0, q0, hF⟩ := hS2
      have hgl : w.heap.size < w6.heap.size := hq0.lt
      have hzw : w.heap.size ≤ w6.heap.size := hF.size
      have hB := hF
      go_wp2
      go_returns
      exact ⟨_, _, _, _, rfl, ⟨by omega, by omega⟩, ⟨by omega, by omega⟩, ⟨by omega, by omega⟩, ⟨by omega, by omega⟩, by go_grown⟩
    · go_wp2_with fail
      refine (among_c (0) (86400) (List.take 5 [1, 7, 30, 60, 0, 86400]) _ _ (w.heap.size) (0 + 14) _ (hide (by repeat' (first | (with_reducible exact hS.1) | (with_reducible refine Cur.drew ?_) | (with_reducible refine Cur.alloc ?_ _) | (with_reducible refine Cur.setc ?_ (by first | omega | (simp; done) | (simp; omega)) _)))) (by omega) (hide (lit_take 5 hS.2.1)) (by intro e; (try dsimp only at e); omega) ⟨by decide, by decide⟩ (hide (by decide))).mono ?_
      rintro e w6 ⟨_, rfl, ⟨r, rfl, r0, r1⟩, hcn, hgn⟩
      have hT : Cur w6 (w.heap.size) (0 + 16) ∧ (∀ j, j < ([1, 7, 30, 60, 0, 86400] : List Int).length → w6.cell? ((⟨T, 0, none⟩ : Addr).add j) = some (.int .i64 (nth [1, 7, 30, 60, 0, 86400] j))) ∧ Below w.heap.size w w6 := (fun W h hgn => ⟨hcn, (fun j hj => hgn.cell ((h.2.1) j hj) (by rw [block_of_add]; intro e; injection e with e; (try dsimp only at e); omega)), below_gb (h.2.2) hgn (h.2.2).size (by first | omega | (simp; done) | (simp; omega))⟩ : ∀ W : World, (Cur W (w.heap.size) (0 + 14) ∧ (∀ j, j < ([1, 7, 30, 60, 0, 86400] : List Int).length → W.cell? ((⟨T, 0, none⟩ : Addr).add j) = some (.int .i64 (nth [1, 7, 30, 60, 0, 86400] j))) ∧ Below w.heap.size w W) → W.grownBy w6 (some (w.heap.size)) → (Cur w6 (w.heap.size) (0 + 16) ∧ (∀ j, j < ([1, 7, 30, 60, 0, 86400] : List Int).length → w6.cell? ((⟨T, 0, none⟩ : Addr).add j) = some (.int .i64 (nth [1, 7, 30, 60, 0, 86400] j))) ∧ Below w.heap.size w w6)) _ ⟨(by repeat' (first | (with_reducible exact hS.1) | (with_reducible refine Cur.drew ?_) | (with_reducible refine Cur.alloc ?_ _) | (with_reducible refine Cur.setc ?_ (by first | omega | (simp; done) | (simp; omega)) _))), (by first | (with_reducible assumption) | (exact lit_at (by rfl) (by first | rfl | (with_reducible assumption) | simp))), (by go_grown)⟩ hgn
      (try clear hS)
      have hS := hT
      clear hT hcn hgn
      have hS2 := hS
      obtain ⟨hq0, q0, hF⟩ := hS2
      have hgl : w.heap.size < w6.heap.size := hq0.lt
      have hzw : w.heap.size ≤ w6.heap.size := hF.size
      have hB := hF
      go_wp2
      go_returns
      exact ⟨_, _, _, _, rfl, ⟨by omega, by omega⟩, ⟨by omega, by omega⟩, ⟨by omega, by omega⟩, ⟨by omega, by omega⟩, by go_grown⟩
    · go_wp2_with fail
      refine (among_c (0) (86400) (List.take 6 [1, 7, 30, 60, 0, 86400]) _ _ (w.heap.size) (0 + 14) _ (hide (by repeat' (first | (with_reducible exact hS.1) | (with_reducible refine Cur.drew ?_) | (with_reducible refine Cur.alloc ?_ _) | (with_reducible refine Cur.setc ?_ (by first | omega | (simp; done) | (simp; omega)) _)))) (by omega) (hide (lit_take 6 hS.2.1)) (by intro e; (try dsimp only at e); omega) ⟨by decide, by decide⟩ (hide (by decide))).mono ?_
      rintro e w6 ⟨_, rfl, ⟨r, rfl, r0, r1⟩, hcn, hgn⟩
      have hT : Cur w6 (w.heap.size) (0 + 16) ∧ (∀ j, j < ([1, 7, 30, 60, 0, 86400] : List Int).length → w6.cell? ((⟨T, 0, none⟩ : Addr).add j) = some (.int .i64 (nth [1, 7, 30, 60, 0, 86400] j))) ∧ Below w.heap.size w w6 := (fun W h hgn => ⟨hcn, (fun j hj => hgn.cell ((h.2.1) j hj) (by rw [block_of_add]; intro e; injection e with e; (try dsimp only at e); omega)), below_gb (h.2.2) hgn (h.2.2).size (by first | omega | (simp; done) | (simp; omega))⟩ : ∀ W : World, (Cur W (w.heap.size) (0 + 14) ∧ (∀ j, j < ([1, 7, 30, 60, 0, 86400] : List Int).length → W.cell? ((⟨T, 0, none⟩ : Addr).add j) = some (.int .i64 (nth [1, 7, 30, 60, 0, 86400] j))) ∧ Below w.heap.size w W) → W.grownBy w6 (some (w.heap.size)) → (Cur w6 (w.heap.size) (0 + 16) ∧ (∀ j, j < ([1, 7, 30, 60, 0, 86400] : List Int).length → w6.cell? ((⟨T, 0, none⟩ : Addr).add j) = some (.int .i64 (nth [1, 7, 30, 60, 0, 86400] j))) ∧ Below w.heap.size w w6)) _ ⟨(by repeat' (first | (with_reducible exact hS.1) | (with_reducible refine Cur.drew ?_) | (with_reducible refine Cur.alloc ?_ _) | (with_reducible refine Cur.setc ?_ (by first | omega | (simp; done) | (simp; omega)) _))), (by first | (with_reducible assumption) | (exact lit_at (by rfl) (by first | rfl | (with_reducible assumption) | simp))), (by go_grown)⟩ hgn
      (try clear hS)
      have hS := hT
      clear hT hcn hgn
      have hS2 := hS
      obtain ⟨hq0, q0, hF⟩ := hS2
      have hgl : w.heap.size < w6.heap.size := hq0.lt
      have hzw : w.heap.size ≤ w6.heap.size := hF.size
      have hB := hF
      go_wp2
      go_returns
      exact ⟨_, _, _, _, rfl, ⟨by omega, by omega⟩, ⟨by omega, by omega⟩, ⟨by omega, by omega⟩, ⟨by omega, by omega⟩, by go_grown⟩
end Go.Proofs.Ythgnnldokdddfaa
