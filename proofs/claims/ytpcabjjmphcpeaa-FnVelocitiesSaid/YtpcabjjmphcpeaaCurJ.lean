/- Contracts: spoilt texts. -/
import Derived.Test.YtpcabjjmphcpeaaCur
import Derived.Test.YtpcabjjmphcpeaaOwn
import Derived.Test.YtpcabjjmphcpeaaTxt
namespace Go.Proofs.Ytpcabjjmphcpeaa
open Go.RowKit

def IsS (m : Nat) (v : Value) (_ : World) : Prop := ∃ s : ByteArray, v = .string s ∧ s.size ≤ m

theorem toList_ne' {s : ByteArray} (h : 1 ≤ s.size) : s.toList ≠ [] := by
  rw [ByteArray.toList_eq]
  intro e
  have h2 : s.data.toList.length = 0 := by rw [e]; rfl
  have h3 : s.data.toList.length = s.size := by simp
  omega

theorem spoilt_c (t u : ByteArray) (ht : 1 ≤ t.size ∧ t.size ≤ 1000) (hu : 1 ≤ u.size ∧ u.size ≤ 100) (g k : Nat) (w : World) (hc : Hid (Cur w g k)) (hk : k ≤ 10000)  : Calls Try.prog 69 #[.pointer (some ⟨g, 0, none⟩), .string t, .string u] w (CurG w g (k + 6) (IsS 1001)) := by
  obtain ⟨t0, t1⟩ := ht
  obtain ⟨u0, u1⟩ := hu
  have hgw : g < w.heap.size := hc.out.lt
  go_enter Try.func69, Try.ntmps69
  have hte : (t.toList == []) = false := by rw [beq_eq_false_iff_ne]; exact toList_ne' t0
  go_wp2_with fail
  refine (pick_c ((t.size : Int)) (by omega) (g) (k) _ (hide (by repeat' (first | (with_reducible exact hc.out) | (with_reducible refine Cur.drew ?_) | (with_reducible refine Cur.alloc ?_ _) | (with_reducible refine Cur.setc ?_ (by first | omega | (simp; done) | (simp; omega)) _)))) (by omega)).mono ?_
  rintro e w1 ⟨_, rfl, ⟨i, rfl, i0, i1⟩, hcn, hgn⟩
  have hT : Cur w1 (g) (k + 2) ∧ w.grownBy w1 (some g) := (fun W h hgn => ⟨hcn, grown_trans (h.2) hgn⟩ : ∀ W : World, (Cur W (g) (k) ∧ w.grownBy W (some g)) → W.grownBy w1 (some (g)) → (Cur w1 (g) (k + 2) ∧ w.grownBy w1 (some g))) _ ⟨(by repeat' (first | (with_reducible exact hc.out) | (with_reducible refine Cur.drew ?_) | (with_reducible refine Cur.alloc ?_ _) | (with_reducible refine Cur.setc ?_ (by first | omega | (simp; done) | (simp; omega)) _))), (by repeat' (first | (with_reducible assumption) | (with_reducible exact gb_refl _ _) | (with_reducible refine gb_drew ?_) | (with_reducible refine gb_alloc ?_ _) | (with_reducible refine gb_seta ?_ (by first | omega | (simp; done) | (simp; omega)) _)))⟩ hgn
  (try clear hS)
  have hS := hT
  clear hT hcn hgn
  have hS2 := hS
  obtain ⟨hq0, hF⟩ := hS2
  have hgl : g < w1.heap.size := hq0.lt
  have hzw : w.heap.size ≤ w1.heap.size := hF.size
  go_wp2_with fail
  refine (pick_c ((u.size : Int)) (by omega) (g) (k + 2) _ (hide (by repeat' (first | (with_reducible exact hS.1) | (with_reducible refine Cur.drew ?_) | (with_reducible refine Cur.alloc ?_ _) | (with_reducible refine Cur.setc ?_ (by first | omega | (simp; done) | (simp; omega)) _)))) (by omega)).mono ?_
  rintro e w2 ⟨_, rfl, ⟨p, rfl, p0, p1⟩, hcn, hgn⟩
  have hT : Cur w2 (g) (k + 4) ∧ w.grownBy w2 (some g) := (fun W h hgn => ⟨hcn, grown_trans (h.2) hgn⟩ : ∀ W : World, (Cur W (g) (k + 2) ∧ w.grownBy W (some g)) → W.grownBy w2 (some (g)) → (Cur w2 (g) (k + 4) ∧ w.grownBy w2 (some g))) _ ⟨(by repeat' (first | (with_reducible exact hS.1) | (with_reducible refine Cur.drew ?_) | (with_reducible refine Cur.alloc ?_ _) | (with_reducible refine Cur.setc ?_ (by first | omega | (simp; done) | (simp; omega)) _))), (by repeat' (first | (with_reducible assumption) | (with_reducible exact gb_refl _ _) | (with_reducible refine gb_drew ?_) | (with_reducible refine gb_alloc ?_ _) | (with_reducible refine gb_seta ?_ (by first | omega | (simp; done) | (simp; omega)) _)))⟩ hgn
  (try clear hS)
  have hS := hT
  clear hT hcn hgn
  have hS2 := hS
  obtain ⟨hq0, hF⟩ := hS2
  have hgl : g < w2.heap.size := hq0.lt
  have hzw : w.heap.size ≤ w2.heap.size := hF.size
  go_wp2_with fail
  refine (pick_c (3) (by omega) (g) (k + 4) _ (hide (by repeat' (first | (with_reducible exact hS.1) | (with_reducible refine Cur.drew ?_) | (with_reducible refine Cur.alloc ?_ _) | (with_reducible refine Cur.setc ?_ (by first | omega | (simp; done) | (simp; omega)) _)))) (by omega)).mono ?_
  rintro e w3 ⟨_, rfl, ⟨q, rfl, q0, q1⟩, hcn, hgn⟩
  have hT : Cur w3 (g) (k + 6) ∧ w.grownBy w3 (some g) := (fun W h hgn => ⟨hcn, grown_trans (h.2) hgn⟩ : ∀ W : World, (Cur W (g) (k + 4) ∧ w.grownBy W (some g)) → W.grownBy w3 (some (g)) → (Cur w3 (g) (k + 6) ∧ w.grownBy w3 (some g))) _ ⟨(by repeat' (first | (with_reducible exact hS.1) | (with_reducible refine Cur.drew ?_) | (with_reducible refine Cur.alloc ?_ _) | (with_reducible refine Cur.setc ?_ (by first | omega | (simp; done) | (simp; omega)) _))), (by repeat' (first | (with_reducible assumption) | (with_reducible exact gb_refl _ _) | (with_reducible refine gb_drew ?_) | (with_reducible refine gb_alloc ?_ _) | (with_reducible refine gb_seta ?_ (by first | omega | (simp; done) | (simp; omega)) _)))⟩ hgn
  (try clear hS)
  have hS := hT
  clear hT hcn hgn
  have hS2 := hS
  obtain ⟨hq0, hF⟩ := hS2
  have hgl : g < w3.heap.size := hq0.lt
  have hzw : w.heap.size ≤ w3.heap.size := hF.size
  obtain ⟨j, rfl⟩ := Int.eq_ofNat_of_zero_le i0
  obtain ⟨m, rfl⟩ := Int.eq_ofNat_of_zero_le p0
  have hj : j < t.size := by omega
  have hm : m < u.size := by omega
  have hj2 : j ≤ t.size := by omega
  have hj3 : j + 1 ≤ t.size := by omega
  have hj4 : (0 : Int) ≤ (j : Int) + 1 ∧ (j : Int) + 1 ≤ (t.size : Int) := by omega
  have ew : IntKind.i64.wrap ((j : Int) + 1) = ((j + 1 : Nat) : Int) := IntWalk.i64_in _ (by omega)
  obtain ⟨y, hy⟩ : ∃ y, (u.extract m u.size).extract 0 1 = y := ⟨_, rfl⟩
  have hys : y.size ≤ 1 := by rw [← hy]; simp; omega
  have e1 : (t.extract 0 j).size = j := by simp; omega
  have e2 : (t.extract j t.size).size = t.size - j := by simp
  have e3 : (t.extract (j + 1) t.size).size = t.size - (j + 1) := by simp
  have ha1 : ∀ W : World, (Op.stringOp .add (t.extract 0 j) y).run Try.prog W = .ok (.string (t.extract 0 j ++ y)) W := fun W => run_string_add_sum W _ _ (by omega)
  have ha2 : ∀ W : World, (Op.stringOp .add (t.extract 0 j ++ y) (t.extract j t.size)).run Try.prog W = .ok (.string (t.extract 0 j ++ y ++ t.extract j t.size)) W := fun W => run_string_add_sum W _ _ (by rw [ByteArray.size_append]; omega)
  have ha3 : ∀ W : World, (Op.stringOp .add (t.extract 0 j ++ y) (t.extract (j + 1) t.size)).run Try.prog W = .ok (.string (t.extract 0 j ++ y ++ t.extract (j + 1) t.size)) W := fun W => run_string_add_sum W _ _ (by rw [ByteArray.size_append]; omega)
  have ha4 : ∀ W : World, (Op.stringOp .add (t.extract 0 j) (t.extract (j + 1) t.size)).run Try.prog W = .ok (.string (t.extract 0 j ++ t.extract (j + 1) t.size)) W := fun W => run_string_add_sum W _ _ (by omega)
  have hS0 := hS
  clear hS
  by_cases q0 : q = 0
  · subst q0
    go_wp2
    (try rw [hy])
    refine wp_region_det (fun w' => Below w3.heap.size w3 w') (by kernel_rfl) (by kernel_rfl) (by go_grown) ?_
    repeat (first
      | ((refine wpDet_skip (by rfl) ?_); simp only [Act.put, List.setIfInBounds_toArray, List.set_cons_zero, List.set_cons_succ])
      | ((refine wpDet_val (v := ?_) (by rfl) (fun w hS => ?_) ?_); rotate_left; (focus ((try dsimp only at hS); go_simp; (try (with_reducible rfl)); done)); simp only [Act.put, List.setIfInBounds_toArray, List.set_cons_zero, List.set_cons_succ]))
    refine wpDet_nil ?_
    intro wz hS
    have hT : Below w3.heap.size w3 wz := hS
    clear hS
    have hS := hT
    have hB := hT
    go_wp2
    go_returns
    exact ⟨_, rfl, ⟨_, rfl, by (repeat rw [ByteArray.size_append]); omega⟩, (hS0.1.below hS), gb_below hF hS⟩
  have hq0 : (q == 0) = false := by simp [q0]
  by_cases q1 : q = 1
  · subst q1
    go_wp2
    (try rw [hy])
    refine wp_region_det (fun w' => Below w3.heap.size w3 w') (by kernel_rfl) (by kernel_rfl) (by go_grown) ?_
    repeat (first
      | ((refine wpDet_skip (by rfl) ?_); simp only [Act.put, List.setIfInBounds_toArray, List.set_cons_zero, List.set_cons_succ])
      | ((refine wpDet_val (v := ?_) (by rfl) (fun w hS => ?_) ?_); rotate_left; (focus ((try dsimp only at hS); go_simp; (try (with_reducible rfl)); done)); simp only [Act.put, List.setIfInBounds_toArray, List.set_cons_zero, List.set_cons_succ]))
    refine wpDet_nil ?_
    intro wz hS
    have hT : Below w3.heap.size w3 wz := hS
    clear hS
    have hS := hT
    have hB := hT
    go_wp2
    go_returns
    exact ⟨_, rfl, ⟨_, rfl, by (repeat rw [ByteArray.size_append]); omega⟩, (hS0.1.below hS), gb_below hF hS⟩
  have hq1 : (q == 1) = false := by simp [q1]
  go_wp2
  (try rw [hy])
  refine wp_region_det (fun w' => Below w3.heap.size w3 w') (by kernel_rfl) (by kernel_rfl) (by go_grown) ?_
  repeat (first
    | ((refine wpDet_skip (by rfl) ?_); simp only [Act.put, List.setIfInBounds_toArray, List.set_cons_zero, List.set_cons_succ])
    | ((refine wpDet_val (v := ?_) (by rfl) (fun w hS => ?_) ?_); rotate_left; (focus ((try dsimp only at hS); go_simp; (try (with_reducible rfl)); done)); simp only [Act.put, List.setIfInBounds_toArray, List.set_cons_zero, List.set_cons_succ]))
  refine wpDet_nil ?_
  intro wz hS
  have hT : Below w3.heap.size w3 wz := hS
  clear hS
  have hS := hT
  have hB := hT
  go_wp2
  go_returns
  exact ⟨_, rfl, ⟨_, rfl, by (repeat rw [ByteArray.size_append]); omega⟩, (hS0.1.below hS), gb_below hF hS⟩
end Go.Proofs.Ytpcabjjmphcpeaa
