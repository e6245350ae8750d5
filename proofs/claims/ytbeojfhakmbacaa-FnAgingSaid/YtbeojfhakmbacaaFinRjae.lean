/- What is proved here is used by the law below: contracts of functions and plain lemmas (part 5 of 17). Their conditions stand in each. -/
import Derived.Deep.DeepCutAuto
import Derived.Test.YtbeojfhakmbacaaFinRjaa
import Derived.Test.YtbeojfhakmbacaaFinRjac
import Derived.Test.YtbeojfhakmbacaaFinRjad
namespace Go.Proofs.Ytbeojfhakmbacaa
open Go.RowKit
set_option maxHeartbeats 4000000 in
theorem frameOf_c (l : List UInt8) (hb : Hid (isB l)) (h56 : l.length = 56) (w : World) : Calls Try.prog 67 #[.string (str l)] w (Gives w (.tuple #[.agg #[.int .i64 (if frK l = true then fKd l else 0), .int .i64 (if frK l = true then fAd l else 0), .int .i64 (if frK l = true then fDt l else 0)], .bool (frK l)])) := by
  have hsz := str_size l
  have hk0 : ∀ W, Calls Try.prog 107 #[.string ((str l).extract 0 4)] W (fun r' w' => r' = .returned (.int .i64 (fKd l)) ∧ W = w') := fun W => by
    have h := numberOf_c ((str l).extract 0 4) (hide (by rw [ext_str, str_list]; exact isB_drop (isB_take hb.out _) _)) (by rw [ext_str, str_size]; simp; omega) W
    rw [ext_str, str_list] at h
    rw [ext_str]
    have e : (l.take 4).drop 0 = l.take 4 := by first | rfl | (rw [List.drop_take])
    rw [e] at h
    rw [e]
    exact h
  have hk1 : ∀ W, Calls Try.prog 107 #[.string ((str l).extract 4 20)] W (fun r' w' => r' = .returned (.int .i64 (fAd l)) ∧ W = w') := fun W => by
    have h := numberOf_c ((str l).extract 4 20) (hide (by rw [ext_str, str_list]; exact isB_drop (isB_take hb.out _) _)) (by rw [ext_str, str_size]; simp; omega) W
    rw [ext_str, str_list] at h
    rw [ext_str]
    have e : (l.take 20).drop 4 = (l.drop 4).take 16 := by first | rfl | (rw [List.drop_take])
    rw [e] at h
    rw [e]
    exact h
  have hk2 : ∀ W, Calls Try.prog 107 #[.string ((str l).extract 20 44)] W (fun r' w' => r' = .returned (.int .i64 (fDt l)) ∧ W = w') := fun W => by
    have h := numberOf_c ((str l).extract 20 44) (hide (by rw [ext_str, str_list]; exact isB_drop (isB_take hb.out _) _)) (by rw [ext_str, str_size]; simp; omega) W
    rw [ext_str, str_list] at h
    rw [ext_str]
    have e : (l.take 44).drop 20 = (l.drop 20).take 24 := by first | rfl | (rw [List.drop_take])
    rw [e] at h
    rw [e]
    exact h
  have hgd := validFrame_c (fKd l) (fAd l) (fDt l)
  rw [show vFr (fKd l) (fAd l) (fDt l) = frK l from rfl] at hgd
  obtain ⟨K, hK⟩ : ∃ q, fKd l = q := ⟨_, rfl⟩
  obtain ⟨A, hA⟩ : ∃ q, fAd l = q := ⟨_, rfl⟩
  obtain ⟨D, hD⟩ : ∃ q, fDt l = q := ⟨_, rfl⟩
  obtain ⟨V, hV⟩ : ∃ q, frK l = q := ⟨_, rfl⟩
  rw [hK] at hk0 hgd ⊢
  rw [hA] at hk1 hgd ⊢
  rw [hD] at hk2 hgd ⊢
  rw [hV] at hgd ⊢
  clear hK hA hD hV
  obtain ⟨s, hs⟩ : ∃ q, str l = q := ⟨_, rfl⟩
  rw [hs] at hsz hk0 hk1 hk2 ⊢
  rw [h56] at hsz
  clear hs
  go_enter Try.func67, Try.ntmps67
  have hS : Below w.heap.size w w := Below.refl _ _
  have hzw : w.heap.size ≤ w.heap.size := Nat.le_refl _
  go_upto_region 1 with fail
  generalize hgw1 : World.alloc w _ = w1
  have hb : Below w.heap.size w w1 := by rw [← hgw1]; go_grown
  have hT : (w.heap.size < w1.heap.size ∧ ∀ i, w1.frozen? ⟨w.heap.size, i, none⟩ = false) ∧ w1.cell? ⟨w.heap.size, 0, none⟩ = some (.int .i64 (0)) ∧ w1.cell? ⟨w.heap.size, 1, none⟩ = some (.int .i64 (0)) ∧ w1.cell? ⟨w.heap.size, 2, none⟩ = some (.int .i64 (0)) ∧ Below w.heap.size w w1 := ⟨⟨by rw [← hgw1]; simp [go_sem], by rw [← hgw1]; simp [go_sem]⟩, by rw [← hgw1]; simp [go_sem], by rw [← hgw1]; simp [go_sem], by rw [← hgw1]; simp [go_sem], below_via (hS) hb⟩
  clear hS hb hgw1
  have hS := hT
  clear hT
  have hS2 := hS
  obtain ⟨⟨f0, fr0⟩, q1, q2, q3, hF⟩ := hS2
  have hzw : w.heap.size ≤ w1.heap.size := hF.size
  have hB := hF
  have hz1 : w.heap.size < w1.heap.size := World.block_lt_of_cell? w1 _ q1
  go_cut [4] (fun s wx => ∃ T : Nat, s = .pointer (some ⟨T, 0, none⟩) ∧ w.heap.size < T ∧ ((w.heap.size < wx.heap.size ∧ ∀ i, wx.frozen? ⟨w.heap.size, i, none⟩ = false) ∧ wx.cell? ⟨w.heap.size, 0, none⟩ = some (.int .i64 (0)) ∧ wx.cell? ⟨w.heap.size, 1, none⟩ = some (.int .i64 (0)) ∧ wx.cell? ⟨w.heap.size, 2, none⟩ = some (.int .i64 (0)) ∧ (T < wx.heap.size ∧ ∀ i, wx.frozen? ⟨T, i, none⟩ = false) ∧ wx.cell? ⟨T, 0, none⟩ = some (.int .i64 K) ∧ wx.cell? ⟨T, 1, none⟩ = some (.int .i64 A) ∧ wx.cell? ⟨T, 2, none⟩ = some (.int .i64 D) ∧ Below w.heap.size w wx))
  case first =>
    refine wp_region_all (by kernel_rfl) ?_
    obtain ⟨w2, hwq⟩ : ∃ W, World.drew w1 = W := ⟨_, rfl⟩
    have hb : Below w1.heap.size w1 w2 := by rw [← hwq]; go_grown
    rw [hwq]
    have hT : (w.heap.size < w2.heap.size ∧ ∀ i, w2.frozen? ⟨w.heap.size, i, none⟩ = false) ∧ w2.cell? ⟨w.heap.size, 0, none⟩ = some (.int .i64 (0)) ∧ w2.cell? ⟨w.heap.size, 1, none⟩ = some (.int .i64 (0)) ∧ w2.cell? ⟨w.heap.size, 2, none⟩ = some (.int .i64 (0)) ∧ Below w.heap.size w w2 := ⟨keep_fre hb (hS.1), keep_cell hb (hS.2.1), keep_cell hb (hS.2.2.1), keep_cell hb (hS.2.2.2.1), below_via (hS.2.2.2.2) hb⟩
    clear hS hb hwq
    have hS := hT
    clear hT
    have hS2 := hS
    obtain ⟨⟨f0, fr0⟩, q1, q2, q3, hF⟩ := hS2
    have hzw : w.heap.size ≤ w2.heap.size := hF.size
    have hB := hF
    have hz1 : w.heap.size < w2.heap.size := World.block_lt_of_cell? w2 _ q1
    refine all_split 10 2 (by decide) ?_ ?_
    · refine all_seq_core [0, 1, 3, 4, 6, 7, 10, 2, 5, 8, 9, 11] (fun W => Below w.heap.size w W) (addE_core 10 2 _) (by kernel_rfl) hS.2.2.2.2 ?_
      simp only [byNum, List.getElem?_cons_zero, List.getElem?_cons_succ]
      repeat (first
        | ((refine seq_skip (by rfl) (by rfl) ?_); simp only [Act.put, zp1, zp2, zp3])
        | ((refine seq_val (v := ?_) (by rfl) (by rfl) (fun w hS => ?_) ?_); rotate_left; (focus ((try dsimp only at hS); go_simp; (try (with_reducible rfl)); done)); simp only [Act.put, zp1, zp2, zp3]))
      refine seq_deed (v := ?_) (w' := ?_) (by rfl) (by rfl) ?_ ?_
      rotate_left
      rotate_left
      focus (go_simp; (constructor <;> (with_reducible rfl)); done)
      generalize hgw3 : World.alloc w2 _ = w3
      have hb : Below w2.heap.size w2 w3 := by rw [← hgw3]; go_grown
      have hT : (w.heap.size < w3.heap.size ∧ ∀ i, w3.frozen? ⟨w.heap.size, i, none⟩ = false) ∧ w3.cell? ⟨w.heap.size, 0, none⟩ = some (.int .i64 (0)) ∧ w3.cell? ⟨w.heap.size, 1, none⟩ = some (.int .i64 (0)) ∧ w3.cell? ⟨w.heap.size, 2, none⟩ = some (.int .i64 (0)) ∧ (w2.heap.size < w3.heap.size ∧ ∀ i, w3.frozen? ⟨w2.heap.size, i, none⟩ = false) ∧ w3.cell? ⟨w2.heap.size, 0, none⟩ = some (.int .i64 (0)) ∧ w3.cell? ⟨w2.heap.size, 1, none⟩ = some (.int .i64 (0)) ∧ w3.cell? ⟨w2.heap.size, 2, none⟩ = some (.int .i64 (0)) ∧ Below w.heap.size w w3 := ⟨keep_fre hb (hS.1), keep_cell hb (hS.2.1), keep_cell hb (hS.2.2.1), keep_cell hb (hS.2.2.2.1), ⟨by rw [← hgw3]; simp [go_sem], by rw [← hgw3]; simp [go_sem]⟩, by rw [← hgw3]; simp [go_sem], by rw [← hgw3]; simp [go_sem], by rw [← hgw3]; simp [go_sem], below_via (hS.2.2.2.2) hb⟩
      clear hS hb hgw3
      have hS := hT
      clear hT
      have hS2 := hS
      obtain ⟨⟨f0, fr0⟩, q1, q2, q3, ⟨f4, fr4⟩, q5, q6, q7, hF⟩ := hS2
      have hzw : w.heap.size ≤ w3.heap.size := hF.size
      have hB := hF
      have hz1 : w.heap.size < w3.heap.size := World.block_lt_of_cell? w3 _ q1
      have hz2 : w2.heap.size < w3.heap.size := World.block_lt_of_cell? w3 _ q5
      refine ⟨(fun W => Below w.heap.size w W), hS.2.2.2.2.2.2.2.2, (fun W h => h), ?_⟩
      simp only [Act.put, zp1, zp2, zp3]
      repeat (first
        | ((refine seq_skip (by rfl) (by rfl) ?_); simp only [Act.put, zp1, zp2, zp3])
        | ((refine seq_val (v := ?_) (by rfl) (by rfl) (fun w hS => ?_) ?_); rotate_left; (focus ((try dsimp only at hS); go_simp; (try (with_reducible rfl)); done)); simp only [Act.put, zp1, zp2, zp3]))
      refine seq_call (f := ?_) (args := ?_) (by rfl) (by rfl) ?_ ?_
      rotate_left
      rotate_left
      focus (go_simp; (constructor <;> (with_reducible rfl)); done)
      refine (hk0 _).mono ?_
      rintro e wz ⟨rfl, rfl⟩
      refine ⟨_, rfl, (fun W => Below w.heap.size w W), hS.2.2.2.2.2.2.2.2, (fun W h => h), ?_⟩
      simp only [Act.put, zp1, zp2, zp3]
      repeat (first
        | ((refine seq_skip (by rfl) (by rfl) ?_); simp only [Act.put, zp1, zp2, zp3])
        | ((refine seq_val (v := ?_) (by rfl) (by rfl) (fun w hS => ?_) ?_); rotate_left; (focus ((try dsimp only at hS); go_simp; (try (with_reducible rfl)); done)); simp only [Act.put, zp1, zp2, zp3]))
      refine seq_call (f := ?_) (args := ?_) (by rfl) (by rfl) ?_ ?_
      rotate_left
      rotate_left
      focus (go_simp; (constructor <;> (with_reducible rfl)); done)
      refine (hk1 _).mono ?_
      rintro e wz ⟨rfl, rfl⟩
      refine ⟨_, rfl, (fun W => Below w.heap.size w W), hS.2.2.2.2.2.2.2.2, (fun W h => h), ?_⟩
      simp only [Act.put, zp1, zp2, zp3]
      repeat (first
        | ((refine seq_skip (by rfl) (by rfl) ?_); simp only [Act.put, zp1, zp2, zp3])
        | ((refine seq_val (v := ?_) (by rfl) (by rfl) (fun w hS => ?_) ?_); rotate_left; (focus ((try dsimp only at hS); go_simp; (try (with_reducible rfl)); done)); simp only [Act.put, zp1, zp2, zp3]))
      refine seq_call (f := ?_) (args := ?_) (by rfl) (by rfl) ?_ ?_
      rotate_left
      rotate_left
      focus (go_simp; (constructor <;> (with_reducible rfl)); done)
      refine (hk2 _).mono ?_
      rintro e wz ⟨rfl, rfl⟩
      refine ⟨_, rfl, (fun W => Below w.heap.size w W), hS.2.2.2.2.2.2.2.2, (fun W h => h), ?_⟩
      simp only [Act.put, zp1, zp2, zp3]
      repeat (first
        | ((refine seq_skip (by rfl) (by rfl) ?_); simp only [Act.put, zp1, zp2, zp3])
        | ((refine seq_val (v := ?_) (by rfl) (by rfl) (fun w hS => ?_) ?_); rotate_left; (focus ((try dsimp only at hS); go_simp; (try (with_reducible rfl)); done)); simp only [Act.put, zp1, zp2, zp3]))
      obtain ⟨w4, hw4⟩ : ∃ W, W = ((w3.setCell ⟨w2.heap.size, 0, none⟩ (.int .i64 K)).setCell ⟨w2.heap.size, 1, none⟩ (.int .i64 A)).setCell ⟨w2.heap.size, 2, none⟩ (.int .i64 D) := ⟨_, rfl⟩
      obtain ⟨dd0, dd1, dd2, dd3, dd4⟩ := box3_sets q5 q6 q7 (.int .i64 K) (.int .i64 A) (.int .i64 D)
      refine seq_store (w' := w4) (by rfl) (by rfl) (by rw [hw4]; go_simp; (try (with_reducible rfl)); done) ?_
      have hT : (w.heap.size < w4.heap.size ∧ ∀ i, w4.frozen? ⟨w.heap.size, i, none⟩ = false) ∧ w4.cell? ⟨w.heap.size, 0, none⟩ = some (.int .i64 (0)) ∧ w4.cell? ⟨w.heap.size, 1, none⟩ = some (.int .i64 (0)) ∧ w4.cell? ⟨w.heap.size, 2, none⟩ = some (.int .i64 (0)) ∧ (w2.heap.size < w4.heap.size ∧ ∀ i, w4.frozen? ⟨w2.heap.size, i, none⟩ = false) ∧ w4.cell? ⟨w2.heap.size, 0, none⟩ = some (.int .i64 K) ∧ w4.cell? ⟨w2.heap.size, 1, none⟩ = some (.int .i64 A) ∧ w4.cell? ⟨w2.heap.size, 2, none⟩ = some (.int .i64 D) ∧ Below w.heap.size w w4 := by rw [hw4]; exact ⟨⟨by simpa using f0, fun i => by simpa using fr0 i⟩, (box3_other (by first | omega | (simp; done) | (simp; omega)) (.int .i64 K) (.int .i64 A) (.int .i64 D) 0).trans q1, (box3_other (by first | omega | (simp; done) | (simp; omega)) (.int .i64 K) (.int .i64 A) (.int .i64 D) 1).trans q2, (box3_other (by first | omega | (simp; done) | (simp; omega)) (.int .i64 K) (.int .i64 A) (.int .i64 D) 2).trans q3, ⟨by simpa using f4, fun i => by simpa using fr4 i⟩, dd2, dd3, dd4, by go_grown⟩
      (try clear hS)
      have hS := hT
      clear hT dd0 dd1 dd2 dd3 dd4 hw4
      have hS2 := hS
      obtain ⟨⟨f0, fr0⟩, q1, q2, q3, ⟨f4, fr4⟩, q5, q6, q7, hF⟩ := hS2
      have hzw : w.heap.size ≤ w4.heap.size := hF.size
      have hB := hF
      have hz1 : w.heap.size < w4.heap.size := World.block_lt_of_cell? w4 _ q1
      have hz2 : w2.heap.size < w4.heap.size := World.block_lt_of_cell? w4 _ q5
      refine ⟨(fun W => Below w.heap.size w W), hS.2.2.2.2.2.2.2.2, (fun W h => h), ?_⟩
      simp only [Act.put, zp1, zp2, zp3]
      repeat (first
        | ((refine seq_skip (by rfl) (by rfl) ?_); simp only [Act.put, zp1, zp2, zp3])
        | ((refine seq_val (v := ?_) (by rfl) (by rfl) (fun w hS => ?_) ?_); rotate_left; (focus ((try dsimp only at hS); go_simp; (try (with_reducible rfl)); done)); simp only [Act.put, zp1, zp2, zp3]))
      refine seq_nil ?_
      go_wp2_with fail
      go_meet
      case rel => exact ⟨w2.heap.size, rfl, by omega, hS.1, hS.2.1, hS.2.2.1, hS.2.2.2.1, hS.2.2.2.2.1, hS.2.2.2.2.2.1, hS.2.2.2.2.2.2.1, hS.2.2.2.2.2.2.2.1, hS.2.2.2.2.2.2.2.2⟩
    · refine all_split 10 5 (by decide) ?_ ?_
      · refine all_seq_core [0, 1, 3, 4, 6, 7, 2, 10, 5, 8, 9, 11] (fun W => Below w.heap.size w W) (Core.trans (addE_core 2 10 _) (addE_core 10 5 _)) (by kernel_rfl) hS.2.2.2.2 ?_
        simp only [byNum, List.getElem?_cons_zero, List.getElem?_cons_succ]
        repeat (first
          | ((refine seq_skip (by rfl) (by rfl) ?_); simp only [Act.put, zp1, zp2, zp3])
          | ((refine seq_val (v := ?_) (by rfl) (by rfl) (fun w hS => ?_) ?_); rotate_left; (focus ((try dsimp only at hS); go_simp; (try (with_reducible rfl)); done)); simp only [Act.put, zp1, zp2, zp3]))
        refine seq_call (f := ?_) (args := ?_) (by rfl) (by rfl) ?_ ?_
        rotate_left
        rotate_left
        focus (go_simp; (constructor <;> (with_reducible rfl)); done)
        refine (hk0 _).mono ?_
        rintro e wz ⟨rfl, rfl⟩
        refine ⟨_, rfl, (fun W => Below w.heap.size w W), hS.2.2.2.2, (fun W h => h), ?_⟩
        simp only [Act.put, zp1, zp2, zp3]
        repeat (first
          | ((refine seq_skip (by rfl) (by rfl) ?_); simp only [Act.put, zp1, zp2, zp3])
          | ((refine seq_val (v := ?_) (by rfl) (by rfl) (fun w hS => ?_) ?_); rotate_left; (focus ((try dsimp only at hS); go_simp; (try (with_reducible rfl)); done)); simp only [Act.put, zp1, zp2, zp3]))
        refine seq_deed (v := ?_) (w' := ?_) (by rfl) (by rfl) ?_ ?_
        rotate_left
        rotate_left
        focus (go_simp; (constructor <;> (with_reducible rfl)); done)
        generalize hgw3 : World.alloc w2 _ = w3
        have hb : Below w2.heap.size w2 w3 := by rw [← hgw3]; go_grown
        have hT : (w.heap.size < w3.heap.size ∧ ∀ i, w3.frozen? ⟨w.heap.size, i, none⟩ = false) ∧ w3.cell? ⟨w.heap.size, 0, none⟩ = some (.int .i64 (0)) ∧ w3.cell? ⟨w.heap.size, 1, none⟩ = some (.int .i64 (0)) ∧ w3.cell? ⟨w.heap.size, 2, none⟩ = some (.int .i64 (0)) ∧ (w2.heap.size < w3.heap.size ∧ ∀ i, w3.frozen? ⟨w2.heap.size, i, none⟩ = false) ∧ w3.cell? ⟨w2.heap.size, 0, none⟩ = some (.int .i64 (0)) ∧ w3.cell? ⟨w2.heap.size, 1, none⟩ = some (.int .i64 (0)) ∧ w3.cell? ⟨w2.heap.size, 2, none⟩ = some (.int .i64 (0)) ∧ Below w.heap.size w w3 := ⟨keep_fre hb (hS.1), keep_cell hb (hS.2.1), keep_cell hb (hS.2.2.1), keep_cell hb (hS.2.2.2.1), ⟨by rw [← hgw3]; simp [go_sem], by rw [← hgw3]; simp [go_sem]⟩, by rw [← hgw3]; simp [go_sem], by rw [← hgw3]; simp [go_sem], by rw [← hgw3]; simp [go_sem], below_via (hS.2.2.2.2) hb⟩
        clear hS hb hgw3
        have hS := hT
        clear hT
        have hS2 := hS
        obtain ⟨⟨f0, fr0⟩, q1, q2, q3, ⟨f4, fr4⟩, q5, q6, q7, hF⟩ := hS2
        have hzw : w.heap.size ≤ w3.heap.size := hF.size
        have hB := hF
        have hz1 : w.heap.size < w3.heap.size := World.block_lt_of_cell? w3 _ q1
        have hz2 : w2.heap.size < w3.heap.size := World.block_lt_of_cell? w3 _ q5
        refine ⟨(fun W => Below w.heap.size w W), hS.2.2.2.2.2.2.2.2, (fun W h => h), ?_⟩
        simp only [Act.put, zp1, zp2, zp3]
        repeat (first
          | ((refine seq_skip (by rfl) (by rfl) ?_); simp only [Act.put, zp1, zp2, zp3])
          | ((refine seq_val (v := ?_) (by rfl) (by rfl) (fun w hS => ?_) ?_); rotate_left; (focus ((try dsimp only at hS); go_simp; (try (with_reducible rfl)); done)); simp only [Act.put, zp1, zp2, zp3]))
        refine seq_call (f := ?_) (args := ?_) (by rfl) (by rfl) ?_ ?_
        rotate_left
        rotate_left
        focus (go_simp; (constructor <;> (with_reducible rfl)); done)
        refine (hk1 _).mono ?_
        rintro e wz ⟨rfl, rfl⟩
        refine ⟨_, rfl, (fun W => Below w.heap.size w W), hS.2.2.2.2.2.2.2.2, (fun W h => h), ?_⟩
        simp only [Act.put, zp1, zp2, zp3]
        repeat (first
          | ((refine seq_skip (by rfl) (by rfl) ?_); simp only [Act.put, zp1, zp2, zp3])
          | ((refine seq_val (v := ?_) (by rfl) (by rfl) (fun w hS => ?_) ?_); rotate_left; (focus ((try dsimp only at hS); go_simp; (try (with_reducible rfl)); done)); simp only [Act.put, zp1, zp2, zp3]))
        refine seq_call (f := ?_) (args := ?_) (by rfl) (by rfl) ?_ ?_
        rotate_left
        rotate_left
        focus (go_simp; (constructor <;> (with_reducible rfl)); done)
        refine (hk2 _).mono ?_
        rintro e wz ⟨rfl, rfl⟩
        refine ⟨_, rfl, (fun W => Below w.heap.size w W), hS.2.2.2.2.2.2.2.2, (fun W h => h), ?_⟩
        simp only [Act.put, zp1, zp2, zp3]
        repeat (first
          | ((refine seq_skip (by rfl) (by rfl) ?_); simp only [Act.put, zp1, zp2, zp3])
          | ((refine seq_val (v := ?_) (by rfl) (by rfl) (fun w hS => ?_) ?_); rotate_left; (focus ((try dsimp only at hS); go_simp; (try (with_reducible rfl)); done)); simp only [Act.put, zp1, zp2, zp3]))
        obtain ⟨w4, hw4⟩ : ∃ W, W = ((w3.setCell ⟨w2.heap.size, 0, none⟩ (.int .i64 K)).setCell ⟨w2.heap.size, 1, none⟩ (.int .i64 A)).setCell ⟨w2.heap.size, 2, none⟩ (.int .i64 D) := ⟨_, rfl⟩
        obtain ⟨dd0, dd1, dd2, dd3, dd4⟩ := box3_sets q5 q6 q7 (.int .i64 K) (.int .i64 A) (.int .i64 D)
        refine seq_store (w' := w4) (by rfl) (by rfl) (by rw [hw4]; go_simp; (try (with_reducible rfl)); done) ?_
        have hT : (w.heap.size < w4.heap.size ∧ ∀ i, w4.frozen? ⟨w.heap.size, i, none⟩ = false) ∧ w4.cell? ⟨w.heap.size, 0, none⟩ = some (.int .i64 (0)) ∧ w4.cell? ⟨w.heap.size, 1, none⟩ = some (.int .i64 (0)) ∧ w4.cell? ⟨w.heap.size, 2, none⟩ = some (.int .i64 (0)) ∧ (w2.heap.size < w4.heap.size ∧ ∀ i, w4.frozen? ⟨w2.heap.size, i, none⟩ = false) ∧ w4.cell? ⟨w2.heap.size, 0, none⟩ = some (.int .i64 K) ∧ w4.cell? ⟨w2.heap.size, 1, none⟩ = some (.int .i64 A) ∧ w4.cell? ⟨w2.heap.size, 2, none⟩ = some (.int .i64 D) ∧ Below w.heap.size w w4 := by rw [hw4]; exact ⟨⟨by simpa using f0, fun i => by simpa using fr0 i⟩, (box3_other (by first | omega | (simp; done) | (simp; omega)) (.int .i64 K) (.int .i64 A) (.int .i64 D) 0).trans q1, (box3_other (by first | omega | (simp; done) | (simp; omega)) (.int .i64 K) (.int .i64 A) (.int .i64 D) 1).trans q2, (box3_other (by first | omega | (simp; done) | (simp; omega)) (.int .i64 K) (.int .i64 A) (.int .i64 D) 2).trans q3, ⟨by simpa using f4, fun i => by simpa using fr4 i⟩, dd2, dd3, dd4, by go_grown⟩
        (try clear hS)
        have hS := hT
        clear hT dd0 dd1 dd2 dd3 dd4 hw4
        have hS2 := hS
        obtain ⟨⟨f0, fr0⟩, q1, q2, q3, ⟨f4, fr4⟩, q5, q6, q7, hF⟩ := hS2
        have hzw : w.heap.size ≤ w4.heap.size := hF.size
        have hB := hF
        have hz1 : w.heap.size < w4.heap.size := World.block_lt_of_cell? w4 _ q1
        have hz2 : w2.heap.size < w4.heap.size := World.block_lt_of_cell? w4 _ q5
        refine ⟨(fun W => Below w.heap.size w W), hS.2.2.2.2.2.2.2.2, (fun W h => h), ?_⟩
        simp only [Act.put, zp1, zp2, zp3]
        repeat (first
          | ((refine seq_skip (by rfl) (by rfl) ?_); simp only [Act.put, zp1, zp2, zp3])
          | ((refine seq_val (v := ?_) (by rfl) (by rfl) (fun w hS => ?_) ?_); rotate_left; (focus ((try dsimp only at hS); go_simp; (try (with_reducible rfl)); done)); simp only [Act.put, zp1, zp2, zp3]))
        refine seq_nil ?_
        go_wp2_with fail
        go_meet
        case rel => exact ⟨w2.heap.size, rfl, by omega, hS.1, hS.2.1, hS.2.2.1, hS.2.2.2.1, hS.2.2.2.2.1, hS.2.2.2.2.2.1, hS.2.2.2.2.2.2.1, hS.2.2.2.2.2.2.2.1, hS.2.2.2.2.2.2.2.2⟩
      · refine all_split 10 8 (by decide) ?_ ?_
        · refine all_seq_core [0, 1, 3, 4, 6, 7, 2, 5, 10, 8, 9, 11] (fun W => Below w.heap.size w W) (Core.trans (Core.trans (addE_core 2 10 _) (addE_core 5 10 _)) (addE_core 10 8 _)) (by kernel_rfl) hS.2.2.2.2 ?_
          simp only [byNum, List.getElem?_cons_zero, List.getElem?_cons_succ]
          repeat (first
            | ((refine seq_skip (by rfl) (by rfl) ?_); simp only [Act.put, zp1, zp2, zp3])
            | ((refine seq_val (v := ?_) (by rfl) (by rfl) (fun w hS => ?_) ?_); rotate_left; (focus ((try dsimp only at hS); go_simp; (try (with_reducible rfl)); done)); simp only [Act.put, zp1, zp2, zp3]))
          refine seq_call (f := ?_) (args := ?_) (by rfl) (by rfl) ?_ ?_
          rotate_left
          rotate_left
          focus (go_simp; (constructor <;> (with_reducible rfl)); done)
          refine (hk0 _).mono ?_
          rintro e wz ⟨rfl, rfl⟩
          refine ⟨_, rfl, (fun W => Below w.heap.size w W), hS.2.2.2.2, (fun W h => h), ?_⟩
          simp only [Act.put, zp1, zp2, zp3]
          repeat (first
            | ((refine seq_skip (by rfl) (by rfl) ?_); simp only [Act.put, zp1, zp2, zp3])
            | ((refine seq_val (v := ?_) (by rfl) (by rfl) (fun w hS => ?_) ?_); rotate_left; (focus ((try dsimp only at hS); go_simp; (try (with_reducible rfl)); done)); simp only [Act.put, zp1, zp2, zp3]))
          refine seq_call (f := ?_) (args := ?_) (by rfl) (by rfl) ?_ ?_
          rotate_left
          rotate_left
          focus (go_simp; (constructor <;> (with_reducible rfl)); done)
          refine (hk1 _).mono ?_
          rintro e wz ⟨rfl, rfl⟩
          refine ⟨_, rfl, (fun W => Below w.heap.size w W), hS.2.2.2.2, (fun W h => h), ?_⟩
          simp only [Act.put, zp1, zp2, zp3]
          repeat (first
            | ((refine seq_skip (by rfl) (by rfl) ?_); simp only [Act.put, zp1, zp2, zp3])
            | ((refine seq_val (v := ?_) (by rfl) (by rfl) (fun w hS => ?_) ?_); rotate_left; (focus ((try dsimp only at hS); go_simp; (try (with_reducible rfl)); done)); simp only [Act.put, zp1, zp2, zp3]))
          refine seq_deed (v := ?_) (w' := ?_) (by rfl) (by rfl) ?_ ?_
          rotate_left
          rotate_left
          focus (go_simp; (constructor <;> (with_reducible rfl)); done)
          generalize hgw3 : World.alloc w2 _ = w3
          have hb : Below w2.heap.size w2 w3 := by rw [← hgw3]; go_grown
          have hT : (w.heap.size < w3.heap.size ∧ ∀ i, w3.frozen? ⟨w.heap.size, i, none⟩ = false) ∧ w3.cell? ⟨w.heap.size, 0, none⟩ = some (.int .i64 (0)) ∧ w3.cell? ⟨w.heap.size, 1, none⟩ = some (.int .i64 (0)) ∧ w3.cell? ⟨w.heap.size, 2, none⟩ = some (.int .i64 (0)) ∧ (w2.heap.size < w3.heap.size ∧ ∀ i, w3.frozen? ⟨w2.heap.size, i, none⟩ = false) ∧ w3.cell? ⟨w2.heap.size, 0, none⟩ = some (.int .i64 (0)) ∧ w3.cell? ⟨w2.heap.size, 1, none⟩ = some (.int .i64 (0)) ∧ w3.cell? ⟨w2.heap.size, 2, none⟩ = some (.int .i64 (0)) ∧ Below w.heap.size w w3 := ⟨keep_fre hb (hS.1), keep_cell hb (hS.2.1), keep_cell hb (hS.2.2.1), keep_cell hb (hS.2.2.2.1), ⟨by rw [← hgw3]; simp [go_sem], by rw [← hgw3]; simp [go_sem]⟩, by rw [← hgw3]; simp [go_sem], by rw [← hgw3]; simp [go_sem], by rw [← hgw3]; simp [go_sem], below_via (hS.2.2.2.2) hb⟩
          clear hS hb hgw3
          have hS := hT
          clear hT
          have hS2 := hS
          obtain ⟨⟨f0, fr0⟩, q1, q2, q3, ⟨f4, fr4⟩, q5, q6, q7, hF⟩ := hS2
          have hzw : w.heap.size ≤ w3.heap.size := hF.size
          have hB := hF
          have hz1 : w.heap.size < w3.heap.size := World.block_lt_of_cell? w3 _ q1
          have hz2 : w2.heap.size < w3.heap.size := World.block_lt_of_cell? w3 _ q5
          refine ⟨(fun W => Below w.heap.size w W), hS.2.2.2.2.2.2.2.2, (fun W h => h), ?_⟩
          simp only [Act.put, zp1, zp2, zp3]
          repeat (first
            | ((refine seq_skip (by rfl) (by rfl) ?_); simp only [Act.put, zp1, zp2, zp3])
            | ((refine seq_val (v := ?_) (by rfl) (by rfl) (fun w hS => ?_) ?_); rotate_left; (focus ((try dsimp only at hS); go_simp; (try (with_reducible rfl)); done)); simp only [Act.put, zp1, zp2, zp3]))
          refine seq_call (f := ?_) (args := ?_) (by rfl) (by rfl) ?_ ?_
          rotate_left
          rotate_left
          focus (go_simp; (constructor <;> (with_reducible rfl)); done)
          refine (hk2 _).mono ?_
          rintro e wz ⟨rfl, rfl⟩
          refine ⟨_, rfl, (fun W => Below w.heap.size w W), hS.2.2.2.2.2.2.2.2, (fun W h => h), ?_⟩
          simp only [Act.put, zp1, zp2, zp3]
          repeat (first
            | ((refine seq_skip (by rfl) (by rfl) ?_); simp only [Act.put, zp1, zp2, zp3])
            | ((refine seq_val (v := ?_) (by rfl) (by rfl) (fun w hS => ?_) ?_); rotate_left; (focus ((try dsimp only at hS); go_simp; (try (with_reducible rfl)); done)); simp only [Act.put, zp1, zp2, zp3]))
          obtain ⟨w4, hw4⟩ : ∃ W, W = ((w3.setCell ⟨w2.heap.size, 0, none⟩ (.int .i64 K)).setCell ⟨w2.heap.size, 1, none⟩ (.int .i64 A)).setCell ⟨w2.heap.size, 2, none⟩ (.int .i64 D) := ⟨_, rfl⟩
          obtain ⟨dd0, dd1, dd2, dd3, dd4⟩ := box3_sets q5 q6 q7 (.int .i64 K) (.int .i64 A) (.int .i64 D)
          refine seq_store (w' := w4) (by rfl) (by rfl) (by rw [hw4]; go_simp; (try (with_reducible rfl)); done) ?_
          have hT : (w.heap.size < w4.heap.size ∧ ∀ i, w4.frozen? ⟨w.heap.size, i, none⟩ = false) ∧ w4.cell? ⟨w.heap.size, 0, none⟩ = some (.int .i64 (0)) ∧ w4.cell? ⟨w.heap.size, 1, none⟩ = some (.int .i64 (0)) ∧ w4.cell? ⟨w.heap.size, 2, none⟩ = some (.int .i64 (0)) ∧ (w2.heap.size < w4.heap.size ∧ ∀ i, w4.frozen? ⟨w2.heap.size, i, none⟩ = false) ∧ w4.cell? ⟨w2.heap.size, 0, none⟩ = some (.int .i64 K) ∧ w4.cell? ⟨w2.heap.size, 1, none⟩ = some (.int .i64 A) ∧ w4.cell? ⟨w2.heap.size, 2, none⟩ = some (.int .i64 D) ∧ Below w.heap.size w w4 := by rw [hw4]; exact ⟨⟨by simpa using f0, fun i => by simpa using fr0 i⟩, (box3_other (by first | omega | (simp; done) | (simp; omega)) (.int .i64 K) (.int .i64 A) (.int .i64 D) 0).trans q1, (box3_other (by first | omega | (simp; done) | (simp; omega)) (.int .i64 K) (.int .i64 A) (.int .i64 D) 1).trans q2, (box3_other (by first | omega | (simp; done) | (simp; omega)) (.int .i64 K) (.int .i64 A) (.int .i64 D) 2).trans q3, ⟨by simpa using f4, fun i => by simpa using fr4 i⟩, dd2, dd3, dd4, by go_grown⟩
          (try clear hS)
          have hS := hT
          clear hT dd0 dd1 dd2 dd3 dd4 hw4
          have hS2 := hS
          obtain ⟨⟨f0, fr0⟩, q1, q2, q3, ⟨f4, fr4⟩, q5, q6, q7, hF⟩ := hS2
          have hzw : w.heap.size ≤ w4.heap.size := hF.size
          have hB := hF
          have hz1 : w.heap.size < w4.heap.size := World.block_lt_of_cell? w4 _ q1
          have hz2 : w2.heap.size < w4.heap.size := World.block_lt_of_cell? w4 _ q5
          refine ⟨(fun W => Below w.heap.size w W), hS.2.2.2.2.2.2.2.2, (fun W h => h), ?_⟩
          simp only [Act.put, zp1, zp2, zp3]
          repeat (first
            | ((refine seq_skip (by rfl) (by rfl) ?_); simp only [Act.put, zp1, zp2, zp3])
            | ((refine seq_val (v := ?_) (by rfl) (by rfl) (fun w hS => ?_) ?_); rotate_left; (focus ((try dsimp only at hS); go_simp; (try (with_reducible rfl)); done)); simp only [Act.put, zp1, zp2, zp3]))
          refine seq_nil ?_
          go_wp2_with fail
          go_meet
          case rel => exact ⟨w2.heap.size, rfl, by omega, hS.1, hS.2.1, hS.2.2.1, hS.2.2.2.1, hS.2.2.2.2.1, hS.2.2.2.2.2.1, hS.2.2.2.2.2.2.1, hS.2.2.2.2.2.2.2.1, hS.2.2.2.2.2.2.2.2⟩
        · refine all_seq_core [0, 1, 3, 4, 6, 7, 2, 5, 8, 9, 10, 11] (fun W => Below w.heap.size w W) (Core.trans (Core.trans (addE_core 2 10 _) (addE_core 5 10 _)) (addE_core 8 10 _)) (by kernel_rfl) hS.2.2.2.2 ?_
          simp only [byNum, List.getElem?_cons_zero, List.getElem?_cons_succ]
          repeat (first
            | ((refine seq_skip (by rfl) (by rfl) ?_); simp only [Act.put, zp1, zp2, zp3])
            | ((refine seq_val (v := ?_) (by rfl) (by rfl) (fun w hS => ?_) ?_); rotate_left; (focus ((try dsimp only at hS); go_simp; (try (with_reducible rfl)); done)); simp only [Act.put, zp1, zp2, zp3]))
          refine seq_call (f := ?_) (args := ?_) (by rfl) (by rfl) ?_ ?_
          rotate_left
          rotate_left
          focus (go_simp; (constructor <;> (with_reducible rfl)); done)
          refine (hk0 _).mono ?_
          rintro e wz ⟨rfl, rfl⟩
          refine ⟨_, rfl, (fun W => Below w.heap.size w W), hS.2.2.2.2, (fun W h => h), ?_⟩
          simp only [Act.put, zp1, zp2, zp3]
          repeat (first
            | ((refine seq_skip (by rfl) (by rfl) ?_); simp only [Act.put, zp1, zp2, zp3])
            | ((refine seq_val (v := ?_) (by rfl) (by rfl) (fun w hS => ?_) ?_); rotate_left; (focus ((try dsimp only at hS); go_simp; (try (with_reducible rfl)); done)); simp only [Act.put, zp1, zp2, zp3]))
          refine seq_call (f := ?_) (args := ?_) (by rfl) (by rfl) ?_ ?_
          rotate_left
          rotate_left
          focus (go_simp; (constructor <;> (with_reducible rfl)); done)
          refine (hk1 _).mono ?_
          rintro e wz ⟨rfl, rfl⟩
          refine ⟨_, rfl, (fun W => Below w.heap.size w W), hS.2.2.2.2, (fun W h => h), ?_⟩
          simp only [Act.put, zp1, zp2, zp3]
          repeat (first
            | ((refine seq_skip (by rfl) (by rfl) ?_); simp only [Act.put, zp1, zp2, zp3])
            | ((refine seq_val (v := ?_) (by rfl) (by rfl) (fun w hS => ?_) ?_); rotate_left; (focus ((try dsimp only at hS); go_simp; (try (with_reducible rfl)); done)); simp only [Act.put, zp1, zp2, zp3]))
          refine seq_call (f := ?_) (args := ?_) (by rfl) (by rfl) ?_ ?_
          rotate_left
          rotate_left
          focus (go_simp; (constructor <;> (with_reducible rfl)); done)
          refine (hk2 _).mono ?_
          rintro e wz ⟨rfl, rfl⟩
          refine ⟨_, rfl, (fun W => Below w.heap.size w W), hS.2.2.2.2, (fun W h => h), ?_⟩
          simp only [Act.put, zp1, zp2, zp3]
          repeat (first
            | ((refine seq_skip (by rfl) (by rfl) ?_); simp only [Act.put, zp1, zp2, zp3])
            | ((refine seq_val (v := ?_) (by rfl) (by rfl) (fun w hS => ?_) ?_); rotate_left; (focus ((try dsimp only at hS); go_simp; (try (with_reducible rfl)); done)); simp only [Act.put, zp1, zp2, zp3]))
          refine seq_deed (v := ?_) (w' := ?_) (by rfl) (by rfl) ?_ ?_
          rotate_left
          rotate_left
          focus (go_simp; (constructor <;> (with_reducible rfl)); done)
          generalize hgw3 : World.alloc w2 _ = w3
          have hb : Below w2.heap.size w2 w3 := by rw [← hgw3]; go_grown
          have hT : (w.heap.size < w3.heap.size ∧ ∀ i, w3.frozen? ⟨w.heap.size, i, none⟩ = false) ∧ w3.cell? ⟨w.heap.size, 0, none⟩ = some (.int .i64 (0)) ∧ w3.cell? ⟨w.heap.size, 1, none⟩ = some (.int .i64 (0)) ∧ w3.cell? ⟨w.heap.size, 2, none⟩ = some (.int .i64 (0)) ∧ (w2.heap.size < w3.heap.size ∧ ∀ i, w3.frozen? ⟨w2.heap.size, i, none⟩ = false) ∧ w3.cell? ⟨w2.heap.size, 0, none⟩ = some (.int .i64 (0)) ∧ w3.cell? ⟨w2.heap.size, 1, none⟩ = some (.int .i64 (0)) ∧ w3.cell? ⟨w2.heap.size, 2, none⟩ = some (.int .i64 (0)) ∧ Below w.heap.size w w3 := ⟨keep_fre hb (hS.1), keep_cell hb (hS.2.1), keep_cell hb (hS.2.2.1), keep_cell hb (hS.2.2.2.1), ⟨by rw [← hgw3]; simp [go_sem], by rw [← hgw3]; simp [go_sem]⟩, by rw [← hgw3]; simp [go_sem], by rw [← hgw3]; simp [go_sem], by rw [← hgw3]; simp [go_sem], below_via (hS.2.2.2.2) hb⟩
          clear hS hb hgw3
          have hS := hT
          clear hT
          have hS2 := hS
          obtain ⟨⟨f0, fr0⟩, q1, q2, q3, ⟨f4, fr4⟩, q5, q6, q7, hF⟩ := hS2
          have hzw : w.heap.size ≤ w3.heap.size := hF.size
          have hB := hF
          have hz1 : w.heap.size < w3.heap.size := World.block_lt_of_cell? w3 _ q1
          have hz2 : w2.heap.size < w3.heap.size := World.block_lt_of_cell? w3 _ q5
          refine ⟨(fun W => Below w.heap.size w W), hS.2.2.2.2.2.2.2.2, (fun W h => h), ?_⟩
          simp only [Act.put, zp1, zp2, zp3]
          repeat (first
            | ((refine seq_skip (by rfl) (by rfl) ?_); simp only [Act.put, zp1, zp2, zp3])
            | ((refine seq_val (v := ?_) (by rfl) (by rfl) (fun w hS => ?_) ?_); rotate_left; (focus ((try dsimp only at hS); go_simp; (try (with_reducible rfl)); done)); simp only [Act.put, zp1, zp2, zp3]))
          obtain ⟨w4, hw4⟩ : ∃ W, W = ((w3.setCell ⟨w2.heap.size, 0, none⟩ (.int .i64 K)).setCell ⟨w2.heap.size, 1, none⟩ (.int .i64 A)).setCell ⟨w2.heap.size, 2, none⟩ (.int .i64 D) := ⟨_, rfl⟩
          obtain ⟨dd0, dd1, dd2, dd3, dd4⟩ := box3_sets q5 q6 q7 (.int .i64 K) (.int .i64 A) (.int .i64 D)
          refine seq_store (w' := w4) (by rfl) (by rfl) (by rw [hw4]; go_simp; (try (with_reducible rfl)); done) ?_
          have hT : (w.heap.size < w4.heap.size ∧ ∀ i, w4.frozen? ⟨w.heap.size, i, none⟩ = false) ∧ w4.cell? ⟨w.heap.size, 0, none⟩ = some (.int .i64 (0)) ∧ w4.cell? ⟨w.heap.size, 1, none⟩ = some (.int .i64 (0)) ∧ w4.cell? ⟨w.heap.size, 2, none⟩ = some (.int .i64 (0)) ∧ (w2.heap.size < w4.heap.size ∧ ∀ i, w4.frozen? ⟨w2.heap.size, i, none⟩ = false) ∧ w4.cell? ⟨w2.heap.size, 0, none⟩ = some (.int .i64 K) ∧ w4.cell? ⟨w2.heap.size, 1, none⟩ = some (.int .i64 A) ∧ w4.cell? ⟨w2.heap.size, 2, none⟩ = some (.int .i64 D) ∧ Below w.heap.size w w4 := by rw [hw4]; exact ⟨⟨by simpa using f0, fun i => by simpa using fr0 i⟩, (box3_other (by first | omega | (simp; done) | (simp; omega)) (.int .i64 K) (.int .i64 A) (.int .i64 D) 0).trans q1, (box3_other (by first | omega | (simp; done) | (simp; omega)) (.int .i64 K) (.int .i64 A) (.int .i64 D) 1).trans q2, (box3_other (by first | omega | (simp; done) | (simp; omega)) (.int .i64 K) (.int .i64 A) (.int .i64 D) 2).trans q3, ⟨by simpa using f4, fun i => by simpa using fr4 i⟩, dd2, dd3, dd4, by go_grown⟩
          (try clear hS)
          have hS := hT
          clear hT dd0 dd1 dd2 dd3 dd4 hw4
          have hS2 := hS
          obtain ⟨⟨f0, fr0⟩, q1, q2, q3, ⟨f4, fr4⟩, q5, q6, q7, hF⟩ := hS2
          have hzw : w.heap.size ≤ w4.heap.size := hF.size
          have hB := hF
          have hz1 : w.heap.size < w4.heap.size := World.block_lt_of_cell? w4 _ q1
          have hz2 : w2.heap.size < w4.heap.size := World.block_lt_of_cell? w4 _ q5
          refine ⟨(fun W => Below w.heap.size w W), hS.2.2.2.2.2.2.2.2, (fun W h => h), ?_⟩
          simp only [Act.put, zp1, zp2, zp3]
          repeat (first
            | ((refine seq_skip (by rfl) (by rfl) ?_); simp only [Act.put, zp1, zp2, zp3])
            | ((refine seq_val (v := ?_) (by rfl) (by rfl) (fun w hS => ?_) ?_); rotate_left; (focus ((try dsimp only at hS); go_simp; (try (with_reducible rfl)); done)); simp only [Act.put, zp1, zp2, zp3]))
          refine seq_nil ?_
          go_wp2_with fail
          go_meet
          case rel => exact ⟨w2.heap.size, rfl, by omega, hS.1, hS.2.1, hS.2.2.1, hS.2.2.2.1, hS.2.2.2.2.1, hS.2.2.2.2.2.1, hS.2.2.2.2.2.2.1, hS.2.2.2.2.2.2.2.1, hS.2.2.2.2.2.2.2.2⟩
  obtain ⟨T, rfl, hTT, hS3⟩ := hcut
  (try clear hS)
  have hS := hS3
  clear hS3
  have hS2 := hS
  obtain ⟨⟨f0, fr0⟩, q1, q2, q3, ⟨f4, fr4⟩, q5, q6, q7, hF⟩ := hS2
  have hzw : w.heap.size ≤ wc.heap.size := hF.size
  have hB := hF
  have hz1 : w.heap.size < wc.heap.size := World.block_lt_of_cell? wc _ q1
  have hz2 : T < wc.heap.size := World.block_lt_of_cell? wc _ q5
  rcases V with _ | _
  · go_wp2_with fail
    refine (hgd _).mono ?_
    rintro e w61 ⟨rfl, hb9⟩
    have hT : (w.heap.size < w61.heap.size ∧ ∀ i, w61.frozen? ⟨w.heap.size, i, none⟩ = false) ∧ w61.cell? ⟨w.heap.size, 0, none⟩ = some (.int .i64 (0)) ∧ w61.cell? ⟨w.heap.size, 1, none⟩ = some (.int .i64 (0)) ∧ w61.cell? ⟨w.heap.size, 2, none⟩ = some (.int .i64 (0)) ∧ (T < w61.heap.size ∧ ∀ i, w61.frozen? ⟨T, i, none⟩ = false) ∧ w61.cell? ⟨T, 0, none⟩ = some (.int .i64 K) ∧ w61.cell? ⟨T, 1, none⟩ = some (.int .i64 A) ∧ w61.cell? ⟨T, 2, none⟩ = some (.int .i64 D) ∧ Below w.heap.size w w61 := ⟨keep_fre hb9 (hS.1), keep_cell hb9 (hS.2.1), keep_cell hb9 (hS.2.2.1), keep_cell hb9 (hS.2.2.2.1), keep_fre hb9 (hS.2.2.2.2.1), keep_cell hb9 (hS.2.2.2.2.2.1), keep_cell hb9 (hS.2.2.2.2.2.2.1), keep_cell hb9 (hS.2.2.2.2.2.2.2.1), below_via (hS.2.2.2.2.2.2.2.2) hb9⟩
    clear hS hb9
    have hS := hT
    clear hT
    have hS2 := hS
    obtain ⟨⟨f0, fr0⟩, q1, q2, q3, ⟨f4, fr4⟩, q5, q6, q7, hF⟩ := hS2
    have hzw : w.heap.size ≤ w61.heap.size := hF.size
    have hB := hF
    have hz1 : w.heap.size < w61.heap.size := World.block_lt_of_cell? w61 _ q1
    have hz2 : T < w61.heap.size := World.block_lt_of_cell? w61 _ q5
    obtain ⟨e0_0, e0_1, e0_2, e0_3, e0_4⟩ := box3_sets (w := w61) q1 q2 q3 (.int .i64 (0)) (.int .i64 (0)) (.int .i64 (0))
    go_wp2
    refine bodyPost_ret (by simp [results, Try.results67, go_sem, e0_2, e0_3, e0_4]; try rfl) rfl ?_
    exact ⟨ret_eq (by simp), by go_grown⟩
  · go_wp2_with fail
    refine (hgd _).mono ?_
    rintro e w61 ⟨rfl, hb9⟩
    have hT : (w.heap.size < w61.heap.size ∧ ∀ i, w61.frozen? ⟨w.heap.size, i, none⟩ = false) ∧ w61.cell? ⟨w.heap.size, 0, none⟩ = some (.int .i64 (0)) ∧ w61.cell? ⟨w.heap.size, 1, none⟩ = some (.int .i64 (0)) ∧ w61.cell? ⟨w.heap.size, 2, none⟩ = some (.int .i64 (0)) ∧ (T < w61.heap.size ∧ ∀ i, w61.frozen? ⟨T, i, none⟩ = false) ∧ w61.cell? ⟨T, 0, none⟩ = some (.int .i64 K) ∧ w61.cell? ⟨T, 1, none⟩ = some (.int .i64 A) ∧ w61.cell? ⟨T, 2, none⟩ = some (.int .i64 D) ∧ Below w.heap.size w w61 := ⟨keep_fre hb9 (hS.1), keep_cell hb9 (hS.2.1), keep_cell hb9 (hS.2.2.1), keep_cell hb9 (hS.2.2.2.1), keep_fre hb9 (hS.2.2.2.2.1), keep_cell hb9 (hS.2.2.2.2.2.1), keep_cell hb9 (hS.2.2.2.2.2.2.1), keep_cell hb9 (hS.2.2.2.2.2.2.2.1), below_via (hS.2.2.2.2.2.2.2.2) hb9⟩
    clear hS hb9
    have hS := hT
    clear hT
    have hS2 := hS
    obtain ⟨⟨f0, fr0⟩, q1, q2, q3, ⟨f4, fr4⟩, q5, q6, q7, hF⟩ := hS2
    have hzw : w.heap.size ≤ w61.heap.size := hF.size
    have hB := hF
    have hz1 : w.heap.size < w61.heap.size := World.block_lt_of_cell? w61 _ q1
    have hz2 : T < w61.heap.size := World.block_lt_of_cell? w61 _ q5
    obtain ⟨e0_0, e0_1, e0_2, e0_3, e0_4⟩ := box3_sets (w := w61) q1 q2 q3 (.int .i64 K) (.int .i64 A) (.int .i64 D)
    go_wp2
    refine bodyPost_ret (by simp [results, Try.results67, go_sem, e0_2, e0_3, e0_4]; try rfl) rfl ?_
    exact ⟨ret_eq (by simp), by go_grown⟩
set_option maxHeartbeats 4000000 in
theorem l5Decode_c (l : List UInt8) (hb : Hid (isB l)) (h56 : l.length = 56) (w : World) : Calls Try.prog 96 #[.string (str l)] w (Gives w (.tuple #[.agg #[.int .i64 (if frK l = true then fKd l else 0), .int .i64 (if frK l = true then fAd l else 0), .int .i64 (if frK l = true then fDt l else 0)], .bool (frK l)])) := by
  have hsz := str_size l
  have hk0 : ∀ W, Calls Try.prog 117 #[.string ((str l).extract 0 4)] W (fun r' w' => r' = .returned (.int .i64 (fKd l)) ∧ W = w') := fun W => by
    have h := l2Number_c ((str l).extract 0 4) (hide (by rw [ext_str, str_list]; exact isB_drop (isB_take hb.out _) _)) (by rw [ext_str, str_size]; simp; omega) W
    rw [ext_str, str_list] at h
    rw [ext_str]
    have e : (l.take 4).drop 0 = l.take 4 := by first | rfl | (rw [List.drop_take])
    rw [e] at h
    rw [e]
    exact h
  have hk1 : ∀ W, Calls Try.prog 117 #[.string ((str l).extract 4 20)] W (fun r' w' => r' = .returned (.int .i64 (fAd l)) ∧ W = w') := fun W => by
    have h := l2Number_c ((str l).extract 4 20) (hide (by rw [ext_str, str_list]; exact isB_drop (isB_take hb.out _) _)) (by rw [ext_str, str_size]; simp; omega) W
    rw [ext_str, str_list] at h
    rw [ext_str]
    have e : (l.take 20).drop 4 = (l.drop 4).take 16 := by first | rfl | (rw [List.drop_take])
    rw [e] at h
    rw [e]
    exact h
  have hk2 : ∀ W, Calls Try.prog 117 #[.string ((str l).extract 20 44)] W (fun r' w' => r' = .returned (.int .i64 (fDt l)) ∧ W = w') := fun W => by
    have h := l2Number_c ((str l).extract 20 44) (hide (by rw [ext_str, str_list]; exact isB_drop (isB_take hb.out _) _)) (by rw [ext_str, str_size]; simp; omega) W
    rw [ext_str, str_list] at h
    rw [ext_str]
    have e : (l.take 44).drop 20 = (l.drop 20).take 24 := by first | rfl | (rw [List.drop_take])
    rw [e] at h
    rw [e]
    exact h
  have hgd := l5Good_c (fKd l) (fAd l) (fDt l)
  rw [show vFr (fKd l) (fAd l) (fDt l) = frK l from rfl] at hgd
  obtain ⟨K, hK⟩ : ∃ q, fKd l = q := ⟨_, rfl⟩
  obtain ⟨A, hA⟩ : ∃ q, fAd l = q := ⟨_, rfl⟩
  obtain ⟨D, hD⟩ : ∃ q, fDt l = q := ⟨_, rfl⟩
  obtain ⟨V, hV⟩ : ∃ q, frK l = q := ⟨_, rfl⟩
  rw [hK] at hk0 hgd ⊢
  rw [hA] at hk1 hgd ⊢
  rw [hD] at hk2 hgd ⊢
  rw [hV] at hgd ⊢
  clear hK hA hD hV
  obtain ⟨s, hs⟩ : ∃ q, str l = q := ⟨_, rfl⟩
  rw [hs] at hsz hk0 hk1 hk2 ⊢
  rw [h56] at hsz
  clear hs
  go_enter Try.func96, Try.ntmps96
  have hS : Below w.heap.size w w := Below.refl _ _
  have hzw : w.heap.size ≤ w.heap.size := Nat.le_refl _
  go_upto_region 1 with fail
  generalize hgw1 : World.alloc w _ = w1
  have hb : Below w.heap.size w w1 := by rw [← hgw1]; go_grown
  have hT : (w.heap.size < w1.heap.size ∧ ∀ i, w1.frozen? ⟨w.heap.size, i, none⟩ = false) ∧ w1.cell? ⟨w.heap.size, 0, none⟩ = some (.int .i64 (0)) ∧ w1.cell? ⟨w.heap.size, 1, none⟩ = some (.int .i64 (0)) ∧ w1.cell? ⟨w.heap.size, 2, none⟩ = some (.int .i64 (0)) ∧ Below w.heap.size w w1 := ⟨⟨by rw [← hgw1]; simp [go_sem], by rw [← hgw1]; simp [go_sem]⟩, by rw [← hgw1]; simp [go_sem], by rw [← hgw1]; simp [go_sem], by rw [← hgw1]; simp [go_sem], below_via (hS) hb⟩
  clear hS hb hgw1
  have hS := hT
  clear hT
  have hS2 := hS
  obtain ⟨⟨f0, fr0⟩, q1, q2, q3, hF⟩ := hS2
  have hzw : w.heap.size ≤ w1.heap.size := hF.size
  have hB := hF
  have hz1 : w.heap.size < w1.heap.size := World.block_lt_of_cell? w1 _ q1
  go_cut [4] (fun s wx => ∃ T : Nat, s = .pointer (some ⟨T, 0, none⟩) ∧ w.heap.size < T ∧ ((w.heap.size < wx.heap.size ∧ ∀ i, wx.frozen? ⟨w.heap.size, i, none⟩ = false) ∧ wx.cell? ⟨w.heap.size, 0, none⟩ = some (.int .i64 (0)) ∧ wx.cell? ⟨w.heap.size, 1, none⟩ = some (.int .i64 (0)) ∧ wx.cell? ⟨w.heap.size, 2, none⟩ = some (.int .i64 (0)) ∧ (T < wx.heap.size ∧ ∀ i, wx.frozen? ⟨T, i, none⟩ = false) ∧ wx.cell? ⟨T, 0, none⟩ = some (.int .i64 K) ∧ wx.cell? ⟨T, 1, none⟩ = some (.int .i64 A) ∧ wx.cell? ⟨T, 2, none⟩ = some (.int .i64 D) ∧ Below w.heap.size w wx))
  case first =>
    refine wp_region_all (by kernel_rfl) ?_
    obtain ⟨w2, hwq⟩ : ∃ W, World.drew w1 = W := ⟨_, rfl⟩
    have hb : Below w1.heap.size w1 w2 := by rw [← hwq]; go_grown
    rw [hwq]
    have hT : (w.heap.size < w2.heap.size ∧ ∀ i, w2.frozen? ⟨w.heap.size, i, none⟩ = false) ∧ w2.cell? ⟨w.heap.size, 0, none⟩ = some (.int .i64 (0)) ∧ w2.cell? ⟨w.heap.size, 1, none⟩ = some (.int .i64 (0)) ∧ w2.cell? ⟨w.heap.size, 2, none⟩ = some (.int .i64 (0)) ∧ Below w.heap.size w w2 := ⟨keep_fre hb (hS.1), keep_cell hb (hS.2.1), keep_cell hb (hS.2.2.1), keep_cell hb (hS.2.2.2.1), below_via (hS.2.2.2.2) hb⟩
    clear hS hb hwq
    have hS := hT
    clear hT
    have hS2 := hS
    obtain ⟨⟨f0, fr0⟩, q1, q2, q3, hF⟩ := hS2
    have hzw : w.heap.size ≤ w2.heap.size := hF.size
    have hB := hF
    have hz1 : w.heap.size < w2.heap.size := World.block_lt_of_cell? w2 _ q1
    refine all_split 10 2 (by decide) ?_ ?_
    · refine all_seq_core [0, 1, 3, 4, 6, 7, 10, 2, 5, 8, 9, 11] (fun W => Below w.heap.size w W) (addE_core 10 2 _) (by kernel_rfl) hS.2.2.2.2 ?_
      simp only [byNum, List.getElem?_cons_zero, List.getElem?_cons_succ]
      repeat (first
        | ((refine seq_skip (by rfl) (by rfl) ?_); simp only [Act.put, zp1, zp2, zp3])
        | ((refine seq_val (v := ?_) (by rfl) (by rfl) (fun w hS => ?_) ?_); rotate_left; (focus ((try dsimp only at hS); go_simp; (try (with_reducible rfl)); done)); simp only [Act.put, zp1, zp2, zp3]))
      refine seq_deed (v := ?_) (w' := ?_) (by rfl) (by rfl) ?_ ?_
      rotate_left
      rotate_left
      focus (go_simp; (constructor <;> (with_reducible rfl)); done)
      generalize hgw3 : World.alloc w2 _ = w3
      have hb : Below w2.heap.size w2 w3 := by rw [← hgw3]; go_grown
      have hT : (w.heap.size < w3.heap.size ∧ ∀ i, w3.frozen? ⟨w.heap.size, i, none⟩ = false) ∧ w3.cell? ⟨w.heap.size, 0, none⟩ = some (.int .i64 (0)) ∧ w3.cell? ⟨w.heap.size, 1, none⟩ = some (.int .i64 (0)) ∧ w3.cell? ⟨w.heap.size, 2, none⟩ = some (.int .i64 (0)) ∧ (w2.heap.size < w3.heap.size ∧ ∀ i, w3.frozen? ⟨w2.heap.size, i, none⟩ = false) ∧ w3.cell? ⟨w2.heap.size, 0, none⟩ = some (.int .i64 (0)) ∧ w3.cell? ⟨w2.heap.size, 1, none⟩ = some (.int .i64 (0)) ∧ w3.cell? ⟨w2.heap.size, 2, none⟩ = some (.int .i64 (0)) ∧ Below w.heap.size w w3 := ⟨keep_fre hb (hS.1), keep_cell hb (hS.2.1), keep_cell hb (hS.2.2.1), keep_cell hb (hS.2.2.2.1), ⟨by rw [← hgw3]; simp [go_sem], by rw [← hgw3]; simp [go_sem]⟩, by rw [← hgw3]; simp [go_sem], by rw [← hgw3]; simp [go_sem], by rw [← hgw3]; simp [go_sem], below_via (hS.2.2.2.2) hb⟩
      clear hS hb hgw3
      have hS := hT
      clear hT
      have hS2 := hS
      obtain ⟨⟨f0, fr0⟩, q1, q2, q3, ⟨f4, fr4⟩, q5, q6, q7, hF⟩ := hS2
      have hzw : w.heap.size ≤ w3.heap.size := hF.size
      have hB := hF
      have hz1 : w.heap.size < w3.heap.size := World.block_lt_of_cell? w3 _ q1
      have hz2 : w2.heap.size < w3.heap.size := World.block_lt_of_cell? w3 _ q5
      refine ⟨(fun W => Below w.heap.size w W), hS.2.2.2.2.2.2.2.2, (fun W h => h), ?_⟩
      simp only [Act.put, zp1, zp2, zp3]
      repeat (first
        | ((refine seq_skip (by rfl) (by rfl) ?_); simp only [Act.put, zp1, zp2, zp3])
        | ((refine seq_val (v := ?_) (by rfl) (by rfl) (fun w hS => ?_) ?_); rotate_left; (focus ((try dsimp only at hS); go_simp; (try (with_reducible rfl)); done)); simp only [Act.put, zp1, zp2, zp3]))
      refine seq_call (f := ?_) (args := ?_) (by rfl) (by rfl) ?_ ?_
      rotate_left
      rotate_left
      focus (go_simp; (constructor <;> (with_reducible rfl)); done)
      refine (hk0 _).mono ?_
      rintro e wz ⟨rfl, rfl⟩
      refine ⟨_, rfl, (fun W => Below w.heap.size w W), hS.2.2.2.2.2.2.2.2, (fun W h => h), ?_⟩
      simp only [Act.put, zp1, zp2, zp3]
      repeat (first
        | ((refine seq_skip (by rfl) (by rfl) ?_); simp only [Act.put, zp1, zp2, zp3])
        | ((refine seq_val (v := ?_) (by rfl) (by rfl) (fun w hS => ?_) ?_); rotate_left; (focus ((try dsimp only at hS); go_simp; (try (with_reducible rfl)); done)); simp only [Act.put, zp1, zp2, zp3]))
      refine seq_call (f := ?_) (args := ?_) (by rfl) (by rfl) ?_ ?_
      rotate_left
      rotate_left
      focus (go_simp; (constructor <;> (with_reducible rfl)); done)
      refine (hk1 _).mono ?_
      rintro e wz ⟨rfl, rfl⟩
      refine ⟨_, rfl, (fun W => Below w.heap.size w W), hS.2.2.2.2.2.2.2.2, (fun W h => h), ?_⟩
      simp only [Act.put, zp1, zp2, zp3]
      repeat (first
        | ((refine seq_skip (by rfl) (by rfl) ?_); simp only [Act.put, zp1, zp2, zp3])
        | ((refine seq_val (v := ?_) (by rfl) (by rfl) (fun w hS => ?_) ?_); rotate_left; (focus ((try dsimp only at hS); go_simp; (try (with_reducible rfl)); done)); simp only [Act.put, zp1, zp2, zp3]))
      refine seq_call (f := ?_) (args := ?_) (by rfl) (by rfl) ?_ ?_
      rotate_left
      rotate_left
      focus (go_simp; (constructor <;> (with_reducible rfl)); done)
      refine (hk2 _).mono ?_
      rintro e wz ⟨rfl, rfl⟩
      refine ⟨_, rfl, (fun W => Below w.heap.size w W), hS.2.2.2.2.2.2.2.2, (fun W h => h), ?_⟩
      simp only [Act.put, zp1, zp2, zp3]
      repeat (first
        | ((refine seq_skip (by rfl) (by rfl) ?_); simp only [Act.put, zp1, zp2, zp3])
        | ((refine seq_val (v := ?_) (by rfl) (by rfl) (fun w hS => ?_) ?_); rotate_left; (focus ((try dsimp only at hS); go_simp; (try (with_reducible rfl)); done)); simp only [Act.put, zp1, zp2, zp3]))
      obtain ⟨w4, hw4⟩ : ∃ W, W = ((w3.setCell ⟨w2.heap.size, 0, none⟩ (.int .i64 K)).setCell ⟨w2.heap.size, 1, none⟩ (.int .i64 A)).setCell ⟨w2.heap.size, 2, none⟩ (.int .i64 D) := ⟨_, rfl⟩
      obtain ⟨dd0, dd1, dd2, dd3, dd4⟩ := box3_sets q5 q6 q7 (.int .i64 K) (.int .i64 A) (.int .i64 D)
      refine seq_store (w' := w4) (by rfl) (by rfl) (by rw [hw4]; go_simp; (try (with_reducible rfl)); done) ?_
      have hT : (w.heap.size < w4.heap.size ∧ ∀ i, w4.frozen? ⟨w.heap.size, i, none⟩ = false) ∧ w4.cell? ⟨w.heap.size, 0, none⟩ = some (.int .i64 (0)) ∧ w4.cell? ⟨w.heap.size, 1, none⟩ = some (.int .i64 (0)) ∧ w4.cell? ⟨w.heap.size, 2, none⟩ = some (.int .i64 (0)) ∧ (w2.heap.size < w4.heap.size ∧ ∀ i, w4.frozen? ⟨w2.heap.size, i, none⟩ = false) ∧ w4.cell? ⟨w2.heap.size, 0, none⟩ = some (.int .i64 K) ∧ w4.cell? ⟨w2.heap.size, 1, none⟩ = some (.int .i64 A) ∧ w4.cell? ⟨w2.heap.size, 2, none⟩ = some (.int .i64 D) ∧ Below w.heap.size w w4 := by rw [hw4]; exact ⟨⟨by simpa using f0, fun i => by simpa using fr0 i⟩, (box3_other (by first | omega | (simp; done) | (simp; omega)) (.int .i64 K) (.int .i64 A) (.int .i64 D) 0).trans q1, (box3_other (by first | omega | (simp; done) | (simp; omega)) (.int .i64 K) (.int .i64 A) (.int .i64 D) 1).trans q2, (box3_other (by first | omega | (simp; done) | (simp; omega)) (.int .i64 K) (.int .i64 A) (.int .i64 D) 2).trans q3, ⟨by simpa using f4, fun i => by simpa using fr4 i⟩, dd2, dd3, dd4, by go_grown⟩
      (try clear hS)
      have hS := hT
      clear hT dd0 dd1 dd2 dd3 dd4 hw4
      have hS2 := hS
      obtain ⟨⟨f0, fr0⟩, q1, q2, q3, ⟨f4, fr4⟩, q5, q6, q7, hF⟩ := hS2
      have hzw : w.heap.size ≤ w4.heap.size := hF.size
      have hB := hF
      have hz1 : w.heap.size < w4.heap.size := World.block_lt_of_cell? w4 _ q1
      have hz2 : w2.heap.size < w4.heap.size := World.block_lt_of_cell? w4 _ q5
      refine ⟨(fun W => Below w.heap.size w W), hS.2.2.2.2.2.2.2.2, (fun W h => h), ?_⟩
      simp only [Act.put, zp1, zp2, zp3]
      repeat (first
        | ((refine seq_skip (by rfl) (by rfl) ?_); simp only [Act.put, zp1, zp2, zp3])
        | ((refine seq_val (v := ?_) (by rfl) (by rfl) (fun w hS => ?_) ?_); rotate_left; (focus ((try dsimp only at hS); go_simp; (try (with_reducible rfl)); done)); simp only [Act.put, zp1, zp2, zp3]))
      refine seq_nil ?_
      go_wp2_with fail
      go_meet
      case rel => exact ⟨w2.heap.size, rfl, by omega, hS.1, hS.2.1, hS.2.2.1, hS.2.2.2.1, hS.2.2.2.2.1, hS.2.2.2.2.2.1, hS.2.2.2.2.2.2.1, hS.2.2.2.2.2.2.2.1, hS.2.2.2.2.2.2.2.2⟩
    · refine all_split 10 5 (by decide) ?_ ?_
      · refine all_seq_core [0, 1, 3, 4, 6, 7, 2, 10, 5, 8, 9, 11] (fun W => Below w.heap.size w W) (Core.trans (addE_core 2 10 _) (addE_core 10 5 _)) (by kernel_rfl) hS.2.2.2.2 ?_
        simp only [byNum, List.getElem?_cons_zero, List.getElem?_cons_succ]
        repeat (first
          | ((refine seq_skip (by rfl) (by rfl) ?_); simp only [Act.put, zp1, zp2, zp3])
          | ((refine seq_val (v := ?_) (by rfl) (by rfl) (fun w hS => ?_) ?_); rotate_left; (focus ((try dsimp only at hS); go_simp; (try (with_reducible rfl)); done)); simp only [Act.put, zp1, zp2, zp3]))
        refine seq_call (f := ?_) (args := ?_) (by rfl) (by rfl) ?_ ?_
        rotate_left
        rotate_left
        focus (go_simp; (constructor <;> (with_reducible rfl)); done)
        refine (hk0 _).mono ?_
        rintro e wz ⟨rfl, rfl⟩
        refine ⟨_, rfl, (fun W => Below w.heap.size w W), hS.2.2.2.2, (fun W h => h), ?_⟩
        simp only [Act.put, zp1, zp2, zp3]
        repeat (first
          | ((refine seq_skip (by rfl) (by rfl) ?_); simp only [Act.put, zp1, zp2, zp3])
          | ((refine seq_val (v := ?_) (by rfl) (by rfl) (fun w hS => ?_) ?_); rotate_left; (focus ((try dsimp only at hS); go_simp; (try (with_reducible rfl)); done)); simp only [Act.put, zp1, zp2, zp3]))
        refine seq_deed (v := ?_) (w' := ?_) (by rfl) (by rfl) ?_ ?_
        rotate_left
        rotate_left
        focus (go_simp; (constructor <;> (with_reducible rfl)); done)
        generalize hgw3 : World.alloc w2 _ = w3
        have hb : Below w2.heap.size w2 w3 := by rw [← hgw3]; go_grown
        have hT : (w.heap.size < w3.heap.size ∧ ∀ i, w3.frozen? ⟨w.heap.size, i, none⟩ = false) ∧ w3.cell? ⟨w.heap.size, 0, none⟩ = some (.int .i64 (0)) ∧ w3.cell? ⟨w.heap.size, 1, none⟩ = some (.int .i64 (0)) ∧ w3.cell? ⟨w.heap.size, 2, none⟩ = some (.int .i64 (0)) ∧ (w2.heap.size < w3.heap.size ∧ ∀ i, w3.frozen? ⟨w2.heap.size, i, none⟩ = false) ∧ w3.cell? ⟨w2.heap.size, 0, none⟩ = some (.int .i64 (0)) ∧ w3.cell? ⟨w2.heap.size, 1, none⟩ = some (.int .i64 (0)) ∧ w3.cell? ⟨w2.heap.size, 2, none⟩ = some (.int .i64 (0)) ∧ Below w.heap.size w w3 := ⟨keep_fre hb (hS.1), keep_cell hb (hS.2.1), keep_cell hb (hS.2.2.1), keep_cell hb (hS.2.2.2.1), ⟨by rw [← hgw3]; simp [go_sem], by rw [← hgw3]; simp [go_sem]⟩, by rw [← hgw3]; simp [go_sem], by rw [← hgw3]; simp [go_sem], by rw [← hgw3]; simp [go_sem], below_via (hS.2.2.2.2) hb⟩
        clear hS hb hgw3
        have hS := hT
        clear hT
        have hS2 := hS
        obtain ⟨⟨f0, fr0⟩, q1, q2, q3, ⟨f4, fr4⟩, q5, q6, q7, hF⟩ := hS2
        have hzw : w.heap.size ≤ w3.heap.size := hF.size
        have hB := hF
        have hz1 : w.heap.size < w3.heap.size := World.block_lt_of_cell? w3 _ q1
        have hz2 : w2.heap.size < w3.heap.size := World.block_lt_of_cell? w3 _ q5
        refine ⟨(fun W => Below w.heap.size w W), hS.2.2.2.2.2.2.2.2, (fun W h => h), ?_⟩
        simp only [Act.put, zp1, zp2, zp3]
        repeat (first
          | ((refine seq_skip (by rfl) (by rfl) ?_); simp only [Act.put, zp1, zp2, zp3])
          | ((refine seq_val (v := ?_) (by rfl) (by rfl) (fun w hS => ?_) ?_); rotate_left; (focus ((try dsimp only at hS); go_simp; (try (with_reducible rfl)); done)); simp only [Act.put, zp1, zp2, zp3]))
        refine seq_call (f := ?_) (args := ?_) (by rfl) (by rfl) ?_ ?_
        rotate_left
        rotate_left
        focus (go_simp; (constructor <;> (with_reducible rfl)); done)
        refine (hk1 _).mono ?_
        rintro e wz ⟨rfl, rfl⟩
        refine ⟨_, rfl, (fun W => Below w.heap.size w W), hS.2.2.2.2.2.2.2.2, (fun W h => h), ?_⟩
        simp only [Act.put, zp1, zp2, zp3]
        repeat (first
          | ((refine seq_skip (by rfl) (by rfl) ?_); simp only [Act.put, zp1, zp2, zp3])
          | ((refine seq_val (v := ?_) (by rfl) (by rfl) (fun w hS => ?_) ?_); rotate_left; (focus ((try dsimp only at hS); go_simp; (try (with_reducible rfl)); done)); simp only [Act.put, zp1, zp2, zp3]))
        refine seq_call (f := ?_) (args := ?_) (by rfl) (by rfl) ?_ ?_
        rotate_left
        rotate_left
        focus (go_simp; (constructor <;> (with_reducible rfl)); done)
        refine (hk2 _).mono ?_
        rintro e wz ⟨rfl, rfl⟩
        refine ⟨_, rfl, (fun W => Below w.heap.size w W), hS.2.2.2.2.2.2.2.2, (fun W h => h), ?_⟩
        simp only [Act.put, zp1, zp2, zp3]
        repeat (first
          | ((refine seq_skip (by rfl) (by rfl) ?_); simp only [Act.put, zp1, zp2, zp3])
          | ((refine seq_val (v := ?_) (by rfl) (by rfl) (fun w hS => ?_) ?_); rotate_left; (focus ((try dsimp only at hS); go_simp; (try (with_reducible rfl)); done)); simp only [Act.put, zp1, zp2, zp3]))
        obtain ⟨w4, hw4⟩ : ∃ W, W = ((w3.setCell ⟨w2.heap.size, 0, none⟩ (.int .i64 K)).setCell ⟨w2.heap.size, 1, none⟩ (.int .i64 A)).setCell ⟨w2.heap.size, 2, none⟩ (.int .i64 D) := ⟨_, rfl⟩
        obtain ⟨dd0, dd1, dd2, dd3, dd4⟩ := box3_sets q5 q6 q7 (.int .i64 K) (.int .i64 A) (.int .i64 D)
        refine seq_store (w' := w4) (by rfl) (by rfl) (by rw [hw4]; go_simp; (try (with_reducible rfl)); done) ?_
        have hT : (w.heap.size < w4.heap.size ∧ ∀ i, w4.frozen? ⟨w.heap.size, i, none⟩ = false) ∧ w4.cell? ⟨w.heap.size, 0, none⟩ = some (.int .i64 (0)) ∧ w4.cell? ⟨w.heap.size, 1, none⟩ = some (.int .i64 (0)) ∧ w4.cell? ⟨w.heap.size, 2, none⟩ = some (.int .i64 (0)) ∧ (w2.heap.size < w4.heap.size ∧ ∀ i, w4.frozen? ⟨w2.heap.size, i, none⟩ = false) ∧ w4.cell? ⟨w2.heap.size, 0, none⟩ = some (.int .i64 K) ∧ w4.cell? ⟨w2.heap.size, 1, none⟩ = some (.int .i64 A) ∧ w4.cell? ⟨w2.heap.size, 2, none⟩ = some (.int .i64 D) ∧ Below w.heap.size w w4 := by rw [hw4]; exact ⟨⟨by simpa using f0, fun i => by simpa using fr0 i⟩, (box3_other (by first | omega | (simp; done) | (simp; omega)) (.int .i64 K) (.int .i64 A) (.int .i64 D) 0).trans q1, (box3_other (by first | omega | (simp; done) | (simp; omega)) (.int .i64 K) (.int .i64 A) (.int .i64 D) 1).trans q2, (box3_other (by first | omega | (simp; done) | (simp; omega)) (.int .i64 K) (.int .i64 A) (.int .i64 D) 2).trans q3, ⟨by simpa using f4, fun i => by simpa using fr4 i⟩, dd2, dd3, dd4, by go_grown⟩
        (try clear hS)
        have hS := hT
        clear hT dd0 dd1 dd2 dd3 dd4 hw4
        have hS2 := hS
        obtain ⟨⟨f0, fr0⟩, q1, q2, q3, ⟨f4, fr4⟩, q5, q6, q7, hF⟩ := hS2
        have hzw : w.heap.size ≤ w4.heap.size := hF.size
        have hB := hF
        have hz1 : w.heap.size < w4.heap.size := World.block_lt_of_cell? w4 _ q1
        have hz2 : w2.heap.size < w4.heap.size := World.block_lt_of_cell? w4 _ q5
        refine ⟨(fun W => Below w.heap.size w W), hS.2.2.2.2.2.2.2.2, (fun W h => h), ?_⟩
        simp only [Act.put, zp1, zp2, zp3]
        repeat (first
          | ((refine seq_skip (by rfl) (by rfl) ?_); simp only [Act.put, zp1, zp2, zp3])
          | ((refine seq_val (v := ?_) (by rfl) (by rfl) (fun w hS => ?_) ?_); rotate_left; (focus ((try dsimp only at hS); go_simp; (try (with_reducible rfl)); done)); simp only [Act.put, zp1, zp2, zp3]))
        refine seq_nil ?_
        go_wp2_with fail
        go_meet
        case rel => exact ⟨w2.heap.size, rfl, by omega, hS.1, hS.2.1, hS.2.2.1, hS.2.2.2.1, hS.2.2.2.2.1, hS.2.2.2.2.2.1, hS.2.2.2.2.2.2.1, hS.2.2.2.2.2.2.2.1, hS.2.2.2.2.2.2.2.2⟩
      · refine all_split 10 8 (by decide) ?_ ?_
        · refine all_seq_core [0, 1, 3, 4, 6, 7, 2, 5, 10, 8, 9, 11] (fun W => Below w.heap.size w W) (Core.trans (Core.trans (addE_core 2 10 _) (addE_core 5 10 _)) (addE_core 10 8 _)) (by kernel_rfl) hS.2.2.2.2 ?_
          simp only [byNum, List.getElem?_cons_zero, List.getElem?_cons_succ]
          repeat (first
            | ((refine seq_skip (by rfl) (by rfl) ?_); simp only [Act.put, zp1, zp2, zp3])
            | ((refine seq_val (v := ?_) (by rfl) (by rfl) (fun w hS => ?_) ?_); rotate_left; (focus ((try dsimp only at hS); go_simp; (try (with_reducible rfl)); done)); simp only [Act.put, zp1, zp2, zp3]))
          refine seq_call (f := ?_) (args := ?_) (by rfl) (by rfl) ?_ ?_
          rotate_left
          rotate_left
          focus (go_simp; (constructor <;> (with_reducible rfl)); done)
          refine (hk0 _).mono ?_
          rintro e wz ⟨rfl, rfl⟩
          refine ⟨_, rfl, (fun W => Below w.heap.size w W), hS.2.2.2.2, (fun W h => h), ?_⟩
          simp only [Act.put, zp1, zp2, zp3]
          repeat (first
            | ((refine seq_skip (by rfl) (by rfl) ?_); simp only [Act.put, zp1, zp2, zp3])
            | ((refine seq_val (v := ?_) (by rfl) (by rfl) (fun w hS => ?_) ?_); rotate_left; (focus ((try dsimp only at hS); go_simp; (try (with_reducible rfl)); done)); simp only [Act.put, zp1, zp2, zp3]))
          refine seq_call (f := ?_) (args := ?_) (by rfl) (by rfl) ?_ ?_
          rotate_left
          rotate_left
          focus (go_simp; (constructor <;> (with_reducible rfl)); done)
          refine (hk1 _).mono ?_
          rintro e wz ⟨rfl, rfl⟩
          refine ⟨_, rfl, (fun W => Below w.heap.size w W), hS.2.2.2.2, (fun W h => h), ?_⟩
          simp only [Act.put, zp1, zp2, zp3]
          repeat (first
            | ((refine seq_skip (by rfl) (by rfl) ?_); simp only [Act.put, zp1, zp2, zp3])
            | ((refine seq_val (v := ?_) (by rfl) (by rfl) (fun w hS => ?_) ?_); rotate_left; (focus ((try dsimp only at hS); go_simp; (try (with_reducible rfl)); done)); simp only [Act.put, zp1, zp2, zp3]))
          refine seq_deed (v := ?_) (w' := ?_) (by rfl) (by rfl) ?_ ?_
          rotate_left
          rotate_left
          focus (go_simp; (constructor <;> (with_reducible rfl)); done)
          generalize hgw3 : World.alloc w2 _ = w3
          have hb : Below w2.heap.size w2 w3 := by rw [← hgw3]; go_grown
          have hT : (w.heap.size < w3.heap.size ∧ ∀ i, w3.frozen? ⟨w.heap.size, i, none⟩ = false) ∧ w3.cell? ⟨w.heap.size, 0, none⟩ = some (.int .i64 (0)) ∧ w3.cell? ⟨w.heap.size, 1, none⟩ = some (.int .i64 (0)) ∧ w3.cell? ⟨w.heap.size, 2, none⟩ = some (.int .i64 (0)) ∧ (w2.heap.size < w3.heap.size ∧ ∀ i, w3.frozen? ⟨w2.heap.size, i, none⟩ = false) ∧ w3.cell? ⟨w2.heap.size, 0, none⟩ = some (.int .i64 (0)) ∧ w3.cell? ⟨w2.heap.size, 1, none⟩ = some (.int .i64 (0)) ∧ w3.cell? ⟨w2.heap.size, 2, none⟩ = some (.int .i64 (0)) ∧ Below w.heap.size w w3 := ⟨keep_fre hb (hS.1), keep_cell hb (hS.2.1), keep_cell hb (hS.2.2.1), keep_cell hb (hS.2.2.2.1), ⟨by rw [← hgw3]; simp [go_sem], by rw [← hgw3]; simp [go_sem]⟩, by rw [← hgw3]; simp [go_sem], by rw [← hgw3]; simp [go_sem], by rw [← hgw3]; simp [go_sem], below_via (hS.2.2.2.2) hb⟩
          clear hS hb hgw3
          have hS := hT
          clear hT
          have hS2 := hS
          obtain ⟨⟨f0, fr0⟩, q1, q2, q3, ⟨f4, fr4⟩, q5, q6, q7, hF⟩ := hS2
          have hzw : w.heap.size ≤ w3.heap.size := hF.size
          have hB := hF
          have hz1 : w.heap.size < w3.heap.size := World.block_lt_of_cell? w3 _ q1
          have hz2 : w2.heap.size < w3.heap.size := World.block_lt_of_cell? w3 _ q5
          refine ⟨(fun W => Below w.heap.size w W), hS.2.2.2.2.2.2.2.2, (fun W h => h), ?_⟩
          simp only [Act.put, zp1, zp2, zp3]
          repeat (first
            | ((refine seq_skip (by rfl) (by rfl) ?_); simp only [Act.put, zp1, zp2, zp3])
            | ((refine seq_val (v := ?_) (by rfl) (by rfl) (fun w hS => ?_) ?_); rotate_left; (focus ((try dsimp only at hS); go_simp; (try (with_reducible rfl)); done)); simp only [Act.put, zp1, zp2, zp3]))
          refine seq_call (f := ?_) (args := ?_) (by rfl) (by rfl) ?_ ?_
          rotate_left
          rotate_left
          focus (go_simp; (constructor <;> (with_reducible rfl)); done)
          refine (hk2 _).mono ?_
          rintro e wz ⟨rfl, rfl⟩
          refine ⟨_, rfl, (fun W => Below w.heap.size w W), hS.2.2.2.2.2.2.2.2, (fun W h => h), ?_⟩
          simp only [Act.put, zp1, zp2, zp3]
          repeat (first
            | ((refine seq_skip (by rfl) (by rfl) ?_); simp only [Act.put, zp1, zp2, zp3])
            | ((refine seq_val (v := ?_) (by rfl) (by rfl) (fun w hS => ?_) ?_); rotate_left; (focus ((try dsimp only at hS); go_simp; (try (with_reducible rfl)); done)); simp only [Act.put, zp1, zp2, zp3]))
          obtain ⟨w4, hw4⟩ : ∃ W, W = ((w3.setCell ⟨w2.heap.size, 0, none⟩ (.int .i64 K)).setCell ⟨w2.heap.size, 1, none⟩ (.int .i64 A)).setCell ⟨w2.heap.size, 2, none⟩ (.int .i64 D) := ⟨_, rfl⟩
          obtain ⟨dd0, dd1, dd2, dd3, dd4⟩ := box3_sets q5 q6 q7 (.int .i64 K) (.int .i64 A) (.int .i64 D)
          refine seq_store (w' := w4) (by rfl) (by rfl) (by rw [hw4]; go_simp; (try (with_reducible rfl)); done) ?_
          have hT : (w.heap.size < w4.heap.size ∧ ∀ i, w4.frozen? ⟨w.heap.size, i, none⟩ = false) ∧ w4.cell? ⟨w.heap.size, 0, none⟩ = some (.int .i64 (0)) ∧ w4.cell? ⟨w.heap.size, 1, none⟩ = some (.int .i64 (0)) ∧ w4.cell? ⟨w.heap.size, 2, none⟩ = some (.int .i64 (0)) ∧ (w2.heap.size < w4.heap.size ∧ ∀ i, w4.frozen? ⟨w2.heap.size, i, none⟩ = false) ∧ w4.cell? ⟨w2.heap.size, 0, none⟩ = some (.int .i64 K) ∧ w4.cell? ⟨w2.heap.size, 1, none⟩ = some (.int .i64 A) ∧ w4.cell? ⟨w2.heap.size, 2, none⟩ = some (.int .i64 D) ∧ Below w.heap.size w w4 := by rw [hw4]; exact ⟨⟨by simpa using f0, fun i => by simpa using fr0 i⟩, (box3_other (by first | omega | (simp; done) | (simp; omega)) (.int .i64 K) (.int .i64 A) (.int .i64 D) 0).trans q1, (box3_other (by first | omega | (simp; done) | (simp; omega)) (.int .i64 K) (.int .i64 A) (.int .i64 D) 1).trans q2, (box3_other (by first | omega | (simp; done) | (simp; omega)) (.int .i64 K) (.int .i64 A) (.int .i64 D) 2).trans q3, ⟨by simpa using f4, fun i => by simpa using fr4 i⟩, dd2, dd3, dd4, by go_grown⟩
          (try clear hS)
          have hS := hT
          clear hT dd0 dd1 dd2 dd3 dd4 hw4
          have hS2 := hS
          obtain ⟨⟨f0, fr0⟩, q1, q2, q3, ⟨f4, fr4⟩, q5, q6, q7, hF⟩ := hS2
          have hzw : w.heap.size ≤ w4.heap.size := hF.size
          have hB := hF
          have hz1 : w.heap.size < w4.heap.size := World.block_lt_of_cell? w4 _ q1
          have hz2 : w2.heap.size < w4.heap.size := World.block_lt_of_cell? w4 _ q5
          refine ⟨(fun W => Below w.heap.size w W), hS.2.2.2.2.2.2.2.2, (fun W h => h), ?_⟩
          simp only [Act.put, zp1, zp2, zp3]
          repeat (first
            | ((refine seq_skip (by rfl) (by rfl) ?_); simp only [Act.put, zp1, zp2, zp3])
            | ((refine seq_val (v := ?_) (by rfl) (by rfl) (fun w hS => ?_) ?_); rotate_left; (focus ((try dsimp only at hS); go_simp; (try (with_reducible rfl)); done)); simp only [Act.put, zp1, zp2, zp3]))
          refine seq_nil ?_
          go_wp2_with fail
          go_meet
          case rel => exact ⟨w2.heap.size, rfl, by omega, hS.1, hS.2.1, hS.2.2.1, hS.2.2.2.1, hS.2.2.2.2.1, hS.2.2.2.2.2.1, hS.2.2.2.2.2.2.1, hS.2.2.2.2.2.2.2.1, hS.2.2.2.2.2.2.2.2⟩
        · refine all_seq_core [0, 1, 3, 4, 6, 7, 2, 5, 8, 9, 10, 11] (fun W => Below w.heap.size w W) (Core.trans (Core.trans (addE_core 2 10 _) (addE_core 5 10 _)) (addE_core 8 10 _)) (by kernel_rfl) hS.2.2.2.2 ?_
          simp only [byNum, List.getElem?_cons_zero, List.getElem?_cons_succ]
          repeat (first
            | ((refine seq_skip (by rfl) (by rfl) ?_); simp only [Act.put, zp1, zp2, zp3])
            | ((refine seq_val (v := ?_) (by rfl) (by rfl) (fun w hS => ?_) ?_); rotate_left; (focus ((try dsimp only at hS); go_simp; (try (with_reducible rfl)); done)); simp only [Act.put, zp1, zp2, zp3]))
          refine seq_call (f := ?_) (args := ?_) (by rfl) (by rfl) ?_ ?_
          rotate_left
          rotate_left
          focus (go_simp; (constructor <;> (with_reducible rfl)); done)
          refine (hk0 _).mono ?_
          rintro e wz ⟨rfl, rfl⟩
          refine ⟨_, rfl, (fun W => Below w.heap.size w W), hS.2.2.2.2, (fun W h => h), ?_⟩
          simp only [Act.put, zp1, zp2, zp3]
          repeat (first
            | ((refine seq_skip (by rfl) (by rfl) ?_); simp only [Act.put, zp1, zp2, zp3])
            | ((refine seq_val (v := ?_) (by rfl) (by rfl) (fun w hS => ?_) ?_); rotate_left; (focus ((try dsimp only at hS); go_simp; (try (with_reducible rfl)); done)); simp only [Act.put, zp1, zp2, zp3]))
          refine seq_call (f := ?_) (args := ?_) (by rfl) (by rfl) ?_ ?_
          rotate_left
          rotate_left
          focus (go_simp; (constructor <;> (with_reducible rfl)); done)
          refine (hk1 _).mono ?_
          rintro e wz ⟨rfl, rfl⟩
          refine ⟨_, rfl, (fun W => Below w.heap.size w W), hS.2.2.2.2, (fun W h => h), ?_⟩
          simp only [Act.put, zp1, zp2, zp3]
          repeat (first
            | ((refine seq_skip (by rfl) (by rfl) ?_); simp only [Act.put, zp1, zp2, zp3])
            | ((refine seq_val (v := ?_) (by rfl) (by rfl) (fun w hS => ?_) ?_); rotate_left; (focus ((try dsimp only at hS); go_simp; (try (with_reducible rfl)); done)); simp only [Act.put, zp1, zp2, zp3]))
          refine seq_call (f := ?_) (args := ?_) (by rfl) (by rfl) ?_ ?_
          rotate_left
          rotate_left
          focus (go_simp; (constructor <;> (with_reducible rfl)); done)
          refine (hk2 _).mono ?_
          rintro e wz ⟨rfl, rfl⟩
          refine ⟨_, rfl, (fun W => Below w.heap.size w W), hS.2.2.2.2, (fun W h => h), ?_⟩
          simp only [Act.put, zp1, zp2, zp3]
          repeat (first
            | ((refine seq_skip (by rfl) (by rfl) ?_); simp only [Act.put, zp1, zp2, zp3])
            | ((refine seq_val (v := ?_) (by rfl) (by rfl) (fun w hS => ?_) ?_); rotate_left; (focus ((try dsimp only at hS); go_simp; (try (with_reducible rfl)); done)); simp only [Act.put, zp1, zp2, zp3]))
          refine seq_deed (v := ?_) (w' := ?_) (by rfl) (by rfl) ?_ ?_
          rotate_left
          rotate_left
          focus (go_simp; (constructor <;> (with_reducible rfl)); done)
          generalize hgw3 : World.alloc w2 _ = w3
          have hb : Below w2.heap.size w2 w3 := by rw [← hgw3]; go_grown
          have hT : (w.heap.size < w3.heap.size ∧ ∀ i, w3.frozen? ⟨w.heap.size, i, none⟩ = false) ∧ w3.cell? ⟨w.heap.size, 0, none⟩ = some (.int .i64 (0)) ∧ w3.cell? ⟨w.heap.size, 1, none⟩ = some (.int .i64 (0)) ∧ w3.cell? ⟨w.heap.size, 2, none⟩ = some (.int .i64 (0)) ∧ (w2.heap.size < w3.heap.size ∧ ∀ i, w3.frozen? ⟨w2.heap.size, i, none⟩ = false) ∧ w3.cell? ⟨w2.heap.size, 0, none⟩ = some (.int .i64 (0)) ∧ w3.cell? ⟨w2.heap.size, 1, none⟩ = some (.int .i64 (0)) ∧ w3.cell? ⟨w2.heap.size, 2, none⟩ = some (.int .i64 (0)) ∧ Below w.heap.size w w3 := ⟨keep_fre hb (hS.1), keep_cell hb (hS.2.1), keep_cell hb (hS.2.2.1), keep_cell hb (hS.2.2.2.1), ⟨by rw [← hgw3]; simp [go_sem], by rw [← hgw3]; simp [go_sem]⟩, by rw [← hgw3]; simp [go_sem], by rw [← hgw3]; simp [go_sem], by rw [← hgw3]; simp [go_sem], below_via (hS.2.2.2.2) hb⟩
          clear hS hb hgw3
          have hS := hT
          clear hT
          have hS2 := hS
          obtain ⟨⟨f0, fr0⟩, q1, q2, q3, ⟨f4, fr4⟩, q5, q6, q7, hF⟩ := hS2
          have hzw : w.heap.size ≤ w3.heap.size := hF.size
          have hB := hF
          have hz1 : w.heap.size < w3.heap.size := World.block_lt_of_cell? w3 _ q1
          have hz2 : w2.heap.size < w3.heap.size := World.block_lt_of_cell? w3 _ q5
          refine ⟨(fun W => Below w.heap.size w W), hS.2.2.2.2.2.2.2.2, (fun W h => h), ?_⟩
          simp only [Act.put, zp1, zp2, zp3]
          repeat (first
            | ((refine seq_skip (by rfl) (by rfl) ?_); simp only [Act.put, zp1, zp2, zp3])
            | ((refine seq_val (v := ?_) (by rfl) (by rfl) (fun w hS => ?_) ?_); rotate_left; (focus ((try dsimp only at hS); go_simp; (try (with_reducible rfl)); done)); simp only [Act.put, zp1, zp2, zp3]))
          obtain ⟨w4, hw4⟩ : ∃ W, W = ((w3.setCell ⟨w2.heap.size, 0, none⟩ (.int .i64 K)).setCell ⟨w2.heap.size, 1, none⟩ (.int .i64 A)).setCell ⟨w2.heap.size, 2, none⟩ (.int .i64 D) := ⟨_, rfl⟩
          obtain ⟨dd0, dd1, dd2, dd3, dd4⟩ := box3_sets q5 q6 q7 (.int .i64 K) (.int .i64 A) (.int .i64 D)
          refine seq_store (w' := w4) (by rfl) (by rfl) (by rw [hw4]; go_simp; (try (with_reducible rfl)); done) ?_
          have hT : (w.heap.size < w4.heap.size ∧ ∀ i, w4.frozen? ⟨w.heap.size, i, none⟩ = false) ∧ w4.cell? ⟨w.heap.size, 0, none⟩ = some (.int .i64 (0)) ∧ w4.cell? ⟨w.heap.size, 1, none⟩ = some (.int .i64 (0)) ∧ w4.cell? ⟨w.heap.size, 2, none⟩ = some (.int .i64 (0)) ∧ (w2.heap.size < w4.heap.size ∧ ∀ i, w4.frozen? ⟨w2.heap.size, i, none⟩ = false) ∧ w4.cell? ⟨w2.heap.size, 0, none⟩ = some (.int .i64 K) ∧ w4.cell? ⟨w2.heap.size, 1, none⟩ = some (.int .i64 A) ∧ w4.cell? ⟨w2.heap.size, 2, none⟩ = some (.int .i64 D) ∧ Below w.heap.size w w4 := by rw [hw4]; exact ⟨⟨by simpa using f0, fun i => by simpa using fr0 i⟩, (box3_other (by first | omega | (simp; done) | (simp; omega)) (.int .i64 K) (.int .i64 A) (.int .i64 D) 0).trans q1, (box3_other (by first | omega | (simp; done) | (simp; omega)) (.int .i64 K) (.int .i64 A) (.int .i64 D) 1).trans q2, (box3_other (by first | omega | (simp; done) | (simp; omega)) (.int .i64 K) (.int .i64 A) (.int .i64 D) 2).trans q3, ⟨by simpa using f4, fun i => by simpa using fr4 i⟩, dd2, dd3, dd4, by go_grown⟩
          (try clear hS)
          have hS := hT
          clear hT dd0 dd1 dd2 dd3 dd4 hw4
          have hS2 := hS
          obtain ⟨⟨f0, fr0⟩, q1, q2, q3, ⟨f4, fr4⟩, q5, q6, q7, hF⟩ := hS2
          have hzw : w.heap.size ≤ w4.heap.size := hF.size
          have hB := hF
          have hz1 : w.heap.size < w4.heap.size := World.block_lt_of_cell? w4 _ q1
          have hz2 : w2.heap.size < w4.heap.size := World.block_lt_of_cell? w4 _ q5
          refine ⟨(fun W => Below w.heap.size w W), hS.2.2.2.2.2.2.2.2, (fun W h => h), ?_⟩
          simp only [Act.put, zp1, zp2, zp3]
          repeat (first
            | ((refine seq_skip (by rfl) (by rfl) ?_); simp only [Act.put, zp1, zp2, zp3])
            | ((refine seq_val (v := ?_) (by rfl) (by rfl) (fun w hS => ?_) ?_); rotate_left; (focus ((try dsimp only at hS); go_simp; (try (with_reducible rfl)); done)); simp only [Act.put, zp1, zp2, zp3]))
          refine seq_nil ?_
          go_wp2_with fail
          go_meet
          case rel => exact ⟨w2.heap.size, rfl, by omega, hS.1, hS.2.1, hS.2.2.1, hS.2.2.2.1, hS.2.2.2.2.1, hS.2.2.2.2.2.1, hS.2.2.2.2.2.2.1, hS.2.2.2.2.2.2.2.1, hS.2.2.2.2.2.2.2.2⟩
  obtain ⟨T, rfl, hTT, hS3⟩ := hcut
  (try clear hS)
  have hS := hS3
  clear hS3
  have hS2 := hS
  obtain ⟨⟨f0, fr0⟩, q1, q2, q3, ⟨f4, fr4⟩, q5, q6, q7, hF⟩ := hS2
  have hzw : w.heap.size ≤ wc.heap.size := hF.size
  have hB := hF
  have hz1 : w.heap.size < wc.heap.size := World.block_lt_of_cell? wc _ q1
  have hz2 : T < wc.heap.size := World.block_lt_of_cell? wc _ q5
  rcases V with _ | _
  · go_wp2_with fail
    refine (hgd _).mono ?_
    rintro e w61 ⟨rfl, hb9⟩
    have hT : (w.heap.size < w61.heap.size ∧ ∀ i, w61.frozen? ⟨w.heap.size, i, none⟩ = false) ∧ w61.cell? ⟨w.heap.size, 0, none⟩ = some (.int .i64 (0)) ∧ w61.cell? ⟨w.heap.size, 1, none⟩ = some (.int .i64 (0)) ∧ w61.cell? ⟨w.heap.size, 2, none⟩ = some (.int .i64 (0)) ∧ (T < w61.heap.size ∧ ∀ i, w61.frozen? ⟨T, i, none⟩ = false) ∧ w61.cell? ⟨T, 0, none⟩ = some (.int .i64 K) ∧ w61.cell? ⟨T, 1, none⟩ = some (.int .i64 A) ∧ w61.cell? ⟨T, 2, none⟩ = some (.int .i64 D) ∧ Below w.heap.size w w61 := ⟨keep_fre hb9 (hS.1), keep_cell hb9 (hS.2.1), keep_cell hb9 (hS.2.2.1), keep_cell hb9 (hS.2.2.2.1), keep_fre hb9 (hS.2.2.2.2.1), keep_cell hb9 (hS.2.2.2.2.2.1), keep_cell hb9 (hS.2.2.2.2.2.2.1), keep_cell hb9 (hS.2.2.2.2.2.2.2.1), below_via (hS.2.2.2.2.2.2.2.2) hb9⟩
    clear hS hb9
    have hS := hT
    clear hT
    have hS2 := hS
    obtain ⟨⟨f0, fr0⟩, q1, q2, q3, ⟨f4, fr4⟩, q5, q6, q7, hF⟩ := hS2
    have hzw : w.heap.size ≤ w61.heap.size := hF.size
    have hB := hF
    have hz1 : w.heap.size < w61.heap.size := World.block_lt_of_cell? w61 _ q1
    have hz2 : T < w61.heap.size := World.block_lt_of_cell? w61 _ q5
    obtain ⟨e0_0, e0_1, e0_2, e0_3, e0_4⟩ := box3_sets (w := w61) q1 q2 q3 (.int .i64 (0)) (.int .i64 (0)) (.int .i64 (0))
    go_wp2
    refine bodyPost_ret (by simp [results, Try.results96, go_sem, e0_2, e0_3, e0_4]; try rfl) rfl ?_
    exact ⟨ret_eq (by simp), by go_grown⟩
  · go_wp2_with fail
    refine (hgd _).mono ?_
    rintro e w61 ⟨rfl, hb9⟩
    have hT : (w.heap.size < w61.heap.size ∧ ∀ i, w61.frozen? ⟨w.heap.size, i, none⟩ = false) ∧ w61.cell? ⟨w.heap.size, 0, none⟩ = some (.int .i64 (0)) ∧ w61.cell? ⟨w.heap.size, 1, none⟩ = some (.int .i64 (0)) ∧ w61.cell? ⟨w.heap.size, 2, none⟩ = some (.int .i64 (0)) ∧ (T < w61.heap.size ∧ ∀ i, w61.frozen? ⟨T, i, none⟩ = false) ∧ w61.cell? ⟨T, 0, none⟩ = some (.int .i64 K) ∧ w61.cell? ⟨T, 1, none⟩ = some (.int .i64 A) ∧ w61.cell? ⟨T, 2, none⟩ = some (.int .i64 D) ∧ Below w.heap.size w w61 := ⟨keep_fre hb9 (hS.1), keep_cell hb9 (hS.2.1), keep_cell hb9 (hS.2.2.1), keep_cell hb9 (hS.2.2.2.1), keep_fre hb9 (hS.2.2.2.2.1), keep_cell hb9 (hS.2.2.2.2.2.1), keep_cell hb9 (hS.2.2.2.2.2.2.1), keep_cell hb9 (hS.2.2.2.2.2.2.2.1), below_via (hS.2.2.2.2.2.2.2.2) hb9⟩
    clear hS hb9
    have hS := hT
    clear hT
    have hS2 := hS
    obtain ⟨⟨f0, fr0⟩, q1, q2, q3, ⟨f4, fr4⟩, q5, q6, q7, hF⟩ := hS2
    have hzw : w.heap.size ≤ w61.heap.size := hF.size
    have hB := hF
    have hz1 : w.heap.size < w61.heap.size := World.block_lt_of_cell? w61 _ q1
    have hz2 : T < w61.heap.size := World.block_lt_of_cell? w61 _ q5
    obtain ⟨e0_0, e0_1, e0_2, e0_3, e0_4⟩ := box3_sets (w := w61) q1 q2 q3 (.int .i64 K) (.int .i64 A) (.int .i64 D)
    go_wp2
    refine bodyPost_ret (by simp [results, Try.results96, go_sem, e0_2, e0_3, e0_4]; try rfl) rfl ?_
    exact ⟨ret_eq (by simp), by go_grown⟩
end Go.Proofs.Ytbeojfhakmbacaa
