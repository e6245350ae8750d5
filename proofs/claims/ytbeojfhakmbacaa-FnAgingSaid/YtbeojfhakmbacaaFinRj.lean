/- After time has passed no report is too old, and receiving a list is receiving its texts one after the other. No conditions. -/
import Derived.Deep.DeepCutAuto
import Derived.Test.YtbeojfhakmbacaaFinRjaa
import Derived.Test.YtbeojfhakmbacaaFinRjac
import Derived.Test.YtbeojfhakmbacaaFinRjah
import Derived.Test.YtbeojfhakmbacaaFinRjak
import Derived.Test.YtbeojfhakmbacaaFinRjal
import Derived.Test.YtbeojfhakmbacaaFinRjam
import Derived.Test.YtbeojfhakmbacaaFinRjap
namespace Go.Proofs.Ytbeojfhakmbacaa
open Go.RowKit
def bigB (n : Nat) : Bool := decide (65536 < n)
theorem bigB_no {n : Nat} (h : bigB n = false) : n ≤ 65536 := by have := of_decide_eq_false h; omega
theorem vBig_c (A : Option Addr) (n c : Nat)  (w : World) : Calls Try.prog 13 #[.slice A n c] w fun e w' => e = .returned (.bool (bigB n)) ∧ w = w' := by
  by_cases h : 65536 < n
  all_goals
    go_enter Try.func13, Try.ntmps13
    go_wp2
    all_goals (go_returns; exact ⟨ret_eq (by unfold bigB; simp [h]; (try omega)), rfl⟩)
theorem ra_okR {m : Int} {l : List Hd} {ls : List ByteArray} {t : Int} (h : raK m l ls t = true) : okR m l = true ∧ ls.length ≤ 20 := by
  unfold raK at h
  simp only [Bool.and_eq_true, decide_eq_true_eq] at h
  exact ⟨h.1, h.2.1⟩
theorem Receive2_c (m : Int) (A : Option Addr) (c : Nat) (l : List Hd) (s : ByteArray) (t : Int) (w : World) (h1 : Hid (Reads w w.heap.size 10 A l.length (hds l))) (b1 : l.length ≤ 4000000) (ho : okR m l = true) (hmax : s.size ≤ 1000000000000) : Calls Try.prog 15 #[.agg #[.int .i64 m, .slice A l.length c], .string s, .int .i64 t] w (GivesS w 42 10 (rvV m l s t).length (hds (rvV m l s t)) (fun v => .tuple #[.agg #[.int .i64 (rvM m l s t), v], .bool (rvK m l s t)])) := by
  obtain ⟨e1, e2, e3⟩ := Rv_ok (s := s) (t := t) ho
  have h := Receive_c m A c l s t w h1 b1 hmax
  rw [e1, e2, e3] at h
  exact h
set_option maxRecDepth 100000 in
set_option maxHeartbeats 20000000 in
theorem fnAging (A : Option Addr) (n c : Nat) (w : World) (h1 : Hid (CodeOk w A n))  : Calls Try.prog 11 #[.slice A n c] w (Gives w (.bool true)) := by
  rcases kb : bigB n with _ | _
  rotate_left
  · have HKB := hide kb
    clear kb
    go_enter Try.func11, Try.ntmps11
    go_wp2_with (first | (go_at_call 13; refine (vBig_c _ _ _ _).mono ?_; rintro e w1 ⟨rfl, rfl⟩; rw [HKB.out]))
    go_returns
    exact ⟨ret_eq rfl, by go_grown⟩
  have HKB := hide kb
  have HN := hide (bigB_no kb)
  clear kb
  go_enter Try.func11, Try.ntmps11
  go_wp2_with fail
  refine (vBig_c _ _ _ _).mono ?_
  rintro e wz ⟨rfl, rfl⟩
  rw [HKB.out]
  go_wp2_with fail
  refine (drawPass_c A n c _ (hide (h1.out.below (by go_grown))) HN.out).mono ?_
  rintro e w1 ⟨m, l, A1, c1, x, rfl, ho1, hl20, ⟨hm0, hm1⟩, ⟨hx0, hx1⟩, hb⟩
  obtain ⟨b1, ho1, hbk1⟩ := own_based ho1 (m := w.heap.size) (by first | omega | (simp; done) | (simp; omega))
  have hT : w1.ownsRow (b1) 42 10 (.slice A1 l.length c1) (l.length) (hds l) ∧ Below w.heap.size w w1 := ⟨ho1, (fun W h hb => below_via h (hb) : ∀ W : World, (Below w.heap.size w W) → Below W.heap.size W w1 → (Below w.heap.size w w1)) _ (by first | (with_reducible assumption) | go_grown) hb⟩
  (try clear hS)
  have hS := hT
  clear hT
  have hB := hS.2
  have hzw : w.heap.size ≤ w1.heap.size := hB.size
  clear hb
  go_wp2_with fail
  obtain ⟨w2, hww2⟩ : ∃ W, W = w1.alloc (.cells #[.int .i64 m, .slice A1 l.length c1] 26) := ⟨_, rfl⟩
  have hT : w2.cell? ⟨w1.heap.size, 0, none⟩ = some (.int .i64 m) ∧ w2.cell? ⟨w1.heap.size, 1, none⟩ = some (.slice A1 l.length c1) ∧ w2.ownsRow (b1) 42 10 (.slice A1 l.length c1) (l.length) (hds l) ∧ Below w.heap.size w w2 := by
    rw [hww2]
    exact ⟨by simp [go_sem], by simp [go_sem], own_below hS.1 (by go_grown), below_via hS.2 (by go_grown)⟩
  rw [← hww2]
  clear hS hww2
  have hS := hT
  clear hT
  (try clear hB hzw)
  have hB := hS.2.2.2
  have hzw : w.heap.size ≤ w2.heap.size := hB.size
  have hz1 : w1.heap.size < w2.heap.size := World.block_lt_of_cell? w2 _ (hS.1)
  have hvl := ptV_len m l x
  have HPT := hide (fun (h : ptK m l x = true) => pt_facts h rfl rfl)
  obtain ⟨V, hV0⟩ : ∃ q, ptV m l x = q := ⟨_, rfl⟩
  obtain ⟨M, hM0⟩ : ∃ q, ptM m l x = q := ⟨_, rfl⟩
  obtain ⟨K, hK0⟩ : ∃ q, ptK m l x = q := ⟨_, rfl⟩
  rw [hV0, hM0, hK0] at HPT
  rw [hV0] at hvl
  have HV := hide hV0
  have HM := hide hM0
  have HK := hide hK0
  clear hV0 hM0 hK0
  go_wp2_with fail
  refine (PassTime_c m A1 c1 l x _ (hide (own_reads (hS.2.2.1))) (by omega)).mono ?_
  rw [HV.out, HM.out, HK.out]
  rintro e w3 ⟨A2, c2, rfl, ho2, hb⟩
  obtain ⟨b2, ho2, hbk2⟩ := own_based ho2 (m := w2.heap.size) (by first | omega | (simp; done) | (simp; omega))
  have hT : w3.ownsRow (b2) 42 10 (.slice A2 V.length c2) (V.length) (hds V) ∧ w3.cell? ⟨w1.heap.size, 0, none⟩ = some (.int .i64 m) ∧ w3.cell? ⟨w1.heap.size, 1, none⟩ = some (.slice A1 l.length c1) ∧ w3.ownsRow (b1) 42 10 (.slice A1 l.length c1) (l.length) (hds l) ∧ Below w.heap.size w w3 := ⟨ho2, ⟨keep_cell (hb) hS.1, keep_cell (hb) hS.2.1, own_below hS.2.2.1 (hb), below_via hS.2.2.2 (hb)⟩⟩
  (try clear hS)
  have hS := hT
  clear hT
  have hB := hS.2.2.2.2
  have hzw : w.heap.size ≤ w3.heap.size := hB.size
  have hz1 : w1.heap.size < w3.heap.size := World.block_lt_of_cell? w3 _ (hS.2.1)
  clear hb
  go_wp2_with fail
  obtain ⟨w4, hww4⟩ : ∃ W, W = w3.alloc (.cells #[.int .i64 M, .slice A2 V.length c2] 26) := ⟨_, rfl⟩
  have hT : w4.cell? ⟨w3.heap.size, 0, none⟩ = some (.int .i64 M) ∧ w4.cell? ⟨w3.heap.size, 1, none⟩ = some (.slice A2 V.length c2) ∧ w4.ownsRow (b2) 42 10 (.slice A2 V.length c2) (V.length) (hds V) ∧ w4.cell? ⟨w1.heap.size, 0, none⟩ = some (.int .i64 m) ∧ w4.cell? ⟨w1.heap.size, 1, none⟩ = some (.slice A1 l.length c1) ∧ w4.ownsRow (b1) 42 10 (.slice A1 l.length c1) (l.length) (hds l) ∧ Below w.heap.size w w4 := by
    rw [hww4]
    exact ⟨by simp [go_sem], by simp [go_sem], own_below hS.1 (by go_grown), keep_cell (by go_grown) hS.2.1, keep_cell (by go_grown) hS.2.2.1, own_below hS.2.2.2.1 (by go_grown), below_via hS.2.2.2.2 (by go_grown)⟩
  rw [← hww4]
  clear hS hww4
  have hS := hT
  clear hT
  (try clear hB hzw)
  have hB := hS.2.2.2.2.2.2
  have hzw : w.heap.size ≤ w4.heap.size := hB.size
  have hz1 : w3.heap.size < w4.heap.size := World.block_lt_of_cell? w4 _ (hS.1)
  have hz2 : w1.heap.size < w4.heap.size := World.block_lt_of_cell? w4 _ (hS.2.2.2.1)
  go_wp2_with fail
  refine (sPassTime_c m A1 c1 l x _ (hide (own_reads (hS.2.2.2.2.2.1))) (by omega)).mono ?_
  rw [HV.out, HM.out, HK.out]
  rintro e w5 ⟨A3, c3, rfl, ho3, hb⟩
  obtain ⟨b3, ho3, hbk3⟩ := own_based ho3 (m := w4.heap.size) (by first | omega | (simp; done) | (simp; omega))
  have hT : w5.ownsRow (b3) 42 10 (.slice A3 V.length c3) (V.length) (hds V) ∧ w5.cell? ⟨w3.heap.size, 0, none⟩ = some (.int .i64 M) ∧ w5.cell? ⟨w3.heap.size, 1, none⟩ = some (.slice A2 V.length c2) ∧ w5.ownsRow (b2) 42 10 (.slice A2 V.length c2) (V.length) (hds V) ∧ w5.cell? ⟨w1.heap.size, 0, none⟩ = some (.int .i64 m) ∧ w5.cell? ⟨w1.heap.size, 1, none⟩ = some (.slice A1 l.length c1) ∧ w5.ownsRow (b1) 42 10 (.slice A1 l.length c1) (l.length) (hds l) ∧ Below w.heap.size w w5 := ⟨ho3, ⟨keep_cell (hb) hS.1, keep_cell (hb) hS.2.1, own_below hS.2.2.1 (hb), keep_cell (hb) hS.2.2.2.1, keep_cell (hb) hS.2.2.2.2.1, own_below hS.2.2.2.2.2.1 (hb), below_via hS.2.2.2.2.2.2 (hb)⟩⟩
  (try clear hS)
  have hS := hT
  clear hT
  have hB := hS.2.2.2.2.2.2.2
  have hzw : w.heap.size ≤ w5.heap.size := hB.size
  have hz1 : w3.heap.size < w5.heap.size := World.block_lt_of_cell? w5 _ (hS.2.1)
  have hz2 : w1.heap.size < w5.heap.size := World.block_lt_of_cell? w5 _ (hS.2.2.2.2.1)
  clear hb
  go_upto_region 6 with fail
  obtain ⟨w6, hww6⟩ : ∃ W, W = w5.alloc (.cells #[.int .i64 M, .slice A3 V.length c3] 26) := ⟨_, rfl⟩
  have hT : w6.cell? ⟨w5.heap.size, 0, none⟩ = some (.int .i64 M) ∧ w6.cell? ⟨w5.heap.size, 1, none⟩ = some (.slice A3 V.length c3) ∧ w6.ownsRow (b3) 42 10 (.slice A3 V.length c3) (V.length) (hds V) ∧ w6.cell? ⟨w3.heap.size, 0, none⟩ = some (.int .i64 M) ∧ w6.cell? ⟨w3.heap.size, 1, none⟩ = some (.slice A2 V.length c2) ∧ w6.ownsRow (b2) 42 10 (.slice A2 V.length c2) (V.length) (hds V) ∧ w6.cell? ⟨w1.heap.size, 0, none⟩ = some (.int .i64 m) ∧ w6.cell? ⟨w1.heap.size, 1, none⟩ = some (.slice A1 l.length c1) ∧ w6.ownsRow (b1) 42 10 (.slice A1 l.length c1) (l.length) (hds l) ∧ Below w.heap.size w w6 := by
    rw [hww6]
    exact ⟨by simp [go_sem], by simp [go_sem], own_below hS.1 (by go_grown), keep_cell (by go_grown) hS.2.1, keep_cell (by go_grown) hS.2.2.1, own_below hS.2.2.2.1 (by go_grown), keep_cell (by go_grown) hS.2.2.2.2.1, keep_cell (by go_grown) hS.2.2.2.2.2.1, own_below hS.2.2.2.2.2.2.1 (by go_grown), below_via hS.2.2.2.2.2.2.2 (by go_grown)⟩
  rw [← hww6]
  clear hS hww6
  have hS := hT
  clear hT
  (try clear hB hzw)
  have hB := hS.2.2.2.2.2.2.2.2.2
  have hzw : w.heap.size ≤ w6.heap.size := hB.size
  have hz1 : w5.heap.size < w6.heap.size := World.block_lt_of_cell? w6 _ (hS.1)
  have hz2 : w3.heap.size < w6.heap.size := World.block_lt_of_cell? w6 _ (hS.2.2.2.1)
  have hz3 : w1.heap.size < w6.heap.size := World.block_lt_of_cell? w6 _ (hS.2.2.2.2.2.2.1)
  go_wp2_with fail
  refine (vReceiver_c M A2 A3 c2 c3 V _ (hide (own_reads (hS.2.2.2.2.2.1))) (hide (own_reads (hS.2.2.1))) (by omega)).mono ?_
  rintro e w7 ⟨rfl, hb⟩
  have hT : w7.cell? ⟨w5.heap.size, 0, none⟩ = some (.int .i64 M) ∧ w7.cell? ⟨w5.heap.size, 1, none⟩ = some (.slice A3 V.length c3) ∧ w7.ownsRow (b3) 42 10 (.slice A3 V.length c3) (V.length) (hds V) ∧ w7.cell? ⟨w3.heap.size, 0, none⟩ = some (.int .i64 M) ∧ w7.cell? ⟨w3.heap.size, 1, none⟩ = some (.slice A2 V.length c2) ∧ w7.ownsRow (b2) 42 10 (.slice A2 V.length c2) (V.length) (hds V) ∧ w7.cell? ⟨w1.heap.size, 0, none⟩ = some (.int .i64 m) ∧ w7.cell? ⟨w1.heap.size, 1, none⟩ = some (.slice A1 l.length c1) ∧ w7.ownsRow (b1) 42 10 (.slice A1 l.length c1) (l.length) (hds l) ∧ Below w.heap.size w w7 := ⟨keep_cell (hb) hS.1, keep_cell (hb) hS.2.1, own_below hS.2.2.1 (hb), keep_cell (hb) hS.2.2.2.1, keep_cell (hb) hS.2.2.2.2.1, own_below hS.2.2.2.2.2.1 (hb), keep_cell (hb) hS.2.2.2.2.2.2.1, keep_cell (hb) hS.2.2.2.2.2.2.2.1, own_below hS.2.2.2.2.2.2.2.2.1 (hb), below_via hS.2.2.2.2.2.2.2.2.2 (hb)⟩
  (try clear hS)
  have hS := hT
  clear hT
  have hB := hS.2.2.2.2.2.2.2.2.2
  have hzw : w.heap.size ≤ w7.heap.size := hB.size
  have hz1 : w5.heap.size < w7.heap.size := World.block_lt_of_cell? w7 _ (hS.1)
  have hz2 : w3.heap.size < w7.heap.size := World.block_lt_of_cell? w7 _ (hS.2.2.2.1)
  have hz3 : w1.heap.size < w7.heap.size := World.block_lt_of_cell? w7 _ (hS.2.2.2.2.2.2.1)
  clear hb
  go_upto_if 61 with fail
  go_cut [] (fun wx => Below w.heap.size w wx)
  case first => as_aux_lemma =>
    cases K
    · go_wp2_with fail
      go_meet
      case rel => go_grown
    obtain ⟨rfl, ⟨u0, u1⟩, f1, ⟨f2, f3, f4⟩, f5, f6⟩ := HPT.out rfl
    have HPA := hide (fun (W : World) h => PassTime_c M A2 c2 V M W h (by omega))
    rw [f4, f3, f2] at HPA
    have HVI := hide (fun (W : World) h => validRecv_c M A2 c2 V W h (by omega))
    rw [f1] at HVI
    have HEL := hide f6
    clear f1 f2 f3 f4 f6
    go_wp2_with fail
    refine (HPA.out _ (hide (own_reads (hS.2.2.2.2.2.1)))).mono ?_
    rintro e w8 ⟨A4, c4, rfl, ho4, hb⟩
    obtain ⟨b4, ho4, hbk4⟩ := own_based ho4 (m := w7.heap.size) (by first | omega | (simp; done) | (simp; omega))
    have hT : w8.ownsRow (b4) 42 10 (.slice A4 V.length c4) (V.length) (hds V) ∧ w8.cell? ⟨w5.heap.size, 0, none⟩ = some (.int .i64 M) ∧ w8.cell? ⟨w5.heap.size, 1, none⟩ = some (.slice A3 V.length c3) ∧ w8.ownsRow (b3) 42 10 (.slice A3 V.length c3) (V.length) (hds V) ∧ w8.cell? ⟨w3.heap.size, 0, none⟩ = some (.int .i64 M) ∧ w8.cell? ⟨w3.heap.size, 1, none⟩ = some (.slice A2 V.length c2) ∧ w8.ownsRow (b2) 42 10 (.slice A2 V.length c2) (V.length) (hds V) ∧ w8.cell? ⟨w1.heap.size, 0, none⟩ = some (.int .i64 m) ∧ w8.cell? ⟨w1.heap.size, 1, none⟩ = some (.slice A1 l.length c1) ∧ w8.ownsRow (b1) 42 10 (.slice A1 l.length c1) (l.length) (hds l) ∧ Below w.heap.size w w8 := ⟨ho4, ⟨keep_cell (hb) hS.1, keep_cell (hb) hS.2.1, own_below hS.2.2.1 (hb), keep_cell (hb) hS.2.2.2.1, keep_cell (hb) hS.2.2.2.2.1, own_below hS.2.2.2.2.2.1 (hb), keep_cell (hb) hS.2.2.2.2.2.2.1, keep_cell (hb) hS.2.2.2.2.2.2.2.1, own_below hS.2.2.2.2.2.2.2.2.1 (hb), below_via hS.2.2.2.2.2.2.2.2.2 (hb)⟩⟩
    (try clear hS)
    have hS := hT
    clear hT
    have hB := hS.2.2.2.2.2.2.2.2.2.2
    have hzw : w.heap.size ≤ w8.heap.size := hB.size
    have hz1 : w5.heap.size < w8.heap.size := World.block_lt_of_cell? w8 _ (hS.2.1)
    have hz2 : w3.heap.size < w8.heap.size := World.block_lt_of_cell? w8 _ (hS.2.2.2.2.1)
    have hz3 : w1.heap.size < w8.heap.size := World.block_lt_of_cell? w8 _ (hS.2.2.2.2.2.2.2.1)
    clear hb
    go_upto_region 10 with fail
    obtain ⟨w9, hww9⟩ : ∃ W, W = w8.alloc (.cells #[.int .i64 M, .slice A4 V.length c4] 26) := ⟨_, rfl⟩
    have hT : w9.cell? ⟨w8.heap.size, 0, none⟩ = some (.int .i64 M) ∧ w9.cell? ⟨w8.heap.size, 1, none⟩ = some (.slice A4 V.length c4) ∧ w9.ownsRow (b4) 42 10 (.slice A4 V.length c4) (V.length) (hds V) ∧ w9.cell? ⟨w5.heap.size, 0, none⟩ = some (.int .i64 M) ∧ w9.cell? ⟨w5.heap.size, 1, none⟩ = some (.slice A3 V.length c3) ∧ w9.ownsRow (b3) 42 10 (.slice A3 V.length c3) (V.length) (hds V) ∧ w9.cell? ⟨w3.heap.size, 0, none⟩ = some (.int .i64 M) ∧ w9.cell? ⟨w3.heap.size, 1, none⟩ = some (.slice A2 V.length c2) ∧ w9.ownsRow (b2) 42 10 (.slice A2 V.length c2) (V.length) (hds V) ∧ w9.cell? ⟨w1.heap.size, 0, none⟩ = some (.int .i64 m) ∧ w9.cell? ⟨w1.heap.size, 1, none⟩ = some (.slice A1 l.length c1) ∧ w9.ownsRow (b1) 42 10 (.slice A1 l.length c1) (l.length) (hds l) ∧ Below w.heap.size w w9 := by
      rw [hww9]
      exact ⟨by simp [go_sem], by simp [go_sem], own_below hS.1 (by go_grown), keep_cell (by go_grown) hS.2.1, keep_cell (by go_grown) hS.2.2.1, own_below hS.2.2.2.1 (by go_grown), keep_cell (by go_grown) hS.2.2.2.2.1, keep_cell (by go_grown) hS.2.2.2.2.2.1, own_below hS.2.2.2.2.2.2.1 (by go_grown), keep_cell (by go_grown) hS.2.2.2.2.2.2.2.1, keep_cell (by go_grown) hS.2.2.2.2.2.2.2.2.1, own_below hS.2.2.2.2.2.2.2.2.2.1 (by go_grown), below_via hS.2.2.2.2.2.2.2.2.2.2 (by go_grown)⟩
    rw [← hww9]
    clear hS hww9
    have hS := hT
    clear hT
    (try clear hB hzw)
    have hB := hS.2.2.2.2.2.2.2.2.2.2.2.2
    have hzw : w.heap.size ≤ w9.heap.size := hB.size
    have hz1 : w8.heap.size < w9.heap.size := World.block_lt_of_cell? w9 _ (hS.1)
    have hz2 : w5.heap.size < w9.heap.size := World.block_lt_of_cell? w9 _ (hS.2.2.2.1)
    have hz3 : w3.heap.size < w9.heap.size := World.block_lt_of_cell? w9 _ (hS.2.2.2.2.2.2.1)
    have hz4 : w1.heap.size < w9.heap.size := World.block_lt_of_cell? w9 _ (hS.2.2.2.2.2.2.2.2.2.1)
    have hvl2 : decide ((l.length : Int) < (V.length : Int)) = false := decide_eq_false (by omega)
    go_wp2_with fail
    refine (vReceiver_c M A4 A2 c4 c2 V _ (hide (own_reads (hS.2.2.1))) (hide (own_reads (hS.2.2.2.2.2.2.2.2.1))) (by omega)).mono ?_
    rintro e w10 ⟨rfl, hb⟩
    have hT : w10.cell? ⟨w8.heap.size, 0, none⟩ = some (.int .i64 M) ∧ w10.cell? ⟨w8.heap.size, 1, none⟩ = some (.slice A4 V.length c4) ∧ w10.ownsRow (b4) 42 10 (.slice A4 V.length c4) (V.length) (hds V) ∧ w10.cell? ⟨w5.heap.size, 0, none⟩ = some (.int .i64 M) ∧ w10.cell? ⟨w5.heap.size, 1, none⟩ = some (.slice A3 V.length c3) ∧ w10.ownsRow (b3) 42 10 (.slice A3 V.length c3) (V.length) (hds V) ∧ w10.cell? ⟨w3.heap.size, 0, none⟩ = some (.int .i64 M) ∧ w10.cell? ⟨w3.heap.size, 1, none⟩ = some (.slice A2 V.length c2) ∧ w10.ownsRow (b2) 42 10 (.slice A2 V.length c2) (V.length) (hds V) ∧ w10.cell? ⟨w1.heap.size, 0, none⟩ = some (.int .i64 m) ∧ w10.cell? ⟨w1.heap.size, 1, none⟩ = some (.slice A1 l.length c1) ∧ w10.ownsRow (b1) 42 10 (.slice A1 l.length c1) (l.length) (hds l) ∧ Below w.heap.size w w10 := ⟨keep_cell (hb) hS.1, keep_cell (hb) hS.2.1, own_below hS.2.2.1 (hb), keep_cell (hb) hS.2.2.2.1, keep_cell (hb) hS.2.2.2.2.1, own_below hS.2.2.2.2.2.1 (hb), keep_cell (hb) hS.2.2.2.2.2.2.1, keep_cell (hb) hS.2.2.2.2.2.2.2.1, own_below hS.2.2.2.2.2.2.2.2.1 (hb), keep_cell (hb) hS.2.2.2.2.2.2.2.2.2.1, keep_cell (hb) hS.2.2.2.2.2.2.2.2.2.2.1, own_below hS.2.2.2.2.2.2.2.2.2.2.2.1 (hb), below_via hS.2.2.2.2.2.2.2.2.2.2.2.2 (hb)⟩
    (try clear hS)
    have hS := hT
    clear hT
    have hB := hS.2.2.2.2.2.2.2.2.2.2.2.2
    have hzw : w.heap.size ≤ w10.heap.size := hB.size
    have hz1 : w8.heap.size < w10.heap.size := World.block_lt_of_cell? w10 _ (hS.1)
    have hz2 : w5.heap.size < w10.heap.size := World.block_lt_of_cell? w10 _ (hS.2.2.2.1)
    have hz3 : w3.heap.size < w10.heap.size := World.block_lt_of_cell? w10 _ (hS.2.2.2.2.2.2.1)
    have hz4 : w1.heap.size < w10.heap.size := World.block_lt_of_cell? w10 _ (hS.2.2.2.2.2.2.2.2.2.1)
    clear hb
    go_wp2_with fail
    refine (HVI.out _ (hide (own_reads (hS.2.2.2.2.2.2.2.2.1)))).mono ?_
    rintro e w11 ⟨rfl, hb⟩
    have hT : w11.cell? ⟨w8.heap.size, 0, none⟩ = some (.int .i64 M) ∧ w11.cell? ⟨w8.heap.size, 1, none⟩ = some (.slice A4 V.length c4) ∧ w11.ownsRow (b4) 42 10 (.slice A4 V.length c4) (V.length) (hds V) ∧ w11.cell? ⟨w5.heap.size, 0, none⟩ = some (.int .i64 M) ∧ w11.cell? ⟨w5.heap.size, 1, none⟩ = some (.slice A3 V.length c3) ∧ w11.ownsRow (b3) 42 10 (.slice A3 V.length c3) (V.length) (hds V) ∧ w11.cell? ⟨w3.heap.size, 0, none⟩ = some (.int .i64 M) ∧ w11.cell? ⟨w3.heap.size, 1, none⟩ = some (.slice A2 V.length c2) ∧ w11.ownsRow (b2) 42 10 (.slice A2 V.length c2) (V.length) (hds V) ∧ w11.cell? ⟨w1.heap.size, 0, none⟩ = some (.int .i64 m) ∧ w11.cell? ⟨w1.heap.size, 1, none⟩ = some (.slice A1 l.length c1) ∧ w11.ownsRow (b1) 42 10 (.slice A1 l.length c1) (l.length) (hds l) ∧ Below w.heap.size w w11 := ⟨keep_cell (hb) hS.1, keep_cell (hb) hS.2.1, own_below hS.2.2.1 (hb), keep_cell (hb) hS.2.2.2.1, keep_cell (hb) hS.2.2.2.2.1, own_below hS.2.2.2.2.2.1 (hb), keep_cell (hb) hS.2.2.2.2.2.2.1, keep_cell (hb) hS.2.2.2.2.2.2.2.1, own_below hS.2.2.2.2.2.2.2.2.1 (hb), keep_cell (hb) hS.2.2.2.2.2.2.2.2.2.1, keep_cell (hb) hS.2.2.2.2.2.2.2.2.2.2.1, own_below hS.2.2.2.2.2.2.2.2.2.2.2.1 (hb), below_via hS.2.2.2.2.2.2.2.2.2.2.2.2 (hb)⟩
    (try clear hS)
    have hS := hT
    clear hT
    have hB := hS.2.2.2.2.2.2.2.2.2.2.2.2
    have hzw : w.heap.size ≤ w11.heap.size := hB.size
    have hz1 : w8.heap.size < w11.heap.size := World.block_lt_of_cell? w11 _ (hS.1)
    have hz2 : w5.heap.size < w11.heap.size := World.block_lt_of_cell? w11 _ (hS.2.2.2.1)
    have hz3 : w3.heap.size < w11.heap.size := World.block_lt_of_cell? w11 _ (hS.2.2.2.2.2.2.1)
    have hz4 : w1.heap.size < w11.heap.size := World.block_lt_of_cell? w11 _ (hS.2.2.2.2.2.2.2.2.2.1)
    clear hb
    have hc1 := hS.2.2.2.2.2.2.2.1
    have HRV := hide (own_reads (hS.2.2.2.2.2.2.2.2.1))
    have HB9 := hide (hS.2.2.2.2.2.2.2.2.2.2.2.2)
    have ew : IntKind.i64.wrap (M - 10) = M - 10 := IntWalk.i64_in _ (by omega)
    go_wp2
    clear hS
    go_loopw [11] (fun iv wr => ∃ i : Nat, i ≤ V.length ∧ iv = .int .i64 i ∧ Below w11.heap.size w11 wr) (fun iv _ => V.length - (intOf iv).toNat)
    case atStart => exact ⟨0, by omega, rfl, Below.refl _ _⟩
    case round =>
      obtain ⟨i, hi, rfl, hBr⟩ := hrel
      have hr1 := keep_cell hBr hc1
      have hB2 := below_via HB9.out hBr
      have hzr := hBr.size
      by_cases hlt : i < V.length
      rotate_left
      · obtain rfl : i = V.length := by omega
        go_wp2_with fail
        go_meet
        case rel => exact hB2
      obtain ⟨⟨a, ⟨eo, ea, eb⟩, et, ⟨oo, oa, ob⟩, ot, f⟩, he⟩ : ∃ q, hx V i = q := ⟨_, rfl⟩
      have hfx := HEL.out i _ _ _ _ _ _ _ _ _ _ hlt he
      obtain ⟨a1, rfl, ekb, e0, e1, e2, e3, e4, e5, e6, e7, e8, e9⟩ := (HRV.out.below hBr).hd (k := i) (by omega) he
      clear he
      obtain ⟨p1, p2, p3⟩ := hfx
      rcases p1 with rfl | ⟨p4, p5⟩ <;> rcases p2 with rfl | ⟨p6, p7⟩
      · exact absurd ⟨rfl, rfl⟩ p3
      · have d4 : decide (ot < 0) = false := decide_eq_false (by omega)
        have d5 : decide (0 ≤ ot) = true := decide_eq_true p6
        have d6 : decide (ot < M - 10) = false := decide_eq_false (by omega)
        go_wp2
        go_roundw
        case rel => exact ⟨i + 1, by omega, by go_num, by go_grown⟩
        case measure => simp [intOf]; omega
      · have d1 : decide (et < 0) = false := decide_eq_false (by omega)
        have d2 : decide (0 ≤ et) = true := decide_eq_true p4
        have d3 : decide (et < M - 10) = false := decide_eq_false (by omega)
        go_wp2
        go_roundw
        case rel => exact ⟨i + 1, by omega, by go_num, by go_grown⟩
        case measure => simp [intOf]; omega
      · have d1 : decide (et < 0) = false := decide_eq_false (by omega)
        have d2 : decide (0 ≤ et) = true := decide_eq_true p4
        have d3 : decide (et < M - 10) = false := decide_eq_false (by omega)
        have d4 : decide (ot < 0) = false := decide_eq_false (by omega)
        have d5 : decide (0 ≤ ot) = true := decide_eq_true p6
        have d6 : decide (ot < M - 10) = false := decide_eq_false (by omega)
        go_wp2
        go_roundw
        case rel => exact ⟨i + 1, by omega, by go_num, by go_grown⟩
        case measure => simp [intOf]; omega
  have hB : Below w.heap.size w wc := hcut
  clear hcut
  (try clear hS)
  have hzw : w.heap.size ≤ wc.heap.size := hB.size
  go_wp2_with fail
  refine (drawReceiveAll_c A n c _ (hide (h1.out.below (by go_grown))) HN.out).mono ?_
  rintro e w8 ⟨m5, l5, A5, c5, ls, As, cs, t5, rfl, ho5, hos, hl520, hls60, ⟨hm50, hm51⟩, hss, ⟨ht0, ht1⟩, hb⟩
  obtain ⟨b5, ho5, hbk5⟩ := own_based ho5 (m := wc.heap.size) (by first | omega | (simp; done) | (simp; omega))
  obtain ⟨bs, hos, hbks⟩ := own_based hos (m := wc.heap.size) (by first | omega | (simp; done) | (simp; omega))
  have hT : w8.ownsRow (b5) 42 10 (.slice A5 l5.length c5) (l5.length) (hds l5) ∧ w8.ownsRow (bs) 9 1 (.slice As ls.length cs) (ls.length) (strs ls) ∧ Below w.heap.size w w8 := ⟨ho5, hos, (fun W h hb => below_via h (hb) : ∀ W : World, (Below w.heap.size w W) → Below W.heap.size W w8 → (Below w.heap.size w w8)) _ (by first | (with_reducible assumption) | go_grown) hb⟩
  (try clear hS)
  have hS := hT
  clear hT
  have hB := hS.2.2
  have hzw : w.heap.size ≤ w8.heap.size := hB.size
  clear hb
  go_wp2_with fail
  obtain ⟨w9, hww9⟩ : ∃ W, W = w8.alloc (.cells #[.int .i64 m5, .slice A5 l5.length c5] 26) := ⟨_, rfl⟩
  have hT : w9.cell? ⟨w8.heap.size, 0, none⟩ = some (.int .i64 m5) ∧ w9.cell? ⟨w8.heap.size, 1, none⟩ = some (.slice A5 l5.length c5) ∧ w9.ownsRow (b5) 42 10 (.slice A5 l5.length c5) (l5.length) (hds l5) ∧ w9.ownsRow (bs) 9 1 (.slice As ls.length cs) (ls.length) (strs ls) ∧ Below w.heap.size w w9 := by
    rw [hww9]
    exact ⟨by simp [go_sem], by simp [go_sem], own_below hS.1 (by go_grown), own_below hS.2.1 (by go_grown), below_via hS.2.2 (by go_grown)⟩
  rw [← hww9]
  clear hS hww9
  have hS := hT
  clear hT
  (try clear hB hzw)
  have hB := hS.2.2.2.2
  have hzw : w.heap.size ≤ w9.heap.size := hB.size
  have hz1 : w8.heap.size < w9.heap.size := World.block_lt_of_cell? w9 _ (hS.1)
  have HSS : Hid (∀ s ∈ ls, s.size ≤ 1000000000000) := hide (fun s h => by have := hss s h; omega)
  clear hss
  have hvl := raV_len m5 l5 ls t5
  have HRA := hide (fun (M : Int) (L : List Hd) (n : Nat) (h : raK m5 l5 ls t5 = true) (e : raN t5 m5 l5 ls ls.length = (M, L, n)) => ra_yes h e)
  have HKO := hide (fun (h : raK m5 l5 ls t5 = true) => ra_okR h)
  obtain ⟨V6, hV0⟩ : ∃ q, raV m5 l5 ls t5 = q := ⟨_, rfl⟩
  obtain ⟨M6, hM0⟩ : ∃ q, raM m5 l5 ls t5 = q := ⟨_, rfl⟩
  obtain ⟨N6, hN0⟩ : ∃ q, raC m5 l5 ls t5 = q := ⟨_, rfl⟩
  obtain ⟨K6, hK0⟩ : ∃ q, raK m5 l5 ls t5 = q := ⟨_, rfl⟩
  rw [hV0, hM0, hN0, hK0] at HRA
  rw [hK0] at HKO
  rw [hV0] at hvl
  have HV6 := hide hV0
  have HM6 := hide hM0
  have HN6 := hide hN0
  have HK6 := hide hK0
  clear hV0 hM0 hN0 hK0
  go_wp2_with fail
  refine (ReceiveAll_c m5 A5 c5 l5 As cs ls t5 _ (hide (own_reads (hS.2.2.1))) (by omega) (hide (own_reads (hS.2.2.2.1))) (by omega) HSS).mono ?_
  rw [HV6.out, HM6.out, HN6.out, HK6.out]
  rintro e w10 ⟨A6, c6, rfl, ho6, hb⟩
  obtain ⟨b6, ho6, hbk6⟩ := own_based ho6 (m := w9.heap.size) (by first | omega | (simp; done) | (simp; omega))
  have hT : w10.ownsRow (b6) 42 10 (.slice A6 V6.length c6) (V6.length) (hds V6) ∧ w10.cell? ⟨w8.heap.size, 0, none⟩ = some (.int .i64 m5) ∧ w10.cell? ⟨w8.heap.size, 1, none⟩ = some (.slice A5 l5.length c5) ∧ w10.ownsRow (b5) 42 10 (.slice A5 l5.length c5) (l5.length) (hds l5) ∧ w10.ownsRow (bs) 9 1 (.slice As ls.length cs) (ls.length) (strs ls) ∧ Below w.heap.size w w10 := ⟨ho6, ⟨keep_cell (hb) hS.1, keep_cell (hb) hS.2.1, own_below hS.2.2.1 (hb), own_below hS.2.2.2.1 (hb), below_via hS.2.2.2.2 (hb)⟩⟩
  (try clear hS)
  have hS := hT
  clear hT
  have hB := hS.2.2.2.2.2
  have hzw : w.heap.size ≤ w10.heap.size := hB.size
  have hz1 : w8.heap.size < w10.heap.size := World.block_lt_of_cell? w10 _ (hS.2.1)
  clear hb
  go_wp2_with fail
  obtain ⟨w11, hww11⟩ : ∃ W, W = w10.alloc (.cells #[.int .i64 M6, .slice A6 V6.length c6] 26) := ⟨_, rfl⟩
  have hT : w11.cell? ⟨w10.heap.size, 0, none⟩ = some (.int .i64 M6) ∧ w11.cell? ⟨w10.heap.size, 1, none⟩ = some (.slice A6 V6.length c6) ∧ w11.ownsRow (b6) 42 10 (.slice A6 V6.length c6) (V6.length) (hds V6) ∧ w11.cell? ⟨w8.heap.size, 0, none⟩ = some (.int .i64 m5) ∧ w11.cell? ⟨w8.heap.size, 1, none⟩ = some (.slice A5 l5.length c5) ∧ w11.ownsRow (b5) 42 10 (.slice A5 l5.length c5) (l5.length) (hds l5) ∧ w11.ownsRow (bs) 9 1 (.slice As ls.length cs) (ls.length) (strs ls) ∧ Below w.heap.size w w11 := by
    rw [hww11]
    exact ⟨by simp [go_sem], by simp [go_sem], own_below hS.1 (by go_grown), keep_cell (by go_grown) hS.2.1, keep_cell (by go_grown) hS.2.2.1, own_below hS.2.2.2.1 (by go_grown), own_below hS.2.2.2.2.1 (by go_grown), below_via hS.2.2.2.2.2 (by go_grown)⟩
  rw [← hww11]
  clear hS hww11
  have hS := hT
  clear hT
  (try clear hB hzw)
  have hB := hS.2.2.2.2.2.2.2
  have hzw : w.heap.size ≤ w11.heap.size := hB.size
  have hz1 : w10.heap.size < w11.heap.size := World.block_lt_of_cell? w11 _ (hS.1)
  have hz2 : w8.heap.size < w11.heap.size := World.block_lt_of_cell? w11 _ (hS.2.2.2.1)
  go_wp2_with fail
  refine (sReceiveAll_c m5 A5 c5 l5 As cs ls t5 _ (hide (own_reads (hS.2.2.2.2.2.1))) (by omega) (hide (own_reads (hS.2.2.2.2.2.2.1))) (by omega) HSS).mono ?_
  rw [HV6.out, HM6.out, HN6.out, HK6.out]
  rintro e w12 ⟨A7, c7, rfl, ho7, hb⟩
  obtain ⟨b7, ho7, hbk7⟩ := own_based ho7 (m := w11.heap.size) (by first | omega | (simp; done) | (simp; omega))
  have hT : w12.ownsRow (b7) 42 10 (.slice A7 V6.length c7) (V6.length) (hds V6) ∧ w12.cell? ⟨w10.heap.size, 0, none⟩ = some (.int .i64 M6) ∧ w12.cell? ⟨w10.heap.size, 1, none⟩ = some (.slice A6 V6.length c6) ∧ w12.ownsRow (b6) 42 10 (.slice A6 V6.length c6) (V6.length) (hds V6) ∧ w12.cell? ⟨w8.heap.size, 0, none⟩ = some (.int .i64 m5) ∧ w12.cell? ⟨w8.heap.size, 1, none⟩ = some (.slice A5 l5.length c5) ∧ w12.ownsRow (b5) 42 10 (.slice A5 l5.length c5) (l5.length) (hds l5) ∧ w12.ownsRow (bs) 9 1 (.slice As ls.length cs) (ls.length) (strs ls) ∧ Below w.heap.size w w12 := ⟨ho7, ⟨keep_cell (hb) hS.1, keep_cell (hb) hS.2.1, own_below hS.2.2.1 (hb), keep_cell (hb) hS.2.2.2.1, keep_cell (hb) hS.2.2.2.2.1, own_below hS.2.2.2.2.2.1 (hb), own_below hS.2.2.2.2.2.2.1 (hb), below_via hS.2.2.2.2.2.2.2 (hb)⟩⟩
  (try clear hS)
  have hS := hT
  clear hT
  have hB := hS.2.2.2.2.2.2.2.2
  have hzw : w.heap.size ≤ w12.heap.size := hB.size
  have hz1 : w10.heap.size < w12.heap.size := World.block_lt_of_cell? w12 _ (hS.2.1)
  have hz2 : w8.heap.size < w12.heap.size := World.block_lt_of_cell? w12 _ (hS.2.2.2.2.1)
  clear hb
  go_upto_region 21 with fail
  obtain ⟨w13, hww13⟩ : ∃ W, W = w12.alloc (.cells #[.int .i64 M6, .slice A7 V6.length c7] 26) := ⟨_, rfl⟩
  have hT : w13.cell? ⟨w12.heap.size, 0, none⟩ = some (.int .i64 M6) ∧ w13.cell? ⟨w12.heap.size, 1, none⟩ = some (.slice A7 V6.length c7) ∧ w13.ownsRow (b7) 42 10 (.slice A7 V6.length c7) (V6.length) (hds V6) ∧ w13.cell? ⟨w10.heap.size, 0, none⟩ = some (.int .i64 M6) ∧ w13.cell? ⟨w10.heap.size, 1, none⟩ = some (.slice A6 V6.length c6) ∧ w13.ownsRow (b6) 42 10 (.slice A6 V6.length c6) (V6.length) (hds V6) ∧ w13.cell? ⟨w8.heap.size, 0, none⟩ = some (.int .i64 m5) ∧ w13.cell? ⟨w8.heap.size, 1, none⟩ = some (.slice A5 l5.length c5) ∧ w13.ownsRow (b5) 42 10 (.slice A5 l5.length c5) (l5.length) (hds l5) ∧ w13.ownsRow (bs) 9 1 (.slice As ls.length cs) (ls.length) (strs ls) ∧ Below w.heap.size w w13 := by
    rw [hww13]
    exact ⟨by simp [go_sem], by simp [go_sem], own_below hS.1 (by go_grown), keep_cell (by go_grown) hS.2.1, keep_cell (by go_grown) hS.2.2.1, own_below hS.2.2.2.1 (by go_grown), keep_cell (by go_grown) hS.2.2.2.2.1, keep_cell (by go_grown) hS.2.2.2.2.2.1, own_below hS.2.2.2.2.2.2.1 (by go_grown), own_below hS.2.2.2.2.2.2.2.1 (by go_grown), below_via hS.2.2.2.2.2.2.2.2 (by go_grown)⟩
  rw [← hww13]
  clear hS hww13
  have hS := hT
  clear hT
  (try clear hB hzw)
  have hB := hS.2.2.2.2.2.2.2.2.2.2
  have hzw : w.heap.size ≤ w13.heap.size := hB.size
  have hz1 : w12.heap.size < w13.heap.size := World.block_lt_of_cell? w13 _ (hS.1)
  have hz2 : w10.heap.size < w13.heap.size := World.block_lt_of_cell? w13 _ (hS.2.2.2.1)
  have hz3 : w8.heap.size < w13.heap.size := World.block_lt_of_cell? w13 _ (hS.2.2.2.2.2.2.1)
  go_wp2_with fail
  refine (vReceiver_c M6 A6 A7 c6 c7 V6 _ (hide (own_reads (hS.2.2.2.2.2.1))) (hide (own_reads (hS.2.2.1))) (by omega)).mono ?_
  rintro e w14 ⟨rfl, hb⟩
  have hT : w14.cell? ⟨w12.heap.size, 0, none⟩ = some (.int .i64 M6) ∧ w14.cell? ⟨w12.heap.size, 1, none⟩ = some (.slice A7 V6.length c7) ∧ w14.ownsRow (b7) 42 10 (.slice A7 V6.length c7) (V6.length) (hds V6) ∧ w14.cell? ⟨w10.heap.size, 0, none⟩ = some (.int .i64 M6) ∧ w14.cell? ⟨w10.heap.size, 1, none⟩ = some (.slice A6 V6.length c6) ∧ w14.ownsRow (b6) 42 10 (.slice A6 V6.length c6) (V6.length) (hds V6) ∧ w14.cell? ⟨w8.heap.size, 0, none⟩ = some (.int .i64 m5) ∧ w14.cell? ⟨w8.heap.size, 1, none⟩ = some (.slice A5 l5.length c5) ∧ w14.ownsRow (b5) 42 10 (.slice A5 l5.length c5) (l5.length) (hds l5) ∧ w14.ownsRow (bs) 9 1 (.slice As ls.length cs) (ls.length) (strs ls) ∧ Below w.heap.size w w14 := ⟨keep_cell (hb) hS.1, keep_cell (hb) hS.2.1, own_below hS.2.2.1 (hb), keep_cell (hb) hS.2.2.2.1, keep_cell (hb) hS.2.2.2.2.1, own_below hS.2.2.2.2.2.1 (hb), keep_cell (hb) hS.2.2.2.2.2.2.1, keep_cell (hb) hS.2.2.2.2.2.2.2.1, own_below hS.2.2.2.2.2.2.2.2.1 (hb), own_below hS.2.2.2.2.2.2.2.2.2.1 (hb), below_via hS.2.2.2.2.2.2.2.2.2.2 (hb)⟩
  (try clear hS)
  have hS := hT
  clear hT
  have hB := hS.2.2.2.2.2.2.2.2.2.2
  have hzw : w.heap.size ≤ w14.heap.size := hB.size
  have hz1 : w12.heap.size < w14.heap.size := World.block_lt_of_cell? w14 _ (hS.1)
  have hz2 : w10.heap.size < w14.heap.size := World.block_lt_of_cell? w14 _ (hS.2.2.2.1)
  have hz3 : w8.heap.size < w14.heap.size := World.block_lt_of_cell? w14 _ (hS.2.2.2.2.2.2.1)
  clear hb
  go_upto_if 170 with fail
  go_cut [] (fun wx => Below w.heap.size w wx)
  case first => as_aux_lemma =>
    cases K6
    · go_wp2_with fail
      go_meet
      case rel => go_grown
    have hx0c := hS.2.2.2.2.2.2.1
    have hx1c := hS.2.2.2.2.2.2.2.1
    have hy0c := hS.2.2.2.1
    have hy1c := hS.2.2.2.2.1
    have H1 := hide (own_reads (hS.2.2.2.2.2.2.2.2.1))
    have H2 := hide (own_reads (hS.2.2.2.2.2.2.2.2.2.1))
    have H3 := hide (own_reads (hS.2.2.2.2.2.1))
    have HB9 := hide (hS.2.2.2.2.2.2.2.2.2.2)
    have hXW9 : w8.heap.size < w14.heap.size := World.block_lt_of_cell? w14 _ hx0c
    have hYW9 : w10.heap.size < w14.heap.size := World.block_lt_of_cell? w14 _ hy0c
    clear hS hB hzw
    (try clear hz1 hz2 hz3 hz4 hz5 hz6)
    obtain ⟨HOK5, hl20s⟩ := HKO.out rfl
    have HOK := hide HOK5
    have h6 := (okR_iff HOK5).2.1
    clear HOK5
    obtain ⟨i0, hi0, iz0, iy0, ix0⟩ := info_parts infoHd
    go_upto_region 24 with fail
    go_cut [22] (fun pv wx => ∃ (T : Nat) (A3 : Option Addr) (c3 : Nat), pv = .pointer (some ⟨T, 0, none⟩) ∧ w14.heap.size ≤ T ∧ (Value.slice A3 l5.length c3).ownBlock ≠ some T ∧ Hid (wx.ownsRow w14.heap.size 42 10 (.slice A3 l5.length c3) l5.length (hds l5)) ∧ (wx.cell? ⟨T, 0, none⟩ = some (.int .i64 m5) ∧ wx.cell? ⟨T, 1, none⟩ = some (.slice A3 l5.length c3) ∧ (T < wx.heap.size ∧ ∀ i, wx.frozen? ⟨T, i, none⟩ = false) ∧ Below w14.heap.size w14 wx))
    case first => as_aux_lemma =>
      refine wp_region_all (by kernel_rfl) ?_
      obtain ⟨W0, hW0⟩ : ∃ W, World.drew w14 = W := ⟨_, rfl⟩
      rw [hW0]
      have hcw : Below w14.heap.size w14 W0 := by rw [← hW0]; go_grown
      have hcz := hcw.size
      have HR0 := hide ((H1.out.below hcw).more hcw.size)
      have hXW : w8.heap.size < W0.heap.size := by omega
      have hn0 : A5 = none → l5.length = 0 := fun e => reads_nn HR0.out e
      have hS : W0.cell? ⟨w8.heap.size, 0, none⟩ = some (.int .i64 m5) ∧ W0.cell? ⟨w8.heap.size, 1, none⟩ = some (.slice A5 l5.length c5) ∧ Below W0.heap.size W0 W0 := ⟨keep_cell hcw hx0c, keep_cell hcw hx1c, Below.refl _ _⟩
      clear hW0
      have hB := hS.2.2
      refine all_split 7 2 (by decide) ?_ ?_
      · refine all_seq_core [0, 1, 3, 4, 7, 2, 5, 6, 8] (fun W => W.cell? ⟨w8.heap.size, 0, none⟩ = some (.int .i64 m5) ∧ W.cell? ⟨w8.heap.size, 1, none⟩ = some (.slice A5 l5.length c5) ∧ Below W0.heap.size W0 W) (addE_core 7 2 _) (by kernel_rfl) hS ?_
        simp only [byNum, List.getElem?_cons_zero, List.getElem?_cons_succ]
        repeat (first
          | ((refine seq_skip (by rfl) (by rfl) ?_); simp only [Act.put, pa, pb, pc])
          | ((refine seq_val (v := ?_) (by rfl) (by rfl) (fun w hS => ?_) ?_); rotate_left; (focus ((try dsimp only at hS); go_simp; (try (with_reducible rfl)); done)); simp only [Act.put, pa, pb, pc]))
        refine seq_deed (v := ?_) (w' := ?_) (by rfl) (by rfl) ?_ ?_
        rotate_left
        rotate_left
        focus (go_simp; (constructor <;> (with_reducible rfl)); done)
        obtain ⟨X1, hX1⟩ : ∃ X, World.alloc W0 (.cells #[.int .i64 0, .slice none 0 0] 26) = X := ⟨_, rfl⟩
        rw [hX1]
        have hbx : Below W0.heap.size W0 X1 := by rw [← hX1]; go_grown
        have hlT : W0.heap.size ≤ W0.heap.size := hB.size
        have hmT : W0.heap.size < X1.heap.size := by rw [← hX1]; simp
        have HT9 := hide (show TZ X1 W0.heap.size 26 from by rw [← hX1]; exact TZ.new _ _)
        have hS2 : X1.cell? ⟨w8.heap.size, 0, none⟩ = some (.int .i64 m5) ∧ X1.cell? ⟨w8.heap.size, 1, none⟩ = some (.slice A5 l5.length c5) ∧ Below W0.heap.size W0 X1 := ⟨keep_cell hbx (hS.1), keep_cell hbx (hS.2.1), below_via hB hbx⟩
        clear hS hB
        have hS := hS2
        clear hS2
        have hB := hS.2.2
        clear hbx
        clear hX1
        have HT := HT9
        clear HT9
        refine ⟨(fun W => W.cell? ⟨w8.heap.size, 0, none⟩ = some (.int .i64 m5) ∧ W.cell? ⟨w8.heap.size, 1, none⟩ = some (.slice A5 l5.length c5) ∧ Below W0.heap.size W0 W), hS, (fun W h => h), ?_⟩
        simp only [Act.put, pa, pb, pc]
        repeat (first
          | ((refine seq_skip (by rfl) (by rfl) ?_); simp only [Act.put, pa, pb, pc])
          | ((refine seq_val (v := ?_) (by rfl) (by rfl) (fun w hS => ?_) ?_); rotate_left; (focus ((try dsimp only at hS); go_simp; (try (with_reducible rfl)); done)); simp only [Act.put, pa, pb, pc]))
        refine seq_deed (v := ?_) (w' := ?_) (by rfl) (by rfl) ?_ ?_
        rotate_left
        rotate_left
        focus (go_simp; (constructor <;> (with_reducible rfl)); done)
        obtain ⟨X2, hX2⟩ : ∃ X, World.alloc X1 (.cells #[] 42) = X := ⟨_, rfl⟩
        rw [hX2]
        have hbx : Below X1.heap.size X1 X2 := by rw [← hX2]; go_grown
        have hlE : W0.heap.size ≤ X1.heap.size := hB.size
        have hmE : X1.heap.size < X2.heap.size := by rw [← hX2]; simp
        have HO9 := hide (show X2.ownsRow W0.heap.size 42 10 (.slice (some ⟨X1.heap.size, 0, none⟩) 0 0) 0 [] from by rw [← hX2]; exact own_empty _ rfl hlE)
        have HTb := hide (HT.out.below hbx)
        clear HT
        have HT := HTb
        clear HTb
        have hS2 : X2.cell? ⟨w8.heap.size, 0, none⟩ = some (.int .i64 m5) ∧ X2.cell? ⟨w8.heap.size, 1, none⟩ = some (.slice A5 l5.length c5) ∧ Below W0.heap.size W0 X2 := ⟨keep_cell hbx (hS.1), keep_cell hbx (hS.2.1), below_via hB hbx⟩
        clear hS hB
        have hS := hS2
        clear hS2
        have hB := hS.2.2
        clear hbx
        clear hX2
        have HO := HO9
        clear HO9
        refine ⟨(fun W => W.cell? ⟨w8.heap.size, 0, none⟩ = some (.int .i64 m5) ∧ W.cell? ⟨w8.heap.size, 1, none⟩ = some (.slice A5 l5.length c5) ∧ Below W0.heap.size W0 W), hS, (fun W h => h), ?_⟩
        simp only [Act.put, pa, pb, pc]
        repeat (first
          | ((refine seq_skip (by rfl) (by rfl) ?_); simp only [Act.put, pa, pb, pc])
          | ((refine seq_val (v := ?_) (by rfl) (by rfl) (fun w hS => ?_) ?_); rotate_left; (focus ((try dsimp only at hS); go_simp; (try (with_reducible rfl)); done)); simp only [Act.put, pa, pb, pc]))
        refine seq_append _ (by rfl) (by rfl) _ _ 24 (by rfl) W0.heap.size 42 i0 (hdV nHd) 10 80 Try.underlying24 hi0 iz0 iy0 ix0 rfl (by decide) _ 0 [] (by rfl) HO.out X2.heap.size A5 l5.length c5 (hds l5) (by rfl) (reads_below HR0.out hB) hn0 (hds_one l5) (by unfold maxLen; omega) (by omega) hB.size ?_
        intro A3 c3 X3 hown1 hgrow
        rw [Nat.zero_add, List.nil_append] at hown1
        rw [Nat.zero_add]
        have HTb := hide (HT.out.gb hgrow (ne_some (show X1.heap.size ≠ W0.heap.size by omega)))
        clear HT
        have HT := HTb
        clear HTb
        have hS2 : X3.cell? ⟨w8.heap.size, 0, none⟩ = some (.int .i64 m5) ∧ X3.cell? ⟨w8.heap.size, 1, none⟩ = some (.slice A5 l5.length c5) ∧ Below W0.heap.size W0 X3 := ⟨own_cell HO.out hgrow (hS.1) (by show w8.heap.size < W0.heap.size; omega), own_cell HO.out hgrow (hS.2.1) (by show w8.heap.size < W0.heap.size; omega), own_grown HO.out hgrow hB hB.size (Nat.le_refl _)⟩
        clear hS hB
        have hS := hS2
        clear hS2
        have hB := hS.2.2
        clear hgrow HO
        have HO := hide hown1
        clear hown1
        refine ⟨(fun W => W.cell? ⟨w8.heap.size, 0, none⟩ = some (.int .i64 m5) ∧ W.cell? ⟨w8.heap.size, 1, none⟩ = some (.slice A5 l5.length c5) ∧ Below W0.heap.size W0 W), hS, (fun W h => h), ?_⟩
        simp only [Act.put, pa, pb, pc]
        repeat (first
          | ((refine seq_skip (by rfl) (by rfl) ?_); simp only [Act.put, pa, pb, pc])
          | ((refine seq_val (v := ?_) (by rfl) (by rfl) (fun w hS => ?_) ?_); rotate_left; (focus ((try dsimp only at hS); go_simp; (try (with_reducible rfl)); done)); simp only [Act.put, pa, pb, pc]))
        have hTn : (Value.slice A3 l5.length c3).ownBlock ≠ some W0.heap.size := ty_ne HO.out HT.out.2.2.2 (by decide)
        have hBq := hB
        obtain ⟨X9, hX9⟩ : ∃ X, (X3.setCell ⟨W0.heap.size, 0, none⟩ (.int .i64 m5)).setCell ⟨W0.heap.size, 1, none⟩ (.slice A3 l5.length c3) = X := ⟨_, rfl⟩
        obtain ⟨y0, y1, ⟨y2, y3⟩, _⟩ := HT.out
        refine seq_store (w' := X9) (by rfl) (by rfl) (by rw [← hX9]; go_simp; (try (with_reducible rfl)); done) ?_
        have hS2 : X9.cell? ⟨w8.heap.size, 0, none⟩ = some (.int .i64 m5) ∧ X9.cell? ⟨w8.heap.size, 1, none⟩ = some (.slice A5 l5.length c5) ∧ Below W0.heap.size W0 X9 := ⟨(by rw [← hX9]; exact sc _ (by omega) (sc _ (by omega) (hS.1))), (by rw [← hX9]; exact sc _ (by omega) (sc _ (by omega) (hS.2.1))), (by rw [← hX9]; exact (hB.setCell (p := ⟨W0.heap.size, 0, none⟩) (by show _ ≤ W0.heap.size; omega) _).setCell (p := ⟨W0.heap.size, 1, none⟩) (by show _ ≤ W0.heap.size; omega) _)⟩
        clear hS hB
        have hS := hS2
        clear hS2
        have hB := hS.2.2
        refine ⟨(fun W => W.cell? ⟨w8.heap.size, 0, none⟩ = some (.int .i64 m5) ∧ W.cell? ⟨w8.heap.size, 1, none⟩ = some (.slice A5 l5.length c5) ∧ Below W0.heap.size W0 W), hS, (fun W h => h), ?_⟩
        simp only [Act.put, pa, pb, pc]
        repeat (first
          | ((refine seq_skip (by rfl) (by rfl) ?_); simp only [Act.put, pa, pb, pc])
          | ((refine seq_val (v := ?_) (by rfl) (by rfl) (fun w hS => ?_) ?_); rotate_left; (focus ((try dsimp only at hS); go_simp; (try (with_reducible rfl)); done)); simp only [Act.put, pa, pb, pc]))
        refine seq_nil ?_
        go_wp2_with fail
        go_meet
        case rel => exact ⟨W0.heap.size, A3, c3, rfl, by omega, hTn, hide (by rw [← hX9]; exact ownsRow_setCell_other (ownsRow_setCell_other (own_mono HO.out (by omega)) (a := ⟨W0.heap.size, 0, none⟩) hTn _) (a := ⟨W0.heap.size, 1, none⟩) hTn _), (by rw [← hX9]; exact ⟨sc_off (by omega) (sc_at y0), sc_at (sc_off (by omega) y1), sf _ (sf _ ⟨y2, y3⟩), ((below_via hcw hBq).setCell (p := ⟨W0.heap.size, 0, none⟩) (by show _ ≤ W0.heap.size; omega) _).setCell (p := ⟨W0.heap.size, 1, none⟩) (by show _ ≤ W0.heap.size; omega) _⟩)⟩
      · refine all_split 7 5 (by decide) ?_ ?_
        · refine all_seq_core [0, 1, 3, 4, 2, 7, 5, 6, 8] (fun W => W.cell? ⟨w8.heap.size, 0, none⟩ = some (.int .i64 m5) ∧ W.cell? ⟨w8.heap.size, 1, none⟩ = some (.slice A5 l5.length c5) ∧ Below W0.heap.size W0 W) (Core.trans (addE_core 2 7 _) (addE_core 7 5 _)) (by kernel_rfl) hS ?_
          simp only [byNum, List.getElem?_cons_zero, List.getElem?_cons_succ]
          repeat (first
            | ((refine seq_skip (by rfl) (by rfl) ?_); simp only [Act.put, pa, pb, pc])
            | ((refine seq_val (v := ?_) (by rfl) (by rfl) (fun w hS => ?_) ?_); rotate_left; (focus ((try dsimp only at hS); go_simp; (try (with_reducible rfl)); done)); simp only [Act.put, pa, pb, pc]))
          refine seq_deed (v := ?_) (w' := ?_) (by rfl) (by rfl) ?_ ?_
          rotate_left
          rotate_left
          focus (go_simp; (constructor <;> (with_reducible rfl)); done)
          obtain ⟨X1, hX1⟩ : ∃ X, World.alloc W0 (.cells #[] 42) = X := ⟨_, rfl⟩
          rw [hX1]
          have hbx : Below W0.heap.size W0 X1 := by rw [← hX1]; go_grown
          have hlE : W0.heap.size ≤ W0.heap.size := hB.size
          have hmE : W0.heap.size < X1.heap.size := by rw [← hX1]; simp
          have HO9 := hide (show X1.ownsRow W0.heap.size 42 10 (.slice (some ⟨W0.heap.size, 0, none⟩) 0 0) 0 [] from by rw [← hX1]; exact own_empty _ rfl hlE)
          have hS2 : X1.cell? ⟨w8.heap.size, 0, none⟩ = some (.int .i64 m5) ∧ X1.cell? ⟨w8.heap.size, 1, none⟩ = some (.slice A5 l5.length c5) ∧ Below W0.heap.size W0 X1 := ⟨keep_cell hbx (hS.1), keep_cell hbx (hS.2.1), below_via hB hbx⟩
          clear hS hB
          have hS := hS2
          clear hS2
          have hB := hS.2.2
          clear hbx
          clear hX1
          have HO := HO9
          clear HO9
          refine ⟨(fun W => W.cell? ⟨w8.heap.size, 0, none⟩ = some (.int .i64 m5) ∧ W.cell? ⟨w8.heap.size, 1, none⟩ = some (.slice A5 l5.length c5) ∧ Below W0.heap.size W0 W), hS, (fun W h => h), ?_⟩
          simp only [Act.put, pa, pb, pc]
          repeat (first
            | ((refine seq_skip (by rfl) (by rfl) ?_); simp only [Act.put, pa, pb, pc])
            | ((refine seq_val (v := ?_) (by rfl) (by rfl) (fun w hS => ?_) ?_); rotate_left; (focus ((try dsimp only at hS); go_simp; (try (with_reducible rfl)); done)); simp only [Act.put, pa, pb, pc]))
          refine seq_deed (v := ?_) (w' := ?_) (by rfl) (by rfl) ?_ ?_
          rotate_left
          rotate_left
          focus (go_simp; (constructor <;> (with_reducible rfl)); done)
          obtain ⟨X2, hX2⟩ : ∃ X, World.alloc X1 (.cells #[.int .i64 0, .slice none 0 0] 26) = X := ⟨_, rfl⟩
          rw [hX2]
          have hbx : Below X1.heap.size X1 X2 := by rw [← hX2]; go_grown
          have hlT : W0.heap.size ≤ X1.heap.size := hB.size
          have hmT : X1.heap.size < X2.heap.size := by rw [← hX2]; simp
          have HT9 := hide (show TZ X2 X1.heap.size 26 from by rw [← hX2]; exact TZ.new _ _)
          have HOb := hide (own_below HO.out hbx)
          clear HO
          have HO := HOb
          clear HOb
          have hS2 : X2.cell? ⟨w8.heap.size, 0, none⟩ = some (.int .i64 m5) ∧ X2.cell? ⟨w8.heap.size, 1, none⟩ = some (.slice A5 l5.length c5) ∧ Below W0.heap.size W0 X2 := ⟨keep_cell hbx (hS.1), keep_cell hbx (hS.2.1), below_via hB hbx⟩
          clear hS hB
          have hS := hS2
          clear hS2
          have hB := hS.2.2
          clear hbx
          clear hX2
          have HT := HT9
          clear HT9
          refine ⟨(fun W => W.cell? ⟨w8.heap.size, 0, none⟩ = some (.int .i64 m5) ∧ W.cell? ⟨w8.heap.size, 1, none⟩ = some (.slice A5 l5.length c5) ∧ Below W0.heap.size W0 W), hS, (fun W h => h), ?_⟩
          simp only [Act.put, pa, pb, pc]
          repeat (first
            | ((refine seq_skip (by rfl) (by rfl) ?_); simp only [Act.put, pa, pb, pc])
            | ((refine seq_val (v := ?_) (by rfl) (by rfl) (fun w hS => ?_) ?_); rotate_left; (focus ((try dsimp only at hS); go_simp; (try (with_reducible rfl)); done)); simp only [Act.put, pa, pb, pc]))
          refine seq_append _ (by rfl) (by rfl) _ _ 24 (by rfl) W0.heap.size 42 i0 (hdV nHd) 10 80 Try.underlying24 hi0 iz0 iy0 ix0 rfl (by decide) _ 0 [] (by rfl) HO.out X2.heap.size A5 l5.length c5 (hds l5) (by rfl) (reads_below HR0.out hB) hn0 (hds_one l5) (by unfold maxLen; omega) (by omega) hB.size ?_
          intro A3 c3 X3 hown1 hgrow
          rw [Nat.zero_add, List.nil_append] at hown1
          rw [Nat.zero_add]
          have HTb := hide (HT.out.gb hgrow (ne_some (show W0.heap.size ≠ X1.heap.size by omega)))
          clear HT
          have HT := HTb
          clear HTb
          have hS2 : X3.cell? ⟨w8.heap.size, 0, none⟩ = some (.int .i64 m5) ∧ X3.cell? ⟨w8.heap.size, 1, none⟩ = some (.slice A5 l5.length c5) ∧ Below W0.heap.size W0 X3 := ⟨own_cell HO.out hgrow (hS.1) (by show w8.heap.size < W0.heap.size; omega), own_cell HO.out hgrow (hS.2.1) (by show w8.heap.size < W0.heap.size; omega), own_grown HO.out hgrow hB hB.size (Nat.le_refl _)⟩
          clear hS hB
          have hS := hS2
          clear hS2
          have hB := hS.2.2
          clear hgrow HO
          have HO := hide hown1
          clear hown1
          refine ⟨(fun W => W.cell? ⟨w8.heap.size, 0, none⟩ = some (.int .i64 m5) ∧ W.cell? ⟨w8.heap.size, 1, none⟩ = some (.slice A5 l5.length c5) ∧ Below W0.heap.size W0 W), hS, (fun W h => h), ?_⟩
          simp only [Act.put, pa, pb, pc]
          repeat (first
            | ((refine seq_skip (by rfl) (by rfl) ?_); simp only [Act.put, pa, pb, pc])
            | ((refine seq_val (v := ?_) (by rfl) (by rfl) (fun w hS => ?_) ?_); rotate_left; (focus ((try dsimp only at hS); go_simp; (try (with_reducible rfl)); done)); simp only [Act.put, pa, pb, pc]))
          have hTn : (Value.slice A3 l5.length c3).ownBlock ≠ some X1.heap.size := ty_ne HO.out HT.out.2.2.2 (by decide)
          have hBq := hB
          obtain ⟨X9, hX9⟩ : ∃ X, (X3.setCell ⟨X1.heap.size, 0, none⟩ (.int .i64 m5)).setCell ⟨X1.heap.size, 1, none⟩ (.slice A3 l5.length c3) = X := ⟨_, rfl⟩
          obtain ⟨y0, y1, ⟨y2, y3⟩, _⟩ := HT.out
          refine seq_store (w' := X9) (by rfl) (by rfl) (by rw [← hX9]; go_simp; (try (with_reducible rfl)); done) ?_
          have hS2 : X9.cell? ⟨w8.heap.size, 0, none⟩ = some (.int .i64 m5) ∧ X9.cell? ⟨w8.heap.size, 1, none⟩ = some (.slice A5 l5.length c5) ∧ Below W0.heap.size W0 X9 := ⟨(by rw [← hX9]; exact sc _ (by omega) (sc _ (by omega) (hS.1))), (by rw [← hX9]; exact sc _ (by omega) (sc _ (by omega) (hS.2.1))), (by rw [← hX9]; exact (hB.setCell (p := ⟨X1.heap.size, 0, none⟩) (by show _ ≤ X1.heap.size; omega) _).setCell (p := ⟨X1.heap.size, 1, none⟩) (by show _ ≤ X1.heap.size; omega) _)⟩
          clear hS hB
          have hS := hS2
          clear hS2
          have hB := hS.2.2
          refine ⟨(fun W => W.cell? ⟨w8.heap.size, 0, none⟩ = some (.int .i64 m5) ∧ W.cell? ⟨w8.heap.size, 1, none⟩ = some (.slice A5 l5.length c5) ∧ Below W0.heap.size W0 W), hS, (fun W h => h), ?_⟩
          simp only [Act.put, pa, pb, pc]
          repeat (first
            | ((refine seq_skip (by rfl) (by rfl) ?_); simp only [Act.put, pa, pb, pc])
            | ((refine seq_val (v := ?_) (by rfl) (by rfl) (fun w hS => ?_) ?_); rotate_left; (focus ((try dsimp only at hS); go_simp; (try (with_reducible rfl)); done)); simp only [Act.put, pa, pb, pc]))
          refine seq_nil ?_
          go_wp2_with fail
          go_meet
          case rel => exact ⟨X1.heap.size, A3, c3, rfl, by omega, hTn, hide (by rw [← hX9]; exact ownsRow_setCell_other (ownsRow_setCell_other (own_mono HO.out (by omega)) (a := ⟨X1.heap.size, 0, none⟩) hTn _) (a := ⟨X1.heap.size, 1, none⟩) hTn _), (by rw [← hX9]; exact ⟨sc_off (by omega) (sc_at y0), sc_at (sc_off (by omega) y1), sf _ (sf _ ⟨y2, y3⟩), ((below_via hcw hBq).setCell (p := ⟨X1.heap.size, 0, none⟩) (by show _ ≤ X1.heap.size; omega) _).setCell (p := ⟨X1.heap.size, 1, none⟩) (by show _ ≤ X1.heap.size; omega) _⟩)⟩
        · refine all_seq_core [0, 1, 3, 4, 2, 5, 6, 7, 8] (fun W => W.cell? ⟨w8.heap.size, 0, none⟩ = some (.int .i64 m5) ∧ W.cell? ⟨w8.heap.size, 1, none⟩ = some (.slice A5 l5.length c5) ∧ Below W0.heap.size W0 W) (Core.trans (addE_core 2 7 _) (addE_core 5 7 _)) (by kernel_rfl) hS ?_
          simp only [byNum, List.getElem?_cons_zero, List.getElem?_cons_succ]
          repeat (first
            | ((refine seq_skip (by rfl) (by rfl) ?_); simp only [Act.put, pa, pb, pc])
            | ((refine seq_val (v := ?_) (by rfl) (by rfl) (fun w hS => ?_) ?_); rotate_left; (focus ((try dsimp only at hS); go_simp; (try (with_reducible rfl)); done)); simp only [Act.put, pa, pb, pc]))
          refine seq_deed (v := ?_) (w' := ?_) (by rfl) (by rfl) ?_ ?_
          rotate_left
          rotate_left
          focus (go_simp; (constructor <;> (with_reducible rfl)); done)
          obtain ⟨X1, hX1⟩ : ∃ X, World.alloc W0 (.cells #[] 42) = X := ⟨_, rfl⟩
          rw [hX1]
          have hbx : Below W0.heap.size W0 X1 := by rw [← hX1]; go_grown
          have hlE : W0.heap.size ≤ W0.heap.size := hB.size
          have hmE : W0.heap.size < X1.heap.size := by rw [← hX1]; simp
          have HO9 := hide (show X1.ownsRow W0.heap.size 42 10 (.slice (some ⟨W0.heap.size, 0, none⟩) 0 0) 0 [] from by rw [← hX1]; exact own_empty _ rfl hlE)
          have hS2 : X1.cell? ⟨w8.heap.size, 0, none⟩ = some (.int .i64 m5) ∧ X1.cell? ⟨w8.heap.size, 1, none⟩ = some (.slice A5 l5.length c5) ∧ Below W0.heap.size W0 X1 := ⟨keep_cell hbx (hS.1), keep_cell hbx (hS.2.1), below_via hB hbx⟩
          clear hS hB
          have hS := hS2
          clear hS2
          have hB := hS.2.2
          clear hbx
          clear hX1
          have HO := HO9
          clear HO9
          refine ⟨(fun W => W.cell? ⟨w8.heap.size, 0, none⟩ = some (.int .i64 m5) ∧ W.cell? ⟨w8.heap.size, 1, none⟩ = some (.slice A5 l5.length c5) ∧ Below W0.heap.size W0 W), hS, (fun W h => h), ?_⟩
          simp only [Act.put, pa, pb, pc]
          repeat (first
            | ((refine seq_skip (by rfl) (by rfl) ?_); simp only [Act.put, pa, pb, pc])
            | ((refine seq_val (v := ?_) (by rfl) (by rfl) (fun w hS => ?_) ?_); rotate_left; (focus ((try dsimp only at hS); go_simp; (try (with_reducible rfl)); done)); simp only [Act.put, pa, pb, pc]))
          refine seq_append _ (by rfl) (by rfl) _ _ 24 (by rfl) W0.heap.size 42 i0 (hdV nHd) 10 80 Try.underlying24 hi0 iz0 iy0 ix0 rfl (by decide) _ 0 [] (by rfl) HO.out X1.heap.size A5 l5.length c5 (hds l5) (by rfl) (reads_below HR0.out hB) hn0 (hds_one l5) (by unfold maxLen; omega) (by omega) hB.size ?_
          intro A3 c3 X2 hown1 hgrow
          rw [Nat.zero_add, List.nil_append] at hown1
          rw [Nat.zero_add]
          have hS2 : X2.cell? ⟨w8.heap.size, 0, none⟩ = some (.int .i64 m5) ∧ X2.cell? ⟨w8.heap.size, 1, none⟩ = some (.slice A5 l5.length c5) ∧ Below W0.heap.size W0 X2 := ⟨own_cell HO.out hgrow (hS.1) (by show w8.heap.size < W0.heap.size; omega), own_cell HO.out hgrow (hS.2.1) (by show w8.heap.size < W0.heap.size; omega), own_grown HO.out hgrow hB hB.size (Nat.le_refl _)⟩
          clear hS hB
          have hS := hS2
          clear hS2
          have hB := hS.2.2
          clear hgrow HO
          have HO := hide hown1
          clear hown1
          refine ⟨(fun W => W.cell? ⟨w8.heap.size, 0, none⟩ = some (.int .i64 m5) ∧ W.cell? ⟨w8.heap.size, 1, none⟩ = some (.slice A5 l5.length c5) ∧ Below W0.heap.size W0 W), hS, (fun W h => h), ?_⟩
          simp only [Act.put, pa, pb, pc]
          repeat (first
            | ((refine seq_skip (by rfl) (by rfl) ?_); simp only [Act.put, pa, pb, pc])
            | ((refine seq_val (v := ?_) (by rfl) (by rfl) (fun w hS => ?_) ?_); rotate_left; (focus ((try dsimp only at hS); go_simp; (try (with_reducible rfl)); done)); simp only [Act.put, pa, pb, pc]))
          refine seq_deed (v := ?_) (w' := ?_) (by rfl) (by rfl) ?_ ?_
          rotate_left
          rotate_left
          focus (go_simp; (constructor <;> (with_reducible rfl)); done)
          obtain ⟨X3, hX3⟩ : ∃ X, World.alloc X2 (.cells #[.int .i64 0, .slice none 0 0] 26) = X := ⟨_, rfl⟩
          rw [hX3]
          have hbx : Below X2.heap.size X2 X3 := by rw [← hX3]; go_grown
          have hlT : W0.heap.size ≤ X2.heap.size := hB.size
          have hmT : X2.heap.size < X3.heap.size := by rw [← hX3]; simp
          have HT9 := hide (show TZ X3 X2.heap.size 26 from by rw [← hX3]; exact TZ.new _ _)
          have HOb := hide (own_below HO.out hbx)
          clear HO
          have HO := HOb
          clear HOb
          have hS2 : X3.cell? ⟨w8.heap.size, 0, none⟩ = some (.int .i64 m5) ∧ X3.cell? ⟨w8.heap.size, 1, none⟩ = some (.slice A5 l5.length c5) ∧ Below W0.heap.size W0 X3 := ⟨keep_cell hbx (hS.1), keep_cell hbx (hS.2.1), below_via hB hbx⟩
          clear hS hB
          have hS := hS2
          clear hS2
          have hB := hS.2.2
          clear hbx
          clear hX3
          have HT := HT9
          clear HT9
          refine ⟨(fun W => W.cell? ⟨w8.heap.size, 0, none⟩ = some (.int .i64 m5) ∧ W.cell? ⟨w8.heap.size, 1, none⟩ = some (.slice A5 l5.length c5) ∧ Below W0.heap.size W0 W), hS, (fun W h => h), ?_⟩
          simp only [Act.put, pa, pb, pc]
          repeat (first
            | ((refine seq_skip (by rfl) (by rfl) ?_); simp only [Act.put, pa, pb, pc])
            | ((refine seq_val (v := ?_) (by rfl) (by rfl) (fun w hS => ?_) ?_); rotate_left; (focus ((try dsimp only at hS); go_simp; (try (with_reducible rfl)); done)); simp only [Act.put, pa, pb, pc]))
          have hTn : (Value.slice A3 l5.length c3).ownBlock ≠ some X2.heap.size := ty_ne HO.out HT.out.2.2.2 (by decide)
          have hBq := hB
          obtain ⟨X9, hX9⟩ : ∃ X, (X3.setCell ⟨X2.heap.size, 0, none⟩ (.int .i64 m5)).setCell ⟨X2.heap.size, 1, none⟩ (.slice A3 l5.length c3) = X := ⟨_, rfl⟩
          obtain ⟨y0, y1, ⟨y2, y3⟩, _⟩ := HT.out
          refine seq_store (w' := X9) (by rfl) (by rfl) (by rw [← hX9]; go_simp; (try (with_reducible rfl)); done) ?_
          have hS2 : X9.cell? ⟨w8.heap.size, 0, none⟩ = some (.int .i64 m5) ∧ X9.cell? ⟨w8.heap.size, 1, none⟩ = some (.slice A5 l5.length c5) ∧ Below W0.heap.size W0 X9 := ⟨(by rw [← hX9]; exact sc _ (by omega) (sc _ (by omega) (hS.1))), (by rw [← hX9]; exact sc _ (by omega) (sc _ (by omega) (hS.2.1))), (by rw [← hX9]; exact (hB.setCell (p := ⟨X2.heap.size, 0, none⟩) (by show _ ≤ X2.heap.size; omega) _).setCell (p := ⟨X2.heap.size, 1, none⟩) (by show _ ≤ X2.heap.size; omega) _)⟩
          clear hS hB
          have hS := hS2
          clear hS2
          have hB := hS.2.2
          refine ⟨(fun W => W.cell? ⟨w8.heap.size, 0, none⟩ = some (.int .i64 m5) ∧ W.cell? ⟨w8.heap.size, 1, none⟩ = some (.slice A5 l5.length c5) ∧ Below W0.heap.size W0 W), hS, (fun W h => h), ?_⟩
          simp only [Act.put, pa, pb, pc]
          repeat (first
            | ((refine seq_skip (by rfl) (by rfl) ?_); simp only [Act.put, pa, pb, pc])
            | ((refine seq_val (v := ?_) (by rfl) (by rfl) (fun w hS => ?_) ?_); rotate_left; (focus ((try dsimp only at hS); go_simp; (try (with_reducible rfl)); done)); simp only [Act.put, pa, pb, pc]))
          refine seq_nil ?_
          go_wp2_with fail
          go_meet
          case rel => exact ⟨X2.heap.size, A3, c3, rfl, by omega, hTn, hide (by rw [← hX9]; exact ownsRow_setCell_other (ownsRow_setCell_other (own_mono HO.out (by omega)) (a := ⟨X2.heap.size, 0, none⟩) hTn _) (a := ⟨X2.heap.size, 1, none⟩) hTn _), (by rw [← hX9]; exact ⟨sc_off (by omega) (sc_at y0), sc_at (sc_off (by omega) y1), sf _ (sf _ ⟨y2, y3⟩), ((below_via hcw hBq).setCell (p := ⟨X2.heap.size, 0, none⟩) (by show _ ≤ X2.heap.size; omega) _).setCell (p := ⟨X2.heap.size, 1, none⟩) (by show _ ≤ X2.heap.size; omega) _⟩)⟩
    obtain ⟨T, A3, c3, rfl, hwT, hTn, HROW, hS⟩ := hcut
    go_wp2_with fail
    go_loopw [23, 24] (fun cv iv wr => ∃ (i n : Nat) (M : Int) (L : List Hd) (AL : Option Addr) (cL : Nat), i ≤ ls.length ∧ n ≤ i ∧ iv = .int .i64 i ∧ cv = .int .i64 n ∧ Hid (raN t5 m5 l5 ls i = (M, L, n)) ∧ (Value.slice AL L.length cL).ownBlock ≠ some T ∧ Hid (wr.ownsRow w14.heap.size 42 10 (.slice AL L.length cL) L.length (hds L)) ∧ (wr.cell? ⟨T, 0, none⟩ = some (.int .i64 M) ∧ wr.cell? ⟨T, 1, none⟩ = some (.slice AL L.length cL) ∧ (T < wr.heap.size ∧ ∀ i, wr.frozen? ⟨T, i, none⟩ = false) ∧ Below w14.heap.size w14 wr)) (fun _ iv _ => ls.length - (intOf iv).toNat)
    case atStart => exact ⟨0, 0, m5, l5, A3, c3, by omega, by omega, rfl, rfl, hide rfl, hTn, HROW, hS⟩
    case round =>
      clear hS HROW hTn
      obtain ⟨i, n, M, L, AL, cL, hi, hni, rfl, rfl, HN, hLT, HROW, hS⟩ := hrel
      have hB := hS.2.2.2
      have hzw : w14.heap.size ≤ wr.heap.size := hB.size
      have hok := raN_ok (t := t5) (ls := ls) HOK.out i
      rw [HN.out] at hok
      have HOM := hide hok.1
      have hL6 : L.length ≤ 6 := (okR_iff hok.1).2.1
      clear hok
      by_cases hlt : i < ls.length
      rotate_left
      · obtain rfl : i = ls.length := by omega
        obtain ⟨_, rfl, rfl, rfl⟩ := HRA.out M L n (by trivial) HN.out
        have hy0r := keep_cell hB hy0c
        have hy1r := keep_cell hB hy1c
        have hH3 := hide ((H3.out.below hB).more hB.size)
        obtain ⟨ht0r, ht1r, _⟩ := hS
        go_wp2_with fail
        refine (vReceiver_c M6 AL A6 cL c6 V6 _ (hide (own_reads HROW.out)) hH3 (by omega)).mono ?_
        rintro e wv ⟨rfl, hbv⟩
        go_wp2_with fail
        go_meet
        case rel => exact below_via (below_via HB9.out hB) hbv
      obtain ⟨ad, hSA, hb9, hc⟩ := (H2.out.below hB).str hlt
      obtain ⟨y, hz⟩ : ∃ q, sx ls i = q := ⟨_, rfl⟩
      have hys : y.size ≤ 1000000000000 := by rw [← hz]; exact HSS.out _ (sx_mem hlt)
      rw [hz] at hc
      have HZ := hide hz
      clear hz
      subst hSA
      go_upto_region 29 with fail
      go_cut [25, 26] (fun pv kv wx => ∃ (N : Nat) (B : Option Addr) (d : Nat), pv = .pointer (some ⟨N, 0, none⟩) ∧ kv = .bool (rvK M L y t5) ∧ T < N ∧ (Value.slice B (rvV M L y t5).length d).ownBlock ≠ some T ∧ Hid (wx.ownsRow w14.heap.size 42 10 (.slice AL L.length cL) L.length (hds L)) ∧ Hid (wx.ownsRow w14.heap.size 42 10 (.slice B (rvV M L y t5).length d) (rvV M L y t5).length (hds (rvV M L y t5))) ∧ (wx.cell? ⟨T, 0, none⟩ = some (.int .i64 M) ∧ wx.cell? ⟨T, 1, none⟩ = some (.slice AL L.length cL) ∧ (T < wx.heap.size ∧ ∀ i, wx.frozen? ⟨T, i, none⟩ = false) ∧ wx.cell? ⟨N, 0, none⟩ = some (.int .i64 (rvM M L y t5)) ∧ wx.cell? ⟨N, 1, none⟩ = some (.slice B (rvV M L y t5).length d) ∧ Below w14.heap.size w14 wx))
      case first => as_aux_lemma =>
        refine wp_region_all (by kernel_rfl) ?_
        obtain ⟨W0, hW0⟩ : ∃ W, World.drew wr = W := ⟨_, rfl⟩
        rw [hW0]
        have hcw : Below wr.heap.size wr W0 := by rw [← hW0]; go_grown
        have hB1 := below_via hB hcw
        have HS0 := hide (show W0.cell? ⟨T, 0, none⟩ = some (.int .i64 M) ∧ W0.cell? ⟨T, 1, none⟩ = some (.slice AL L.length cL) ∧ (T < W0.heap.size ∧ ∀ i, W0.frozen? ⟨T, i, none⟩ = false) ∧ Below w14.heap.size w14 W0 from ⟨keep_cell hcw (hS.1), keep_cell hcw (hS.2.1), keep_fre hcw (hS.2.2.1), hB1⟩)
        have HRA9 := hide (own_below HROW.out hcw)
        have hTW : T < W0.heap.size := (HS0.out.2.2.1).1
        have hwW : w14.heap.size ≤ W0.heap.size := hB1.size
        have hS7 : W0.cell? ⟨T, 0, none⟩ = some (.int .i64 M) ∧ W0.cell? ⟨T, 1, none⟩ = some (.slice AL L.length cL) ∧ W0.cell? (ad.add i) = some (.string y) ∧ Below W0.heap.size W0 W0 := ⟨HS0.out.1, HS0.out.2.1, keep_cell hcw hc, Below.refl _ _⟩
        clear hS hB hcw hB1 hW0 hzw hc HROW
        have hS := hS7
        clear hS7
        have hB := hS.2.2.2
        have hda : (ad.add i).block < W0.heap.size := World.block_lt_of_cell? W0 _ hS.2.2.1
        refine all_split 10 6 (by decide) ?_ ?_
        · refine all_seq_core [0, 1, 2, 3, 4, 5, 10, 6, 7, 8, 9, 11, 12] (fun W => W.cell? ⟨T, 0, none⟩ = some (.int .i64 M) ∧ W.cell? ⟨T, 1, none⟩ = some (.slice AL L.length cL) ∧ W.cell? (ad.add i) = some (.string y) ∧ Below W0.heap.size W0 W) (addE_core 10 6 _) (by kernel_rfl) hS ?_
          simp only [byNum, List.getElem?_cons_zero, List.getElem?_cons_succ]
          repeat (first
            | ((refine seq_skip (by rfl) (by rfl) ?_); simp only [Act.put, pa, pb, pc])
            | ((refine seq_val (v := ?_) (by rfl) (by rfl) (fun w hS => ?_) ?_); rotate_left; (focus ((try dsimp only at hS); go_simp; (try (with_reducible rfl)); done)); simp only [Act.put, pa, pb, pc]))
          refine seq_deed (v := ?_) (w' := ?_) (by rfl) (by rfl) ?_ ?_
          rotate_left
          rotate_left
          focus (go_simp; (constructor <;> (with_reducible rfl)); done)
          obtain ⟨X1, hX1⟩ : ∃ X, World.alloc W0 (.cells #[.int .i64 0, .slice none 0 0] 26) = X := ⟨_, rfl⟩
          rw [hX1]
          have hbx : Below W0.heap.size W0 X1 := by rw [← hX1]; go_grown
          have hlT : W0.heap.size ≤ W0.heap.size := hB.size
          have hmT : W0.heap.size < X1.heap.size := by rw [← hX1]; simp
          have HT9 := hide (show TZ X1 W0.heap.size 26 from by rw [← hX1]; exact TZ.new _ _)
          have HRA9b := hide (own_below HRA9.out hbx)
          clear HRA9
          have HRA9 := HRA9b
          clear HRA9b
          have hS2 : X1.cell? ⟨T, 0, none⟩ = some (.int .i64 M) ∧ X1.cell? ⟨T, 1, none⟩ = some (.slice AL L.length cL) ∧ X1.cell? (ad.add i) = some (.string y) ∧ Below W0.heap.size W0 X1 := ⟨keep_cell hbx (hS.1), keep_cell hbx (hS.2.1), keep_cell hbx (hS.2.2.1), below_via hB hbx⟩
          clear hS hB
          have hS := hS2
          clear hS2
          have hB := hS.2.2.2
          clear hbx
          clear hX1
          have HT := HT9
          clear HT9
          refine ⟨(fun W => W.cell? ⟨T, 0, none⟩ = some (.int .i64 M) ∧ W.cell? ⟨T, 1, none⟩ = some (.slice AL L.length cL) ∧ W.cell? (ad.add i) = some (.string y) ∧ Below W0.heap.size W0 W), hS, (fun W h => h), ?_⟩
          simp only [Act.put, pa, pb, pc]
          repeat (first
            | ((refine seq_skip (by rfl) (by rfl) ?_); simp only [Act.put, pa, pb, pc])
            | ((refine seq_val (v := ?_) (by rfl) (by rfl) (fun w hS => ?_) ?_); rotate_left; (focus ((try dsimp only at hS); go_simp; (try (with_reducible rfl)); done)); simp only [Act.put, pa, pb, pc]))
          refine seq_call (f := ?_) (args := ?_) (by rfl) (by rfl) ?_ ?_
          rotate_left
          rotate_left
          focus (go_simp; (constructor <;> (with_reducible rfl)); done)
          refine (Receive2_c M AL cL L y t5 X1 (hide (own_reads HRA9.out)) (by omega) HOM.out hys).mono ?_
          rintro e X2 ⟨B, d, rfl, hown, hbx⟩
          have hsz2 := hB.size
          have hBN : (Value.slice B (rvV M L y t5).length d).ownBlock ≠ some W0.heap.size := fun e => by have h8 := (hown.lt _ e).1; omega
          have hBT : (Value.slice B (rvV M L y t5).length d).ownBlock ≠ some T := fun e => by have h8 := (hown.lt _ e).1; omega
          have HRA9b := hide (own_below HRA9.out hbx)
          clear HRA9
          have HRA9 := HRA9b
          clear HRA9b
          have HTb := hide (HT.out.below hbx)
          clear HT
          have HT := HTb
          clear HTb
          have hS2 : X2.cell? ⟨T, 0, none⟩ = some (.int .i64 M) ∧ X2.cell? ⟨T, 1, none⟩ = some (.slice AL L.length cL) ∧ X2.cell? (ad.add i) = some (.string y) ∧ Below W0.heap.size W0 X2 := ⟨keep_cell hbx (hS.1), keep_cell hbx (hS.2.1), keep_cell hbx (hS.2.2.1), below_via hB hbx⟩
          clear hS hB
          have hS := hS2
          clear hS2
          have hB := hS.2.2.2
          clear hbx
          have HO := hide (own_mono hown (show w14.heap.size ≤ X1.heap.size by omega))
          clear hown
          refine ⟨_, rfl, (fun W => W.cell? ⟨T, 0, none⟩ = some (.int .i64 M) ∧ W.cell? ⟨T, 1, none⟩ = some (.slice AL L.length cL) ∧ W.cell? (ad.add i) = some (.string y) ∧ Below W0.heap.size W0 W), hS, (fun W h => h), ?_⟩
          simp only [Act.put, pa, pb, pc]
          repeat (first
            | ((refine seq_skip (by rfl) (by rfl) ?_); simp only [Act.put, pa, pb, pc])
            | ((refine seq_val (v := ?_) (by rfl) (by rfl) (fun w hS => ?_) ?_); rotate_left; (focus ((try dsimp only at hS); go_simp; (try (with_reducible rfl)); done)); simp only [Act.put, pa, pb, pc]))
          have hAN : (Value.slice AL L.length cL).ownBlock ≠ some W0.heap.size := ty_ne HRA9.out HT.out.2.2.2 (by decide)
          have hBq := hB
          obtain ⟨X9, hX9⟩ : ∃ X, (X2.setCell ⟨W0.heap.size, 0, none⟩ (.int .i64 (rvM M L y t5))).setCell ⟨W0.heap.size, 1, none⟩ (.slice B (rvV M L y t5).length d) = X := ⟨_, rfl⟩
          obtain ⟨y0, y1, ⟨y2, y3⟩, _⟩ := HT.out
          refine seq_store (w' := X9) (by rfl) (by rfl) (by rw [← hX9]; go_simp; (try (with_reducible rfl)); done) ?_
          have hS2 : X9.cell? ⟨T, 0, none⟩ = some (.int .i64 M) ∧ X9.cell? ⟨T, 1, none⟩ = some (.slice AL L.length cL) ∧ X9.cell? (ad.add i) = some (.string y) ∧ Below W0.heap.size W0 X9 := ⟨(by rw [← hX9]; exact sc _ (by omega) (sc _ (by omega) (hS.1))), (by rw [← hX9]; exact sc _ (by omega) (sc _ (by omega) (hS.2.1))), (by rw [← hX9]; exact (by rw [World.cell?_setCell_other _ _ _ _ (by intro e; have h8 := hda; rw [← e] at h8; have h7 : W0.heap.size < W0.heap.size := h8; omega), World.cell?_setCell_other _ _ _ _ (by intro e; have h8 := hda; rw [← e] at h8; have h7 : W0.heap.size < W0.heap.size := h8; omega)]; exact hS.2.2.1)), (by rw [← hX9]; exact (hB.setCell (p := ⟨W0.heap.size, 0, none⟩) (by show _ ≤ W0.heap.size; omega) _).setCell (p := ⟨W0.heap.size, 1, none⟩) (by show _ ≤ W0.heap.size; omega) _)⟩
          clear hS hB
          have hS := hS2
          clear hS2
          have hB := hS.2.2.2
          refine ⟨(fun W => W.cell? ⟨T, 0, none⟩ = some (.int .i64 M) ∧ W.cell? ⟨T, 1, none⟩ = some (.slice AL L.length cL) ∧ W.cell? (ad.add i) = some (.string y) ∧ Below W0.heap.size W0 W), hS, (fun W h => h), ?_⟩
          simp only [Act.put, pa, pb, pc]
          repeat (first
            | ((refine seq_skip (by rfl) (by rfl) ?_); simp only [Act.put, pa, pb, pc])
            | ((refine seq_val (v := ?_) (by rfl) (by rfl) (fun w hS => ?_) ?_); rotate_left; (focus ((try dsimp only at hS); go_simp; (try (with_reducible rfl)); done)); simp only [Act.put, pa, pb, pc]))
          refine seq_nil ?_
          go_wp2_with fail
          go_meet
          case rel => exact ⟨W0.heap.size, B, d, rfl, rfl, by omega, hBT, hide (by rw [← hX9]; exact ownsRow_setCell_other (ownsRow_setCell_other HRA9.out (a := ⟨W0.heap.size, 0, none⟩) hAN _) (a := ⟨W0.heap.size, 1, none⟩) hAN _), hide (by rw [← hX9]; exact ownsRow_setCell_other (ownsRow_setCell_other HO.out (a := ⟨W0.heap.size, 0, none⟩) hBN _) (a := ⟨W0.heap.size, 1, none⟩) hBN _), (by rw [← hX9]; exact ⟨sc _ (by omega) (sc _ (by omega) (keep_cell hBq (HS0.out.1))), sc _ (by omega) (sc _ (by omega) (keep_cell hBq (HS0.out.2.1))), sf _ (sf _ (keep_fre hBq (HS0.out.2.2.1))), sc_off (by omega) (sc_at y0), sc_at (sc_off (by omega) y1), ((below_via (HS0.out.2.2.2) hBq).setCell (p := ⟨W0.heap.size, 0, none⟩) (by show _ ≤ W0.heap.size; omega) _).setCell (p := ⟨W0.heap.size, 1, none⟩) (by show _ ≤ W0.heap.size; omega) _⟩)⟩
        · refine all_seq_core [0, 1, 2, 3, 4, 5, 6, 7, 8, 9, 10, 11, 12] (fun W => W.cell? ⟨T, 0, none⟩ = some (.int .i64 M) ∧ W.cell? ⟨T, 1, none⟩ = some (.slice AL L.length cL) ∧ W.cell? (ad.add i) = some (.string y) ∧ Below W0.heap.size W0 W) (addE_core 6 10 _) (by kernel_rfl) hS ?_
          simp only [byNum, List.getElem?_cons_zero, List.getElem?_cons_succ]
          repeat (first
            | ((refine seq_skip (by rfl) (by rfl) ?_); simp only [Act.put, pa, pb, pc])
            | ((refine seq_val (v := ?_) (by rfl) (by rfl) (fun w hS => ?_) ?_); rotate_left; (focus ((try dsimp only at hS); go_simp; (try (with_reducible rfl)); done)); simp only [Act.put, pa, pb, pc]))
          refine seq_call (f := ?_) (args := ?_) (by rfl) (by rfl) ?_ ?_
          rotate_left
          rotate_left
          focus (go_simp; (constructor <;> (with_reducible rfl)); done)
          refine (Receive2_c M AL cL L y t5 W0 (hide (own_reads HRA9.out)) (by omega) HOM.out hys).mono ?_
          rintro e X1 ⟨B, d, rfl, hown, hbx⟩
          have hsz1 := hB.size
          have hBT : (Value.slice B (rvV M L y t5).length d).ownBlock ≠ some T := fun e => by have h8 := (hown.lt _ e).1; omega
          have HRA9b := hide (own_below HRA9.out hbx)
          clear HRA9
          have HRA9 := HRA9b
          clear HRA9b
          have hS2 : X1.cell? ⟨T, 0, none⟩ = some (.int .i64 M) ∧ X1.cell? ⟨T, 1, none⟩ = some (.slice AL L.length cL) ∧ X1.cell? (ad.add i) = some (.string y) ∧ Below W0.heap.size W0 X1 := ⟨keep_cell hbx (hS.1), keep_cell hbx (hS.2.1), keep_cell hbx (hS.2.2.1), below_via hB hbx⟩
          clear hS hB
          have hS := hS2
          clear hS2
          have hB := hS.2.2.2
          clear hbx
          have HO := hide (own_mono hown (show w14.heap.size ≤ W0.heap.size by omega))
          have hOL := hide hown
          clear hown
          refine ⟨_, rfl, (fun W => W.cell? ⟨T, 0, none⟩ = some (.int .i64 M) ∧ W.cell? ⟨T, 1, none⟩ = some (.slice AL L.length cL) ∧ W.cell? (ad.add i) = some (.string y) ∧ Below W0.heap.size W0 W), hS, (fun W h => h), ?_⟩
          simp only [Act.put, pa, pb, pc]
          repeat (first
            | ((refine seq_skip (by rfl) (by rfl) ?_); simp only [Act.put, pa, pb, pc])
            | ((refine seq_val (v := ?_) (by rfl) (by rfl) (fun w hS => ?_) ?_); rotate_left; (focus ((try dsimp only at hS); go_simp; (try (with_reducible rfl)); done)); simp only [Act.put, pa, pb, pc]))
          refine seq_deed (v := ?_) (w' := ?_) (by rfl) (by rfl) ?_ ?_
          rotate_left
          rotate_left
          focus (go_simp; (constructor <;> (with_reducible rfl)); done)
          obtain ⟨X2, hX2⟩ : ∃ X, World.alloc X1 (.cells #[.int .i64 0, .slice none 0 0] 26) = X := ⟨_, rfl⟩
          rw [hX2]
          have hbx : Below X1.heap.size X1 X2 := by rw [← hX2]; go_grown
          have hlT : W0.heap.size ≤ X1.heap.size := hB.size
          have hmT : X1.heap.size < X2.heap.size := by rw [← hX2]; simp
          have HT9 := hide (show TZ X2 X1.heap.size 26 from by rw [← hX2]; exact TZ.new _ _)
          have HRA9b := hide (own_below HRA9.out hbx)
          clear HRA9
          have HRA9 := HRA9b
          clear HRA9b
          have HOb := hide (own_below HO.out hbx)
          clear HO
          have HO := HOb
          clear HOb
          have hS2 : X2.cell? ⟨T, 0, none⟩ = some (.int .i64 M) ∧ X2.cell? ⟨T, 1, none⟩ = some (.slice AL L.length cL) ∧ X2.cell? (ad.add i) = some (.string y) ∧ Below W0.heap.size W0 X2 := ⟨keep_cell hbx (hS.1), keep_cell hbx (hS.2.1), keep_cell hbx (hS.2.2.1), below_via hB hbx⟩
          clear hS hB
          have hS := hS2
          clear hS2
          have hB := hS.2.2.2
          clear hbx
          clear hX2
          have HT := HT9
          clear HT9
          refine ⟨(fun W => W.cell? ⟨T, 0, none⟩ = some (.int .i64 M) ∧ W.cell? ⟨T, 1, none⟩ = some (.slice AL L.length cL) ∧ W.cell? (ad.add i) = some (.string y) ∧ Below W0.heap.size W0 W), hS, (fun W h => h), ?_⟩
          simp only [Act.put, pa, pb, pc]
          repeat (first
            | ((refine seq_skip (by rfl) (by rfl) ?_); simp only [Act.put, pa, pb, pc])
            | ((refine seq_val (v := ?_) (by rfl) (by rfl) (fun w hS => ?_) ?_); rotate_left; (focus ((try dsimp only at hS); go_simp; (try (with_reducible rfl)); done)); simp only [Act.put, pa, pb, pc]))
          have hBN : (Value.slice B (rvV M L y t5).length d).ownBlock ≠ some X1.heap.size := fun e => by have h8 := (hOL.out.lt _ e).2; omega
          have hAN : (Value.slice AL L.length cL).ownBlock ≠ some X1.heap.size := ty_ne HRA9.out HT.out.2.2.2 (by decide)
          have hBq := hB
          obtain ⟨X9, hX9⟩ : ∃ X, (X2.setCell ⟨X1.heap.size, 0, none⟩ (.int .i64 (rvM M L y t5))).setCell ⟨X1.heap.size, 1, none⟩ (.slice B (rvV M L y t5).length d) = X := ⟨_, rfl⟩
          obtain ⟨y0, y1, ⟨y2, y3⟩, _⟩ := HT.out
          refine seq_store (w' := X9) (by rfl) (by rfl) (by rw [← hX9]; go_simp; (try (with_reducible rfl)); done) ?_
          have hS2 : X9.cell? ⟨T, 0, none⟩ = some (.int .i64 M) ∧ X9.cell? ⟨T, 1, none⟩ = some (.slice AL L.length cL) ∧ X9.cell? (ad.add i) = some (.string y) ∧ Below W0.heap.size W0 X9 := ⟨(by rw [← hX9]; exact sc _ (by omega) (sc _ (by omega) (hS.1))), (by rw [← hX9]; exact sc _ (by omega) (sc _ (by omega) (hS.2.1))), (by rw [← hX9]; exact (by rw [World.cell?_setCell_other _ _ _ _ (by intro e; have h8 := hda; rw [← e] at h8; have h7 : X1.heap.size < W0.heap.size := h8; omega), World.cell?_setCell_other _ _ _ _ (by intro e; have h8 := hda; rw [← e] at h8; have h7 : X1.heap.size < W0.heap.size := h8; omega)]; exact hS.2.2.1)), (by rw [← hX9]; exact (hB.setCell (p := ⟨X1.heap.size, 0, none⟩) (by show _ ≤ X1.heap.size; omega) _).setCell (p := ⟨X1.heap.size, 1, none⟩) (by show _ ≤ X1.heap.size; omega) _)⟩
          clear hS hB
          have hS := hS2
          clear hS2
          have hB := hS.2.2.2
          refine ⟨(fun W => W.cell? ⟨T, 0, none⟩ = some (.int .i64 M) ∧ W.cell? ⟨T, 1, none⟩ = some (.slice AL L.length cL) ∧ W.cell? (ad.add i) = some (.string y) ∧ Below W0.heap.size W0 W), hS, (fun W h => h), ?_⟩
          simp only [Act.put, pa, pb, pc]
          repeat (first
            | ((refine seq_skip (by rfl) (by rfl) ?_); simp only [Act.put, pa, pb, pc])
            | ((refine seq_val (v := ?_) (by rfl) (by rfl) (fun w hS => ?_) ?_); rotate_left; (focus ((try dsimp only at hS); go_simp; (try (with_reducible rfl)); done)); simp only [Act.put, pa, pb, pc]))
          refine seq_nil ?_
          go_wp2_with fail
          go_meet
          case rel => exact ⟨X1.heap.size, B, d, rfl, rfl, by omega, hBT, hide (by rw [← hX9]; exact ownsRow_setCell_other (ownsRow_setCell_other HRA9.out (a := ⟨X1.heap.size, 0, none⟩) hAN _) (a := ⟨X1.heap.size, 1, none⟩) hAN _), hide (by rw [← hX9]; exact ownsRow_setCell_other (ownsRow_setCell_other HO.out (a := ⟨X1.heap.size, 0, none⟩) hBN _) (a := ⟨X1.heap.size, 1, none⟩) hBN _), (by rw [← hX9]; exact ⟨sc _ (by omega) (sc _ (by omega) (keep_cell hBq (HS0.out.1))), sc _ (by omega) (sc _ (by omega) (keep_cell hBq (HS0.out.2.1))), sf _ (sf _ (keep_fre hBq (HS0.out.2.2.1))), sc_off (by omega) (sc_at y0), sc_at (sc_off (by omega) y1), ((below_via (HS0.out.2.2.2) hBq).setCell (p := ⟨X1.heap.size, 0, none⟩) (by show _ ≤ X1.heap.size; omega) _).setCell (p := ⟨X1.heap.size, 1, none⟩) (by show _ ≤ X1.heap.size; omega) _⟩)⟩
      clear hS hB hzw HROW hc
      obtain ⟨N, B, d, rfl, rfl, hTN, hBT, HRA9, HRB, hS⟩ := hcut
      obtain ⟨X, hX⟩ : ∃ X, wc = X := ⟨_, rfl⟩
      rw [hX] at HRA9 HRB hS ⊢
      clear hX
      have hB := hS.2.2.2.2.2
      have hzw : w14.heap.size ≤ X.heap.size := hB.size
      rcases hk : rvK M L y t5 with _ | _
      · have HS := hide (raN_no HN.out (show rvK M L (sx ls i) t5 = false from by rw [HZ.out]; exact hk))
        clear hk
        go_wp2_with fail
        go_roundw
        case rel => exact ⟨i + 1, n, M, L, AL, cL, by omega, by omega, by go_num, rfl, HS, hLT, HRA9, hS.1, hS.2.1, hS.2.2.1, hB⟩
        case measure => simp [intOf]; omega
      have HS := hide (raN_yes HN.out (show rvK M L (sx ls i) t5 = true from by rw [HZ.out]; exact hk))
      rw [HZ.out] at HS
      clear hk
      have fz : ∀ q, X.frozen? ⟨T, q, none⟩ = false := (hS.2.2.1).2
      have hn20 : n ≤ 20 := by omega
      go_wp2_with fail
      go_roundw
      case rel => exact ⟨i + 1, n + 1, rvM M L y t5, rvV M L y t5, B, d, by omega, by omega, by go_num, by go_num, HS, hBT, hide (ownsRow_setCell_other (ownsRow_setCell_other HRB.out (a := ⟨T, 0, none⟩) hBT _) (a := ⟨T, 1, none⟩) hBT _), sc_off (by omega) (sc_at (hS.1)), sc_at (sc_off (by omega) (hS.2.1)), sf _ (sf _ (hS.2.2.1)), (hB.setCell (p := ⟨T, 0, none⟩) (by show _ ≤ T; omega) _).setCell (p := ⟨T, 1, none⟩) (by show _ ≤ T; omega) _⟩
      case measure => simp [intOf]; omega
  have hB : Below w.heap.size w wc := hcut
  clear hcut
  (try clear hS)
  have hzw : w.heap.size ≤ wc.heap.size := hB.size
  go_wp2_with fail
  refine (drawHeard_c A n c _ (hide (h1.out.below (by go_grown))) HN.out).mono ?_
  rintro e w15 ⟨m8, l8, A8, c8, y8, rfl, ho8, hl820, ⟨hm80, hm81⟩, ⟨hy80, hy81⟩, hb⟩
  obtain ⟨b8, ho8, hbk8⟩ := own_based ho8 (m := wc.heap.size) (by first | omega | (simp; done) | (simp; omega))
  have hT : w15.ownsRow (b8) 42 10 (.slice A8 l8.length c8) (l8.length) (hds l8) ∧ Below w.heap.size w w15 := ⟨ho8, (fun W h hb => below_via h (hb) : ∀ W : World, (Below w.heap.size w W) → Below W.heap.size W w15 → (Below w.heap.size w w15)) _ (by first | (with_reducible assumption) | go_grown) hb⟩
  (try clear hS)
  have hS := hT
  clear hT
  have hB := hS.2
  have hzw : w.heap.size ≤ w15.heap.size := hB.size
  clear hb
  go_wp2_with fail
  obtain ⟨w16, hww16⟩ : ∃ W, W = w15.alloc (.cells #[.int .i64 m8, .slice A8 l8.length c8] 26) := ⟨_, rfl⟩
  have hT : w16.cell? ⟨w15.heap.size, 0, none⟩ = some (.int .i64 m8) ∧ w16.cell? ⟨w15.heap.size, 1, none⟩ = some (.slice A8 l8.length c8) ∧ w16.ownsRow (b8) 42 10 (.slice A8 l8.length c8) (l8.length) (hds l8) ∧ Below w.heap.size w w16 := by
    rw [hww16]
    exact ⟨by simp [go_sem], by simp [go_sem], own_below hS.1 (by go_grown), below_via hS.2 (by go_grown)⟩
  rw [← hww16]
  clear hS hww16
  have hS := hT
  clear hT
  (try clear hB hzw)
  have hB := hS.2.2.2
  have hzw : w.heap.size ≤ w16.heap.size := hB.size
  have hz1 : w15.heap.size < w16.heap.size := World.block_lt_of_cell? w16 _ (hS.1)
  rcases hq : hfV m8 l8 y8 with ⟨qa, ⟨qb, qc, qd⟩, qe, ⟨qf, qg, qh⟩, qi, qj⟩
  obtain ⟨K8, hK8⟩ : ∃ q, hfK m8 l8 y8 = q := ⟨_, rfl⟩
  have HHF := hide (fun (W : World) h => HeardFrom_c m8 A8 c8 l8 y8 W h (by omega))
  have HHS := hide (fun (W : World) h => sHeardFrom_c m8 A8 c8 l8 y8 W h (by omega))
  rw [hq, hK8] at HHF HHS
  simp only at HHF HHS
  clear hq hK8
  go_wp2_with fail
  refine (HHF.out _ (hide (own_reads (hS.2.2.1)))).mono ?_
  rintro e w17 ⟨rfl, hb⟩
  have hT : w17.cell? ⟨w15.heap.size, 0, none⟩ = some (.int .i64 m8) ∧ w17.cell? ⟨w15.heap.size, 1, none⟩ = some (.slice A8 l8.length c8) ∧ w17.ownsRow (b8) 42 10 (.slice A8 l8.length c8) (l8.length) (hds l8) ∧ Below w.heap.size w w17 := ⟨keep_cell (hb) hS.1, keep_cell (hb) hS.2.1, own_below hS.2.2.1 (hb), below_via hS.2.2.2 (hb)⟩
  (try clear hS)
  have hS := hT
  clear hT
  have hB := hS.2.2.2
  have hzw : w.heap.size ≤ w17.heap.size := hB.size
  have hz1 : w15.heap.size < w17.heap.size := World.block_lt_of_cell? w17 _ (hS.1)
  clear hb
  go_wp2_with fail
  obtain ⟨w18, hww18⟩ : ∃ W, W = w17.alloc (.cells #[.int .i64 (qa), .bool qb, .int .i64 (qc), .int .i64 (qd), .int .i64 (qe), .bool qf, .int .i64 (qg), .int .i64 (qh), .int .i64 (qi), .int .i64 (qj)] 42) := ⟨_, rfl⟩
  have hT : w18.cell? ⟨w17.heap.size, 0, none⟩ = some (.int .i64 (qa)) ∧ w18.cell? ⟨w17.heap.size, 1, none⟩ = some (.bool qb) ∧ w18.cell? ⟨w17.heap.size, 2, none⟩ = some (.int .i64 (qc)) ∧ w18.cell? ⟨w17.heap.size, 3, none⟩ = some (.int .i64 (qd)) ∧ w18.cell? ⟨w17.heap.size, 4, none⟩ = some (.int .i64 (qe)) ∧ w18.cell? ⟨w17.heap.size, 5, none⟩ = some (.bool qf) ∧ w18.cell? ⟨w17.heap.size, 6, none⟩ = some (.int .i64 (qg)) ∧ w18.cell? ⟨w17.heap.size, 7, none⟩ = some (.int .i64 (qh)) ∧ w18.cell? ⟨w17.heap.size, 8, none⟩ = some (.int .i64 (qi)) ∧ w18.cell? ⟨w17.heap.size, 9, none⟩ = some (.int .i64 (qj)) ∧ w18.cell? ⟨w15.heap.size, 0, none⟩ = some (.int .i64 m8) ∧ w18.cell? ⟨w15.heap.size, 1, none⟩ = some (.slice A8 l8.length c8) ∧ w18.ownsRow (b8) 42 10 (.slice A8 l8.length c8) (l8.length) (hds l8) ∧ Below w.heap.size w w18 := by
    rw [hww18]
    exact ⟨by simp [go_sem], by simp [go_sem], by simp [go_sem], by simp [go_sem], by simp [go_sem], by simp [go_sem], by simp [go_sem], by simp [go_sem], by simp [go_sem], by simp [go_sem], keep_cell (by go_grown) hS.1, keep_cell (by go_grown) hS.2.1, own_below hS.2.2.1 (by go_grown), below_via hS.2.2.2 (by go_grown)⟩
  rw [← hww18]
  clear hS hww18
  have hS := hT
  clear hT
  (try clear hB hzw)
  have hB := hS.2.2.2.2.2.2.2.2.2.2.2.2.2
  have hzw : w.heap.size ≤ w18.heap.size := hB.size
  have hz1 : w17.heap.size < w18.heap.size := World.block_lt_of_cell? w18 _ (hS.1)
  have hz2 : w15.heap.size < w18.heap.size := World.block_lt_of_cell? w18 _ (hS.2.2.2.2.2.2.2.2.2.2.1)
  go_wp2_with fail
  refine (HHS.out _ (hide (own_reads (hS.2.2.2.2.2.2.2.2.2.2.2.2.1)))).mono ?_
  rintro e w19 ⟨rfl, hb⟩
  have hT : w19.cell? ⟨w17.heap.size, 0, none⟩ = some (.int .i64 (qa)) ∧ w19.cell? ⟨w17.heap.size, 1, none⟩ = some (.bool qb) ∧ w19.cell? ⟨w17.heap.size, 2, none⟩ = some (.int .i64 (qc)) ∧ w19.cell? ⟨w17.heap.size, 3, none⟩ = some (.int .i64 (qd)) ∧ w19.cell? ⟨w17.heap.size, 4, none⟩ = some (.int .i64 (qe)) ∧ w19.cell? ⟨w17.heap.size, 5, none⟩ = some (.bool qf) ∧ w19.cell? ⟨w17.heap.size, 6, none⟩ = some (.int .i64 (qg)) ∧ w19.cell? ⟨w17.heap.size, 7, none⟩ = some (.int .i64 (qh)) ∧ w19.cell? ⟨w17.heap.size, 8, none⟩ = some (.int .i64 (qi)) ∧ w19.cell? ⟨w17.heap.size, 9, none⟩ = some (.int .i64 (qj)) ∧ w19.cell? ⟨w15.heap.size, 0, none⟩ = some (.int .i64 m8) ∧ w19.cell? ⟨w15.heap.size, 1, none⟩ = some (.slice A8 l8.length c8) ∧ w19.ownsRow (b8) 42 10 (.slice A8 l8.length c8) (l8.length) (hds l8) ∧ Below w.heap.size w w19 := ⟨keep_cell (hb) hS.1, keep_cell (hb) hS.2.1, keep_cell (hb) hS.2.2.1, keep_cell (hb) hS.2.2.2.1, keep_cell (hb) hS.2.2.2.2.1, keep_cell (hb) hS.2.2.2.2.2.1, keep_cell (hb) hS.2.2.2.2.2.2.1, keep_cell (hb) hS.2.2.2.2.2.2.2.1, keep_cell (hb) hS.2.2.2.2.2.2.2.2.1, keep_cell (hb) hS.2.2.2.2.2.2.2.2.2.1, keep_cell (hb) hS.2.2.2.2.2.2.2.2.2.2.1, keep_cell (hb) hS.2.2.2.2.2.2.2.2.2.2.2.1, own_below hS.2.2.2.2.2.2.2.2.2.2.2.2.1 (hb), below_via hS.2.2.2.2.2.2.2.2.2.2.2.2.2 (hb)⟩
  (try clear hS)
  have hS := hT
  clear hT
  have hB := hS.2.2.2.2.2.2.2.2.2.2.2.2.2
  have hzw : w.heap.size ≤ w19.heap.size := hB.size
  have hz1 : w17.heap.size < w19.heap.size := World.block_lt_of_cell? w19 _ (hS.1)
  have hz2 : w15.heap.size < w19.heap.size := World.block_lt_of_cell? w19 _ (hS.2.2.2.2.2.2.2.2.2.2.1)
  clear hb
  go_upto_region 38 with fail
  obtain ⟨w20, hww20⟩ : ∃ W, W = w19.alloc (.cells #[.int .i64 (qa), .bool qb, .int .i64 (qc), .int .i64 (qd), .int .i64 (qe), .bool qf, .int .i64 (qg), .int .i64 (qh), .int .i64 (qi), .int .i64 (qj)] 42) := ⟨_, rfl⟩
  have hT : w20.cell? ⟨w19.heap.size, 0, none⟩ = some (.int .i64 (qa)) ∧ w20.cell? ⟨w19.heap.size, 1, none⟩ = some (.bool qb) ∧ w20.cell? ⟨w19.heap.size, 2, none⟩ = some (.int .i64 (qc)) ∧ w20.cell? ⟨w19.heap.size, 3, none⟩ = some (.int .i64 (qd)) ∧ w20.cell? ⟨w19.heap.size, 4, none⟩ = some (.int .i64 (qe)) ∧ w20.cell? ⟨w19.heap.size, 5, none⟩ = some (.bool qf) ∧ w20.cell? ⟨w19.heap.size, 6, none⟩ = some (.int .i64 (qg)) ∧ w20.cell? ⟨w19.heap.size, 7, none⟩ = some (.int .i64 (qh)) ∧ w20.cell? ⟨w19.heap.size, 8, none⟩ = some (.int .i64 (qi)) ∧ w20.cell? ⟨w19.heap.size, 9, none⟩ = some (.int .i64 (qj)) ∧ w20.cell? ⟨w17.heap.size, 0, none⟩ = some (.int .i64 (qa)) ∧ w20.cell? ⟨w17.heap.size, 1, none⟩ = some (.bool qb) ∧ w20.cell? ⟨w17.heap.size, 2, none⟩ = some (.int .i64 (qc)) ∧ w20.cell? ⟨w17.heap.size, 3, none⟩ = some (.int .i64 (qd)) ∧ w20.cell? ⟨w17.heap.size, 4, none⟩ = some (.int .i64 (qe)) ∧ w20.cell? ⟨w17.heap.size, 5, none⟩ = some (.bool qf) ∧ w20.cell? ⟨w17.heap.size, 6, none⟩ = some (.int .i64 (qg)) ∧ w20.cell? ⟨w17.heap.size, 7, none⟩ = some (.int .i64 (qh)) ∧ w20.cell? ⟨w17.heap.size, 8, none⟩ = some (.int .i64 (qi)) ∧ w20.cell? ⟨w17.heap.size, 9, none⟩ = some (.int .i64 (qj)) ∧ w20.cell? ⟨w15.heap.size, 0, none⟩ = some (.int .i64 m8) ∧ w20.cell? ⟨w15.heap.size, 1, none⟩ = some (.slice A8 l8.length c8) ∧ w20.ownsRow (b8) 42 10 (.slice A8 l8.length c8) (l8.length) (hds l8) ∧ Below w.heap.size w w20 := by
    rw [hww20]
    exact ⟨by simp [go_sem], by simp [go_sem], by simp [go_sem], by simp [go_sem], by simp [go_sem], by simp [go_sem], by simp [go_sem], by simp [go_sem], by simp [go_sem], by simp [go_sem], keep_cell (by go_grown) hS.1, keep_cell (by go_grown) hS.2.1, keep_cell (by go_grown) hS.2.2.1, keep_cell (by go_grown) hS.2.2.2.1, keep_cell (by go_grown) hS.2.2.2.2.1, keep_cell (by go_grown) hS.2.2.2.2.2.1, keep_cell (by go_grown) hS.2.2.2.2.2.2.1, keep_cell (by go_grown) hS.2.2.2.2.2.2.2.1, keep_cell (by go_grown) hS.2.2.2.2.2.2.2.2.1, keep_cell (by go_grown) hS.2.2.2.2.2.2.2.2.2.1, keep_cell (by go_grown) hS.2.2.2.2.2.2.2.2.2.2.1, keep_cell (by go_grown) hS.2.2.2.2.2.2.2.2.2.2.2.1, own_below hS.2.2.2.2.2.2.2.2.2.2.2.2.1 (by go_grown), below_via hS.2.2.2.2.2.2.2.2.2.2.2.2.2 (by go_grown)⟩
  rw [← hww20]
  clear hS hww20
  have hS := hT
  clear hT
  (try clear hB hzw)
  have hB := hS.2.2.2.2.2.2.2.2.2.2.2.2.2.2.2.2.2.2.2.2.2.2.2
  have hzw : w.heap.size ≤ w20.heap.size := hB.size
  have hz1 : w19.heap.size < w20.heap.size := World.block_lt_of_cell? w20 _ (hS.1)
  have hz2 : w17.heap.size < w20.heap.size := World.block_lt_of_cell? w20 _ (hS.2.2.2.2.2.2.2.2.2.2.1)
  have hz3 : w15.heap.size < w20.heap.size := World.block_lt_of_cell? w20 _ (hS.2.2.2.2.2.2.2.2.2.2.2.2.2.2.2.2.2.2.2.2.1)
  go_wp2
  go_returns
  exact ⟨ret_eq (by simp), by go_grown⟩
end Go.Proofs.Ytbeojfhakmbacaa
namespace Go.Proofs.Ytbeojfhakmbacaa
open Go.RowKit Go.WideShapes Go.ChangeShapes Go.ChangeAt Go.Joins Go.Deep
section
variable {H : Type} {enc : TypeId × Value → H} {P : Program} {w : World} {base : Nat} {spare : Nat → Bool} {held : Bool}
end
end Go.Proofs.Ytbeojfhakmbacaa
namespace Go.Proofs.Ytbeojfhakmbacaa
open Go.RowKit Go.WideShapes Go.ChangeShapes Go.ChangeAt Go.Joins Go.Deep
section
variable {H : Type} {enc : TypeId × Value → H} {P : Program} {w : World} {base : Nat} {spare : Nat → Bool} {held : Bool}
theorem u8_of_wf {x : Int} (h : (Lit.int .u8 x).wf = true) : 0 ≤ x ∧ x ≤ 255 := by
  have h1 : IntKind.u8.min = 0 := rfl
  have h2 : IntKind.u8.max = 255 := rfl
  simp only [Lit.wf, Bool.and_eq_true, decide_eq_true_eq] at h
  omega
theorem open_code {t e : TypeId} {v : Value} {d : DataW H} {p : List MemPlace} {r : Reach} {b0 : Nat} (ht : P.underlying t = some (.slice e)) (he : P.underlying e = some (.int .u8)) (hC : P.cellsOf e = 1) (hv : Value.okWide P w r b0 t v) (h : DataW.Trod enc P w base spare held t v d p) :
    ∃ (A : Option Addr) (n c : Nat), v = .slice A n c ∧ CodeOk w A n := by
  obtain ⟨fuel, hf⟩ := h
  have hvc : v.cells.toList = [v] := by
    obtain ⟨a, n, c, rfl, _⟩ := okWide_slice ht hv
    rfl
  rw [hvc] at hf
  rcases open_slice ht hf with ⟨h2, _⟩ | ⟨a, len, cap, m, n, D, Pl, h2, hb, hl, hm, hmm, hx, hi⟩
  · injection h2 with h2 _
    exact ⟨none, 0, 0, h2, fun hn => absurd hn (by omega)⟩
  · injection h2 with h2 _
    refine ⟨some a, len, cap, h2, fun hn => ⟨a, rfl, ?_, ?_⟩⟩
    · have him : 0 < m := by rw [hmm]; split <;> omega
      obtain ⟨cs', hc, ht'⟩ := hi 0 him
      rw [hC] at hc
      obtain ⟨_, hcl, hat⟩ := World.cells?_some hc
      match cs', hcl with
      | [u], _ =>
        have := hat 0 (by omega)
        have h3 := World.block_lt_of_cell? w _ this
        simpa [block_of_add] using h3
    · intro i hil
      have him : i < m := by rw [hmm]; split <;> omega
      obtain ⟨cs', hc, ht'⟩ := hi i him
      rw [hC] at hc
      obtain ⟨_, hcl, hat⟩ := World.cells?_some hc
      rw [Nat.mul_one] at hat
      match cs', hcl with
      | [u], _ =>
        obtain ⟨x, k0, _, hw⟩ := DataW.trod_int he ht'
        simp at k0
        subst k0
        obtain ⟨b0, b1⟩ := u8_of_wf hw
        have := hat 0 (by omega)
        exact ⟨x, b0, b1, by simpa [Addr.add] using this⟩
end
end Go.Proofs.Ytbeojfhakmbacaa
namespace Go.Proofs.Ytbeojfhakmbacaa
open Go.RowKit Go.WideShapes Go.ChangeShapes Go.ChangeAt Go.Joins Go.Deep
set_option maxRecDepth 100000 in
theorem fnAging_holds : Rows.FnAgingSaid :=
  OpenClaim.holds_of_wide 11 Try.f11 rfl rfl rfl rfl rfl rfl rfl ⟨rfl, rfl, rfl, rfl, rfl⟩ rfl rfl rfl rfl rfl (by kernel_rfl) Try.func11 (by kernel_rfl)
    (of_decide_eq_true (by kernel_rfl)) (by unfold Func.isWrapper; rw [if_neg (by decide +kernel)]; exact ⟨rfl, rfl⟩)
    (fun os started H enc _ => law_lift (C := Try.checked) (s := Rows.fnAgingSpec) (tb := 4) Try.laidOut Try.own started (by kernel_rfl) Try.func11
      (ChangeSpec.witness6 (enc := enc) (C := Try.checked) false ⟨#[], #[.slice none 0 0], []⟩ 8 (by kernel_rfl) (by kernel_rfl) (by kernel_rfl) (by kernel_rfl))
      rfl rfl Try.underlying4 (by intro t ht; simp [Try.params11] at ht; subst ht; exact ⟨by kernel_rfl, of_decide_eq_true (by kernel_rfl)⟩)
      (by intro ds hl; match ds, hl with | [d0], _ => rfl)
      (by
        intro W base args ds ps hval hA hlt hsz
        rw [Try.params11] at hA hval hsz
        obtain ⟨v0, d0, rfl, rfl, h0⟩ := trodAll_one hA
        obtain ⟨A0, n0, c0, rfl, r0⟩ := open_code Try.underlying22 Try.underlying5 (by kernel_rfl) (hval 0 22 v0 rfl rfl) h0
        exact fnAging A0 n0 c0 W (hide r0)))
#print axioms fnAging_holds
end Go.Proofs.Ytbeojfhakmbacaa
