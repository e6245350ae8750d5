/- Contracts: which aircraft it is. -/
import Derived.Test.YtbeojfhakmbacaaReMathC
import Derived.Test.YtbeojfhakmbacaaReB
namespace Go.Proofs.Ytbeojfhakmbacaa
open Go.RowKit

set_option maxHeartbeats 4000000 in
theorem heardAt_c (m : Int) (A : Option Addr) (c : Nat) (l : List Hd) (x : Int) (w : World) (h1 : Hid (Reads w w.heap.size 10 A l.length (hds l))) (b1 : l.length ≤ 4000000)  : Calls Try.prog 68 #[.agg #[.int .i64 m, .slice A l.length c], .int .i64 x] w (Gives w (.int .i64 (fndV l x))) := by
  go_enter Try.func68, Try.ntmps68
  go_wp2
  go_loopw [10] (fun iv wr => ∃ i : Nat, i ≤ l.length ∧ iv = .int .i64 i ∧ Hid (noL l x i) ∧ (wr.cell? ⟨w.heap.size, 0, none⟩ = some (.int .i64 m) ∧ wr.cell? ⟨w.heap.size, 1, none⟩ = some (.slice A l.length c) ∧ Below w.heap.size w wr)) (fun iv _ => l.length - (intOf iv).toNat)
  case atStart => exact ⟨0, by omega, rfl, hide noL_zero, by first | (with_reducible assumption) | (exact hS) | (exact ⟨hS.1, hS.2.1, (by go_grown)⟩) | (exact ⟨(by first | (with_reducible assumption) | (simp [go_sem]; done) | ((simp only [go_sem]); (with_reducible assumption)) | ((refine keep_cell ?_ (by with_reducible assumption)); go_grown; done) | (simp [go_sem, *]; done)), (by first | (with_reducible assumption) | (simp [go_sem]; done) | ((simp only [go_sem]); (with_reducible assumption)) | ((refine keep_cell ?_ (by with_reducible assumption)); go_grown; done) | (simp [go_sem, *]; done)), (by go_grown)⟩)⟩
  case round =>
    obtain ⟨i, hi, rfl, HN, hS⟩ := hrel
    have hS2 := hS
    obtain ⟨r0, r1, hB⟩ := hS2
    have hzw : w.heap.size ≤ wr.heap.size := hB.size
    have hz1 : w.heap.size < wr.heap.size := World.block_lt_of_cell? wr _ (hS.1)
    by_cases hlt : i < l.length
    rotate_left
    · obtain rfl : i = l.length := by omega
      have HF := hide (fnd_none HN.out)
      go_wp2
      go_returns
      exact ⟨ret_eq (by rw [HF.out]; simp), by go_grown⟩
    obtain ⟨⟨a, ⟨eo, ea, eb⟩, et, ⟨oo, oa, ob⟩, ot, f⟩, he⟩ : ∃ q, hx l i = q := ⟨_, rfl⟩
    obtain ⟨a1, rfl, ekb, e0, e1, e2, e3, e4, e5, e6, e7, e8, e9⟩ := (h1.out.below hB).hd (k := i) (by omega) he
    have HE := hide he
    clear he
    by_cases hc : a = x
    · have HF := hide (fnd_some hlt HN.out (by rw [HE.out]; exact hc))
      have hcb : (a == x) = true := beq_iff_eq.2 hc
      clear hc
      go_wp2
      go_returns
      exact ⟨ret_eq (by rw [HF.out]; simp), by go_grown⟩
    have HN2 := hide (noL_succ HN.out (by rw [HE.out]; exact hc))
    have hcb : (a == x) = false := beq_eq_false_iff_ne.2 hc
    clear hc
    go_wp2
    go_roundw
    case rel => exact ⟨i + 1, by omega, by go_num, HN2, by first | (with_reducible assumption) | (exact hS) | (exact ⟨hS.1, hS.2.1, (by go_grown)⟩) | (exact ⟨(by first | (with_reducible assumption) | (simp [go_sem]; done) | ((simp only [go_sem]); (with_reducible assumption)) | ((refine keep_cell ?_ (by with_reducible assumption)); go_grown; done) | (simp [go_sem, *]; done)), (by first | (with_reducible assumption) | (simp [go_sem]; done) | ((simp only [go_sem]); (with_reducible assumption)) | ((refine keep_cell ?_ (by with_reducible assumption)); go_grown; done) | (simp [go_sem, *]; done)), (by go_grown)⟩)⟩
    case measure => simp [intOf]; omega

set_option maxHeartbeats 4000000 in
theorem l9Find_c (m : Int) (A : Option Addr) (c : Nat) (l : List Hd) (x : Int) (w : World) (h1 : Hid (Reads w w.heap.size 10 A l.length (hds l))) (b1 : l.length ≤ 4000000)  : Calls Try.prog 75 #[.agg #[.int .i64 m, .slice A l.length c], .int .i64 x] w (Gives w (.int .i64 (fndV l x))) := by
  go_enter Try.func75, Try.ntmps75
  go_wp2
  go_loopw [5] (fun iv wr => ∃ i : Nat, i ≤ l.length ∧ iv = .int .i64 i ∧ Hid (noL l x i) ∧ (wr.cell? ⟨w.heap.size, 0, none⟩ = some (.int .i64 m) ∧ wr.cell? ⟨w.heap.size, 1, none⟩ = some (.slice A l.length c) ∧ Below w.heap.size w wr)) (fun iv _ => l.length - (intOf iv).toNat)
  case atStart => exact ⟨0, by omega, rfl, hide noL_zero, by first | (with_reducible assumption) | (exact hS) | (exact ⟨hS.1, hS.2.1, (by go_grown)⟩) | (exact ⟨(by first | (with_reducible assumption) | (simp [go_sem]; done) | ((simp only [go_sem]); (with_reducible assumption)) | ((refine keep_cell ?_ (by with_reducible assumption)); go_grown; done) | (simp [go_sem, *]; done)), (by first | (with_reducible assumption) | (simp [go_sem]; done) | ((simp only [go_sem]); (with_reducible assumption)) | ((refine keep_cell ?_ (by with_reducible assumption)); go_grown; done) | (simp [go_sem, *]; done)), (by go_grown)⟩)⟩
  case round =>
    obtain ⟨i, hi, rfl, HN, hS⟩ := hrel
    have hS2 := hS
    obtain ⟨r0, r1, hB⟩ := hS2
    have hzw : w.heap.size ≤ wr.heap.size := hB.size
    have hz1 : w.heap.size < wr.heap.size := World.block_lt_of_cell? wr _ (hS.1)
    by_cases hlt : i < l.length
    rotate_left
    · obtain rfl : i = l.length := by omega
      have HF := hide (fnd_none HN.out)
      go_wp2
      go_returns
      exact ⟨ret_eq (by rw [HF.out]; simp), by go_grown⟩
    obtain ⟨⟨a, ⟨eo, ea, eb⟩, et, ⟨oo, oa, ob⟩, ot, f⟩, he⟩ : ∃ q, hx l i = q := ⟨_, rfl⟩
    obtain ⟨a1, rfl, ekb, e0, e1, e2, e3, e4, e5, e6, e7, e8, e9⟩ := (h1.out.below hB).hd (k := i) (by omega) he
    have HE := hide he
    clear he
    by_cases hc : a = x
    · have HF := hide (fnd_some hlt HN.out (by rw [HE.out]; exact hc))
      have hcb : (a == x) = true := beq_iff_eq.2 hc
      clear hc
      go_wp2
      go_returns
      exact ⟨ret_eq (by rw [HF.out]; simp), by go_grown⟩
    have HN2 := hide (noL_succ HN.out (by rw [HE.out]; exact hc))
    have hcb : (a == x) = false := beq_eq_false_iff_ne.2 hc
    clear hc
    go_wp2
    go_roundw
    case rel => exact ⟨i + 1, by omega, by go_num, HN2, by first | (with_reducible assumption) | (exact hS) | (exact ⟨hS.1, hS.2.1, (by go_grown)⟩) | (exact ⟨(by first | (with_reducible assumption) | (simp [go_sem]; done) | ((simp only [go_sem]); (with_reducible assumption)) | ((refine keep_cell ?_ (by with_reducible assumption)); go_grown; done) | (simp [go_sem, *]; done)), (by first | (with_reducible assumption) | (simp [go_sem]; done) | ((simp only [go_sem]); (with_reducible assumption)) | ((refine keep_cell ?_ (by with_reducible assumption)); go_grown; done) | (simp [go_sem, *]; done)), (by go_grown)⟩)⟩
    case measure => simp [intOf]; omega
end Go.Proofs.Ytbeojfhakmbacaa
