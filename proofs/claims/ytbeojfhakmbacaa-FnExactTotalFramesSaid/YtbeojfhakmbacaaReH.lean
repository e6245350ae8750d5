/- Contracts: all frames. -/
import Derived.Test.YtbeojfhakmbacaaReMathC
import Derived.Test.YtbeojfhakmbacaaReD
import Derived.Test.YtbeojfhakmbacaaReE
namespace Go.Proofs.Ytbeojfhakmbacaa
open Go.RowKit

set_option maxHeartbeats 4000000 in
theorem TotalFrames_c (m : Int) (A : Option Addr) (c : Nat) (l : List Hd) (w : World) (h1 : Hid (Reads w w.heap.size 10 A l.length (hds l))) (b1 : l.length ≤ 4000000)  : Calls Try.prog 21 #[.agg #[.int .i64 m, .slice A l.length c]] w (Gives w (.tuple #[.int .i64 (tfV m l), .bool (okR m l)])) := by
  rcases hk : okR m l with _ | _
  · have HF := hide (show tfV m l = 0 ∧ okR m l = false from ⟨by unfold tfV; rw [if_neg (by rw [hk]; decide)], hk⟩)
    rw [← hk]
    go_enter Try.func21, Try.ntmps21
    go_wp2_with (first | (go_at_call 18; refine (validRecv_c _ _ _ l _ (hide (by refine reads_below h1.out ?_; go_grown)) b1).mono ?_; rintro e w1 ⟨rfl, hb⟩; have hT : w1.cell? ⟨w.heap.size, 0, none⟩ = some (.int .i64 m) ∧ w1.cell? ⟨w.heap.size, 1, none⟩ = some (.slice A l.length c) ∧ Below w.heap.size w w1 := (fun W h hb => ⟨keep_cell (hb) h.1, keep_cell (hb) h.2.1, below_via h.2.2 (hb)⟩ : ∀ W : World, (W.cell? ⟨w.heap.size, 0, none⟩ = some (.int .i64 m) ∧ W.cell? ⟨w.heap.size, 1, none⟩ = some (.slice A l.length c) ∧ Below w.heap.size w W) → Below W.heap.size W w1 → (w1.cell? ⟨w.heap.size, 0, none⟩ = some (.int .i64 m) ∧ w1.cell? ⟨w.heap.size, 1, none⟩ = some (.slice A l.length c) ∧ Below w.heap.size w w1)) _ (by first | (with_reducible assumption) | (exact hS) | (exact ⟨hS.1, hS.2.1, (by go_grown)⟩) | (exact ⟨(by first | (with_reducible assumption) | (simp [go_sem]; done) | ((simp only [go_sem]); (with_reducible assumption)) | ((refine keep_cell ?_ (by with_reducible assumption)); go_grown; done) | (simp [go_sem, *]; done)), (by first | (with_reducible assumption) | (simp [go_sem]; done) | ((simp only [go_sem]); (with_reducible assumption)) | ((refine keep_cell ?_ (by with_reducible assumption)); go_grown; done) | (simp [go_sem, *]; done)), (by go_grown)⟩)) hb; (try clear hS); have hS := hT; clear hT; have hB := hS.2.2; have hzw : w.heap.size ≤ w1.heap.size := hB.size; have hz1 : w.heap.size < w1.heap.size := World.block_lt_of_cell? w1 _ (hS.1); clear hb))
    go_returns
    exact ⟨ret_eq (by rw [HF.out.1, HF.out.2]; simp), by go_grown⟩
  have HF := hide (show tfV m l = totF l ∧ okR m l = true from ⟨by unfold tfV; rw [if_pos hk], hk⟩)
  have HK := hide hk
  have h6 : l.length ≤ 6 := (okR_iff hk).2.1
  rw [← hk]
  go_enter Try.func21, Try.ntmps21
  go_wp2_with (first | (go_at_call 18; refine (validRecv_c _ _ _ l _ (hide (by refine reads_below h1.out ?_; go_grown)) b1).mono ?_; rintro e w1 ⟨rfl, hb⟩; have hT : w1.cell? ⟨w.heap.size, 0, none⟩ = some (.int .i64 m) ∧ w1.cell? ⟨w.heap.size, 1, none⟩ = some (.slice A l.length c) ∧ Below w.heap.size w w1 := (fun W h hb => ⟨keep_cell (hb) h.1, keep_cell (hb) h.2.1, below_via h.2.2 (hb)⟩ : ∀ W : World, (W.cell? ⟨w.heap.size, 0, none⟩ = some (.int .i64 m) ∧ W.cell? ⟨w.heap.size, 1, none⟩ = some (.slice A l.length c) ∧ Below w.heap.size w W) → Below W.heap.size W w1 → (w1.cell? ⟨w.heap.size, 0, none⟩ = some (.int .i64 m) ∧ w1.cell? ⟨w.heap.size, 1, none⟩ = some (.slice A l.length c) ∧ Below w.heap.size w w1)) _ (by first | (with_reducible assumption) | (exact hS) | (exact ⟨hS.1, hS.2.1, (by go_grown)⟩) | (exact ⟨(by first | (with_reducible assumption) | (simp [go_sem]; done) | ((simp only [go_sem]); (with_reducible assumption)) | ((refine keep_cell ?_ (by with_reducible assumption)); go_grown; done) | (simp [go_sem, *]; done)), (by first | (with_reducible assumption) | (simp [go_sem]; done) | ((simp only [go_sem]); (with_reducible assumption)) | ((refine keep_cell ?_ (by with_reducible assumption)); go_grown; done) | (simp [go_sem, *]; done)), (by go_grown)⟩)) hb; (try clear hS); have hS := hT; clear hT; have hB := hS.2.2; have hzw : w.heap.size ≤ w1.heap.size := hB.size; have hz1 : w.heap.size < w1.heap.size := World.block_lt_of_cell? w1 _ (hS.1); clear hb))
  go_loopw [4, 13] (fun sv iv wr => ∃ (i : Nat) (S : Int), i ≤ l.length ∧ iv = .int .i64 i ∧ sv = .int .i64 S ∧ Hid (S = totF (l.take i)) ∧ (0 ≤ S ∧ S ≤ 9999 * i) ∧ (wr.cell? ⟨w.heap.size, 0, none⟩ = some (.int .i64 m) ∧ wr.cell? ⟨w.heap.size, 1, none⟩ = some (.slice A l.length c) ∧ Below w.heap.size w wr)) (fun _ iv _ => l.length - (intOf iv).toNat)
  case atStart => exact ⟨0, 0, by omega, rfl, rfl, hide (tot_nil l).symm, by omega, by first | (with_reducible assumption) | (exact hS) | (exact ⟨hS.1, hS.2.1, (by go_grown)⟩) | (exact ⟨(by first | (with_reducible assumption) | (simp [go_sem]; done) | ((simp only [go_sem]); (with_reducible assumption)) | ((refine keep_cell ?_ (by with_reducible assumption)); go_grown; done) | (simp [go_sem, *]; done)), (by first | (with_reducible assumption) | (simp [go_sem]; done) | ((simp only [go_sem]); (with_reducible assumption)) | ((refine keep_cell ?_ (by with_reducible assumption)); go_grown; done) | (simp [go_sem, *]; done)), (by go_grown)⟩)⟩
  case round =>
    obtain ⟨i, S, hi, rfl, rfl, HS, ⟨s0, s1⟩, hS⟩ := hrel
    have hS2 := hS
    obtain ⟨r0, r1, hB⟩ := hS2
    have hzw : w.heap.size ≤ wr.heap.size := hB.size
    have hz1 : w.heap.size < wr.heap.size := World.block_lt_of_cell? wr _ (hS.1)
    by_cases hlt : i < l.length
    rotate_left
    · obtain rfl : i = l.length := by omega
      have HT := hide (show totF l = S from by rw [HS.out, List.take_length])
      go_wp2
      go_returns
      exact ⟨ret_eq (by rw [HF.out.1, HF.out.2, HT.out]; simp), by go_grown⟩
    obtain ⟨⟨a, ⟨eo, ea, eb⟩, et, ⟨oo, oa, ob⟩, ot, f⟩, he⟩ : ∃ q, hx l i = q := ⟨_, rfl⟩
    obtain ⟨_, ⟨f0, f1⟩, _⟩ := okH_bd HK.out hlt he
    have HT := hide (show S + f = totF (l.take (i + 1)) from by rw [tot_succ hlt (f := f) (by rw [he]), HS.out])
    obtain ⟨a1, rfl, ekb, e0, e1, e2, e3, e4, e5, e6, e7, e8, e9⟩ := (h1.out.below hB).hd (k := i) (by omega) he
    clear he
    have ew : IntKind.i64.wrap (S + f) = S + f := IntWalk.i64_in _ (by omega)
    go_wp2
    go_roundw
    case rel => exact ⟨i + 1, S + f, by omega, by go_num, rfl, HT, by omega, by first | (with_reducible assumption) | (exact hS) | (exact ⟨hS.1, hS.2.1, (by go_grown)⟩) | (exact ⟨(by first | (with_reducible assumption) | (simp [go_sem]; done) | ((simp only [go_sem]); (with_reducible assumption)) | ((refine keep_cell ?_ (by with_reducible assumption)); go_grown; done) | (simp [go_sem, *]; done)), (by first | (with_reducible assumption) | (simp [go_sem]; done) | ((simp only [go_sem]); (with_reducible assumption)) | ((refine keep_cell ?_ (by with_reducible assumption)); go_grown; done) | (simp [go_sem, *]; done)), (by go_grown)⟩)⟩
    case measure => simp [intOf]; omega

set_option maxHeartbeats 4000000 in
theorem sTotalFrames_c (m : Int) (A : Option Addr) (c : Nat) (l : List Hd) (w : World) (h1 : Hid (Reads w w.heap.size 10 A l.length (hds l))) (b1 : l.length ≤ 4000000)  : Calls Try.prog 32 #[.agg #[.int .i64 m, .slice A l.length c]] w (Gives w (.tuple #[.int .i64 (tfV m l), .bool (okR m l)])) := by
  rcases hk : okR m l with _ | _
  · have HF := hide (show tfV m l = 0 ∧ okR m l = false from ⟨by unfold tfV; rw [if_neg (by rw [hk]; decide)], hk⟩)
    rw [← hk]
    go_enter Try.func32, Try.ntmps32
    go_wp2_with (first | (go_at_call 58; refine (l9Good_c _ _ _ l _ (hide (by refine reads_below h1.out ?_; go_grown)) b1).mono ?_; rintro e w1 ⟨rfl, hb⟩; have hT : w1.cell? ⟨w.heap.size, 0, none⟩ = some (.int .i64 m) ∧ w1.cell? ⟨w.heap.size, 1, none⟩ = some (.slice A l.length c) ∧ Below w.heap.size w w1 := (fun W h hb => ⟨keep_cell (hb) h.1, keep_cell (hb) h.2.1, below_via h.2.2 (hb)⟩ : ∀ W : World, (W.cell? ⟨w.heap.size, 0, none⟩ = some (.int .i64 m) ∧ W.cell? ⟨w.heap.size, 1, none⟩ = some (.slice A l.length c) ∧ Below w.heap.size w W) → Below W.heap.size W w1 → (w1.cell? ⟨w.heap.size, 0, none⟩ = some (.int .i64 m) ∧ w1.cell? ⟨w.heap.size, 1, none⟩ = some (.slice A l.length c) ∧ Below w.heap.size w w1)) _ (by first | (with_reducible assumption) | (exact hS) | (exact ⟨hS.1, hS.2.1, (by go_grown)⟩) | (exact ⟨(by first | (with_reducible assumption) | (simp [go_sem]; done) | ((simp only [go_sem]); (with_reducible assumption)) | ((refine keep_cell ?_ (by with_reducible assumption)); go_grown; done) | (simp [go_sem, *]; done)), (by first | (with_reducible assumption) | (simp [go_sem]; done) | ((simp only [go_sem]); (with_reducible assumption)) | ((refine keep_cell ?_ (by with_reducible assumption)); go_grown; done) | (simp [go_sem, *]; done)), (by go_grown)⟩)) hb; (try clear hS); have hS := hT; clear hT; have hB := hS.2.2; have hzw : w.heap.size ≤ w1.heap.size := hB.size; have hz1 : w.heap.size < w1.heap.size := World.block_lt_of_cell? w1 _ (hS.1); clear hb))
    go_returns
    exact ⟨ret_eq (by rw [HF.out.1, HF.out.2]; simp), by go_grown⟩
  have HF := hide (show tfV m l = totF l ∧ okR m l = true from ⟨by unfold tfV; rw [if_pos hk], hk⟩)
  have HK := hide hk
  have h6 : l.length ≤ 6 := (okR_iff hk).2.1
  rw [← hk]
  go_enter Try.func32, Try.ntmps32
  go_wp2_with (first | (go_at_call 58; refine (l9Good_c _ _ _ l _ (hide (by refine reads_below h1.out ?_; go_grown)) b1).mono ?_; rintro e w1 ⟨rfl, hb⟩; have hT : w1.cell? ⟨w.heap.size, 0, none⟩ = some (.int .i64 m) ∧ w1.cell? ⟨w.heap.size, 1, none⟩ = some (.slice A l.length c) ∧ Below w.heap.size w w1 := (fun W h hb => ⟨keep_cell (hb) h.1, keep_cell (hb) h.2.1, below_via h.2.2 (hb)⟩ : ∀ W : World, (W.cell? ⟨w.heap.size, 0, none⟩ = some (.int .i64 m) ∧ W.cell? ⟨w.heap.size, 1, none⟩ = some (.slice A l.length c) ∧ Below w.heap.size w W) → Below W.heap.size W w1 → (w1.cell? ⟨w.heap.size, 0, none⟩ = some (.int .i64 m) ∧ w1.cell? ⟨w.heap.size, 1, none⟩ = some (.slice A l.length c) ∧ Below w.heap.size w w1)) _ (by first | (with_reducible assumption) | (exact hS) | (exact ⟨hS.1, hS.2.1, (by go_grown)⟩) | (exact ⟨(by first | (with_reducible assumption) | (simp [go_sem]; done) | ((simp only [go_sem]); (with_reducible assumption)) | ((refine keep_cell ?_ (by with_reducible assumption)); go_grown; done) | (simp [go_sem, *]; done)), (by first | (with_reducible assumption) | (simp [go_sem]; done) | ((simp only [go_sem]); (with_reducible assumption)) | ((refine keep_cell ?_ (by with_reducible assumption)); go_grown; done) | (simp [go_sem, *]; done)), (by go_grown)⟩)) hb; (try clear hS); have hS := hT; clear hT; have hB := hS.2.2; have hzw : w.heap.size ≤ w1.heap.size := hB.size; have hz1 : w.heap.size < w1.heap.size := World.block_lt_of_cell? w1 _ (hS.1); clear hb))
  go_loopw [4, 5] (fun sv iv wr => ∃ (i : Nat) (S : Int), i ≤ l.length ∧ iv = .int .i64 i ∧ sv = .int .i64 S ∧ Hid (S = totF (l.take i)) ∧ (0 ≤ S ∧ S ≤ 9999 * i) ∧ (wr.cell? ⟨w.heap.size, 0, none⟩ = some (.int .i64 m) ∧ wr.cell? ⟨w.heap.size, 1, none⟩ = some (.slice A l.length c) ∧ Below w.heap.size w wr)) (fun _ iv _ => l.length - (intOf iv).toNat)
  case atStart => exact ⟨0, 0, by omega, rfl, rfl, hide (tot_nil l).symm, by omega, by first | (with_reducible assumption) | (exact hS) | (exact ⟨hS.1, hS.2.1, (by go_grown)⟩) | (exact ⟨(by first | (with_reducible assumption) | (simp [go_sem]; done) | ((simp only [go_sem]); (with_reducible assumption)) | ((refine keep_cell ?_ (by with_reducible assumption)); go_grown; done) | (simp [go_sem, *]; done)), (by first | (with_reducible assumption) | (simp [go_sem]; done) | ((simp only [go_sem]); (with_reducible assumption)) | ((refine keep_cell ?_ (by with_reducible assumption)); go_grown; done) | (simp [go_sem, *]; done)), (by go_grown)⟩)⟩
  case round =>
    obtain ⟨i, S, hi, rfl, rfl, HS, ⟨s0, s1⟩, hS⟩ := hrel
    have hS2 := hS
    obtain ⟨r0, r1, hB⟩ := hS2
    have hzw : w.heap.size ≤ wr.heap.size := hB.size
    have hz1 : w.heap.size < wr.heap.size := World.block_lt_of_cell? wr _ (hS.1)
    by_cases hlt : i < l.length
    rotate_left
    · obtain rfl : i = l.length := by omega
      have HT := hide (show totF l = S from by rw [HS.out, List.take_length])
      go_wp2
      go_returns
      exact ⟨ret_eq (by rw [HF.out.1, HF.out.2, HT.out]; simp), by go_grown⟩
    obtain ⟨⟨a, ⟨eo, ea, eb⟩, et, ⟨oo, oa, ob⟩, ot, f⟩, he⟩ : ∃ q, hx l i = q := ⟨_, rfl⟩
    obtain ⟨_, ⟨f0, f1⟩, _⟩ := okH_bd HK.out hlt he
    have HT := hide (show S + f = totF (l.take (i + 1)) from by rw [tot_succ hlt (f := f) (by rw [he]), HS.out])
    obtain ⟨a1, rfl, ekb, e0, e1, e2, e3, e4, e5, e6, e7, e8, e9⟩ := (h1.out.below hB).hd (k := i) (by omega) he
    clear he
    have ew : IntKind.i64.wrap (S + f) = S + f := IntWalk.i64_in _ (by omega)
    go_wp2
    go_roundw
    case rel => exact ⟨i + 1, S + f, by omega, by go_num, rfl, HT, by omega, by first | (with_reducible assumption) | (exact hS) | (exact ⟨hS.1, hS.2.1, (by go_grown)⟩) | (exact ⟨(by first | (with_reducible assumption) | (simp [go_sem]; done) | ((simp only [go_sem]); (with_reducible assumption)) | ((refine keep_cell ?_ (by with_reducible assumption)); go_grown; done) | (simp [go_sem, *]; done)), (by first | (with_reducible assumption) | (simp [go_sem]; done) | ((simp only [go_sem]); (with_reducible assumption)) | ((refine keep_cell ?_ (by with_reducible assumption)); go_grown; done) | (simp [go_sem, *]; done)), (by go_grown)⟩)⟩
    case measure => simp [intOf]; omega
end Go.Proofs.Ytbeojfhakmbacaa
